/- impl's check: a rule as a check goes through it. -/
import Derived.Test.YtnlhnnidbppciaaGreatDoorChkS4
import Derived.Test.YtnlhnnidbppciaaGreatDoorChkI2
namespace Go.Proofs.YtnlhnnidbppciaaGreatDoor
open Go.RowKit
set_option linter.unusedSimpArgs false
set_option linter.unusedVariables false

theorem info_Wan : (Tryz.prog.info? 213).map (fun i => (i.zero, i.size, i.bytes)) = some (some (.agg #[.int .i64 0, .int .i64 0, .int .i64 0, .int .i64 0, .bool false]), 5, 40) := by kernel_rfl
theorem own_far_ne {w : World} {base k m : Nat} {e t : TypeId} {size : Nat} {v : Value} {xs : List Value} {cs : Array Value} (h : w.ownsRow base e size v m xs) (hk : k < base) : some k ≠ v.ownBlock := fun e => by have := (h.lt k e.symm).1; omega

set_option maxHeartbeats 2000000 in
/-- The closure puts one look more behind those of a rule. -/
theorem want_any (ob n : Nat) (v vd : Value) (nb : Value) (L : List (Lk × Bool)) (x : Lk × Bool) (w : World) (hB : Blk w ob 153 #[v, vd, nb]) (hO : w.ownsRow (ob + 1) 213 5 v n (knR L).flatten) (hn : n ≤ 100000) :
    Calls Tryz.prog 165 #[.int .i64 x.1.field, .int .i64 x.1.mask, .int .i64 x.1.op, .int .i64 x.1.value, .bool x.2, .pointer (some ⟨ob, 0, none⟩)] w fun e w' =>
      e = .returned (.tuple #[]) ∧ ∃ v', Blk w' ob 153 #[v', vd, nb] ∧ w'.ownsRow (ob + 1) 213 5 v' (n + 1) (knR (L ++ [x])).flatten ∧ Below ob w w' := by
  obtain ⟨⟨xf, xm, xo, xv⟩, xh⟩ := x
  simp only
  have hlt := hB.lt
  have HO := Lib.hid hO; have HB := Lib.hid hB
  obtain ⟨A, n', c, rfl, hcn, hcm⟩ : ∃ A n' c, v = .slice A n' c ∧ n' ≤ c ∧ c ≤ maxLen := by
    rcases hO.2 with ⟨rfl, h0⟩ | ⟨g, cap, cur, rfl, _, hg, hnc, hm, _, htake⟩
    · exact ⟨none, 0, 0, rfl, by omega, by simp⟩
    · exact ⟨_, _, _, rfl, hnc, hm⟩
  have e0 := (show _ = some (Value.slice A n' c) from hB.cell 0)
  have HKR := Lib.hid (knR_snoc L (⟨xf, xm, xo, xv⟩, xh))
  clear hO hB
  go_enter Tryz.func165, Tryz.ntmps165
  go_wp2_with (at_builtin; go_must (refine wpList_app1g (w0 := w) rfl (.tmp 12) (.tmp 20) _ rfl (ob + 1) 213 Tryz.underlying151 info_Wan rfl (by omega) (by omega) (.slice A n' c) n (knR L) rfl HO.out rfl (by simp [Value.oneCell']) rfl (by omega) (by omega) ?_); intro v2 W2 hown hg _; obtain ⟨g5, cap5, rfl, hg5, hg5'⟩ := hown.form (by omega); have hbb : Below ob w W2 := (Below.refl ob w).grown hg (by omega) (fun k hk => by have := (HO.out.lt k hk).1; omega); have Y := HB.out.grown hg (own_far_ne (t := 213) (cs := #[]) HO.out (Nat.lt_succ_self ob)); have y0 := (show _ = some (Value.slice A n' c) from Y.cell 0); have yf := Y.frozen 0; have HY := Lib.hid Y; have HOW := Lib.hid hown; clear hown hg Y)
  go_end0
  refine ⟨rfl, _, HY.out.set_ 0 _, ?_, hbb.setCell (p := ⟨ob, 0, none⟩) (Nat.le_refl _) _⟩
  rw [HKR.out]
  exact ownsRow_setCell_other (a := ⟨ob, 0, none⟩) HOW.out (fun e => by have := (HOW.out.lt ob e).1; omega) _
end Go.Proofs.YtnlhnnidbppciaaGreatDoor
