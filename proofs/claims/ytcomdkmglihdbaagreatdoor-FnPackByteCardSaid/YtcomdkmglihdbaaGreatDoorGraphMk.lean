/- spec's GraphMake: of any policy some graph. -/
import Derived.Test.YtcomdkmglihdbaaGreatDoorMak
import Derived.Test.YtcomdkmglihdbaaGreatDoorPolSA
namespace Go.Proofs.YtcomdkmglihdbaaGreatDoor
open Go.RowKit
set_option linter.unusedSimpArgs false
set_option linter.unusedVariables false

theorem Sl.empty (w : World) (size : Nat) (t : TypeId) : Sl (w.alloc (.cells #[] t)) size (.slice (some ⟨w.heap.size, 0, none⟩) 0 0) [] := by
  have h : (w.alloc (.cells #[] t)).ownsRow 0 t size (.slice (some ⟨w.heap.size, 0, none⟩) 0 0) ([] : List (List Value)).length ([] : List (List Value)).flatten := World.ownsRow_lit (base := 0) (e := t) (size := size) w #[] 0 (Nat.zero_le _) (by unfold maxLen; omega) (by simp)
  obtain ⟨A, n, c, e, hA⟩ := SlA.of_own h rfl (fun r hr => by cases hr)
  exact ⟨A, n, c, e, hA⟩

set_option maxHeartbeats 4000000 in
theorem GraphMake_any (p : Pol) (v : Value) (w : World) (hP : PolIs w p v) :
    Calls Tryz.prog 90 #[v] w fun e w' => ∃ v' g', e = .returned v' ∧ Sl w' 7 v' (g'.map Pt.cells) ∧ Ahead g' ∧ g'.length ≤ 1000 ∧ Below w.heap.size w w' := by
  have HP := Lib.hid hP
  obtain ⟨rv, css, rfl, ⟨A, n, c, rfl, hSA⟩, hR⟩ := hP
  have hb0 : Below w.heap.size w (w.alloc (.cells #[.slice A n c, .int .i64 p.els] 82)) := by go_grown
  have B0 := Blk.new w 82 #[.slice A n c, .int .i64 p.els]
  clear hSA hR
  cases hok : polOkB p with
  | false =>
    have HOK := Lib.hid hok; clear hok
    go_enter Tryz.func90, Tryz.ntmps90
    go_wp2_with fail
    refine (PolicyOk_any p _ _ (HP.out.below hb0)).mono ?_; rintro e w1 ⟨rfl, hb1⟩
    rw [HOK.out]
    go_wp2
    go_ret
    exact ⟨_, [], rfl, Sl.empty w1 7 _, Ahead.nil, by simp, by have := below_then hb0 hb1; exact this.alloc this.size _⟩
  | true =>
    have HOK := Lib.hid hok; clear hok
    go_enter Tryz.func90, Tryz.ntmps90
    go_wp2_with fail
    refine (PolicyOk_any p _ _ (HP.out.below hb0)).mono ?_; rintro e w1 ⟨rfl, hb1⟩
    rw [HOK.out]
    have B1 := B0.below hb1 B0.lt
    have c0 := (show _ = some (Value.slice A n c) from B1.cell 0); have c1 := (show _ = some (Value.int .i64 p.els) from B1.cell 1)
    have hb01 := below_then hb0 hb1
    clear B0 hb1
    go_wp2_with fail
    refine (l4Make_any p _ _ (HP.out.below hb01) (polOkB_shape HOK.out).1).mono ?_; rintro e w2 ⟨v2, g2, i2, rfl, hA2, hi2, hl2, ho2, hf2⟩
    obtain ⟨A2, n2, c2, rfl, hS2⟩ := SlA.of_own ho2 (by simp) (Pt.rows g2)
    have hn2 : g2.length = n2 := by have := hS2.len; simpa using this
    subst hn2
    have hb2 := below_then hb01 hf2.below
    have HA2 := Lib.hid hA2; have HS2 := Lib.hid hS2; clear hA2 hS2 ho2 hf2 B1 hb01
    go_wp2_with fail
    refine (l4Trim_any (i2 + 1) i2 A2 g2.length c2 g2 _ (by omega) HS2.out HA2.out hi2 (by omega)).mono ?_; rintro e w3 ⟨v3, g3, rfl, hs3, ha3, hl3, hb3⟩
    have HS3 := Lib.hid hs3; have HA3 := Lib.hid ha3; clear hs3 ha3
    go_wp2
    go_ret
    exact ⟨v3, g3, rfl, HS3.out, HA3.out, hl3, below_then hb2 hb3⟩
end Go.Proofs.YtcomdkmglihdbaaGreatDoor
