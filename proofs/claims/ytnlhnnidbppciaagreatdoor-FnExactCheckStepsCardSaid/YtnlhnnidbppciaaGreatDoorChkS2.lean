/- spec's check: what is told of a look; what is known, with a look more. -/
import Derived.Test.YtnlhnnidbppciaaGreatDoorChkS
namespace Go.Proofs.YtnlhnnidbppciaaGreatDoor
open Go.RowKit
set_option linter.unusedSimpArgs false
set_option linter.unusedVariables false

def tellI (l : List (Lk × Bool)) (q : Lk) : Int := match tellO l q with | some true => 1 | some false => 0 | none => -1
theorem seen_next {l : List (Lk × Bool)} {q : Lk} {k : Nat} {x : Lk × Bool} (hx : l[k]? = some x) (h1 : seen (l.take k) q = none) : (¬ LkSame x.1 q → seen (l.take (k + 1)) q = none) ∧ (LkSame x.1 q → seen l q = some x.2) := by
  have e1 := seen_snoc (l.take k) x q
  rw [← take_next hx, h1] at e1
  simp only at e1
  refine ⟨fun h => by rw [e1, if_neg h], fun h => ?_⟩
  rw [if_pos h] at e1
  have hk : ∀ (a b : List (Lk × Bool)) (z : Bool), seen a q = some z → seen (a ++ b) q = some z := fun a b z => by
    induction a with
    | nil => intro h; cases h
    | cons t a ih => intro h; simp only [List.cons_append, seen] at *; split <;> simp_all
  have := hk _ (l.drop (k + 1)) _ e1
  rwa [List.take_append_drop] at this
theorem tellI_seen {l : List (Lk × Bool)} {q : Lk} {h : Bool} (e : seen l q = some h) : tellI l q = if h then 1 else 0 := by
  unfold tellI; rw [tellO_seen e]; cases h <;> rfl
theorem tellI_room {l : List (Lk × Bool)} {q : Lk} (e : seen l q = none) : tellI l q = match tellRoom (roomLow l q) (roomHigh l q) q with | some true => 1 | some false => 0 | none => -1 := by
  unfold tellI; rw [tellO_room e]

set_option maxHeartbeats 4000000 in
theorem l6Tell_any (lv : Value) (l : List (Lk × Bool)) (q : Lk) (qh : Bool) (w : World) (hl : Sl w 5 lv (knR l)) (hw : KnW l) (hq : q.op = 1 ∨ q.op = 3) :
    Calls Tryz.prog 201 #[lv, .agg #[.int .i64 q.field, .int .i64 q.mask, .int .i64 q.op, .int .i64 q.value, .bool qh]] w fun e w' => e = .returned (.int .i64 (tellI l q)) ∧ Below w.heap.size w w' := by
  have HS0 := Lib.hid hl
  obtain ⟨A, n, c, rfl, hA⟩ := hl
  have hn : l.length = n := by have := hA.len; rwa [knR_len] at this
  have hc := hA.cap
  have hm := hA.max
  unfold maxLen at hm
  have HL := Lib.hid hn; have HA := Lib.hid hA; have HW := Lib.hid hw
  clear hn hA hw
  obtain ⟨qf, qm, qo, qv⟩ := q
  simp only at hq ⊢
  have hb0 : Below w.heap.size w (w.alloc (.cells #[.int .i64 qf, .int .i64 qm, .int .i64 qo, .int .i64 qv, .bool qh] 253)) := by go_grown
  have B0 := Blk.new w 253 #[.int .i64 qf, .int .i64 qm, .int .i64 qo, .int .i64 qv, .bool qh]
  have HB := Lib.hid B0; have HQ := Lib.hid hq
  clear B0 hq
  go_enter Tryz.func201, Tryz.ntmps201
  go_wp2
  go_loopw [5] (fun i wr => ∃ (k : Nat), k ≤ n ∧ i = .int .i64 k ∧ Hid (seen (l.take k) ⟨qf, qm, qo, qv⟩ = none) ∧ Below (w.heap.size + 1) (w.alloc (.cells #[.int .i64 qf, .int .i64 qm, .int .i64 qo, .int .i64 qv, .bool qh] 253)) wr) (fun i _ => n - (intOf i).toNat)
  case atStart => exact ⟨0, Nat.zero_le _, rfl, Lib.hid rfl, Below.refl _ _⟩
  case round =>
    obtain ⟨k, hk, rfl, HR, hb⟩ := hrel
    have hsz := hb.size
    simp only [World.size_alloc] at hsz
    have hz0 : w.heap.size < wr.heap.size := by omega
    have hb2 : Below w.heap.size w wr := hb0.trans (hb.mono (by omega))
    have B1 := HB.out.below hb (by omega)
    have b0 := (show _ = some (Value.int .i64 qf) from B1.cell 0); have b1 := (show _ = some (Value.int .i64 qm) from B1.cell 1); have b2 := (show _ = some (Value.int .i64 qo) from B1.cell 2); have b3 := (show _ = some (Value.int .i64 qv) from B1.cell 3)
    have HB1 := Lib.hid B1
    clear B1
    by_cases hlt : k < n
    · obtain ⟨b, off, ⟨⟨xf, xm, xo, xv⟩, xh⟩, rfl, hab, hgp, hcell⟩ := kn_get (cg := 0) HA.out hlt
      obtain ⟨c0, c1, c2, c3, c4⟩ := hcell wr _ hb2 hab
      simp only at c0 c1 c2 c3 c4
      have HN := Lib.hid (seen_next hgp HR.out)
      have fin : ∀ (w' : World), Below (w.heap.size + 1) (w.alloc (.cells #[.int .i64 qf, .int .i64 qm, .int .i64 qo, .int .i64 qv, .bool qh] 253)) w' → ¬ LkSame ⟨xf, xm, xo, xv⟩ ⟨qf, qm, qo, qv⟩ → (∃ (k' : Nat), k' ≤ n ∧ Value.int .i64 ((k : Int) + 1) = .int .i64 k' ∧ Hid (seen (l.take k') ⟨qf, qm, qo, qv⟩ = none) ∧ Below (w.heap.size + 1) (w.alloc (.cells #[.int .i64 qf, .int .i64 qm, .int .i64 qo, .int .i64 qv, .bool qh] 253)) w') ∧ n - (intOf (.int .i64 ((k : Int) + 1))).toNat < n - (intOf (.int .i64 (k : Int))).toNat := fun w' hb' h =>
        ⟨⟨k + 1, by omega, by go_num, Lib.hid (HN.out.1 h), hb'⟩, by simp [intOf]; omega⟩
      have FIN := Lib.hid fin
      clear hcell hgp HR fin
      by_cases h1 : xf = qf
      · by_cases h2 : xm = qm
        · by_cases h3 : xo = qo
          · by_cases h4 : xv = qv
            · subst h1 h2 h3 h4
              have HT := Lib.hid (tellI_seen (HN.out.2 ⟨rfl, rfl, rfl, rfl⟩))
              cases xh
              all_goals
                go_wp2
                go_ret
                exact ⟨ret_int HT.out.symm, by go_grown⟩
            · have HX := Lib.hid (show ¬ LkSame ⟨xf, xm, xo, xv⟩ ⟨qf, qm, qo, qv⟩ from fun h => h4 h.2.2.2)
              subst h1 h2 h3
              go_wp2
              exact FIN.out _ (by go_grown) HX.out
          · have HX := Lib.hid (show ¬ LkSame ⟨xf, xm, xo, xv⟩ ⟨qf, qm, qo, qv⟩ from fun h => h3 h.2.2.1)
            subst h1 h2
            go_wp2
            exact FIN.out _ (by go_grown) HX.out
        · have HX := Lib.hid (show ¬ LkSame ⟨xf, xm, xo, xv⟩ ⟨qf, qm, qo, qv⟩ from fun h => h2 h.2.1)
          subst h1
          go_wp2
          exact FIN.out _ (by go_grown) HX.out
      · have HX := Lib.hid (show ¬ LkSame ⟨xf, xm, xo, xv⟩ ⟨qf, qm, qo, qv⟩ from fun h => h1 h.1)
        go_wp2
        exact FIN.out _ (by go_grown) HX.out
    · obtain rfl : k = n := by omega
      have HE := Lib.hid (tellI_room (show seen l ⟨qf, qm, qo, qv⟩ = none by have := HR.out; rwa [List.take_of_length_le (by rw [HL.out]; omega)] at this))
      clear HR
      obtain ⟨lo, hlo⟩ : ∃ z, z = roomLow l ⟨qf, qm, qo, qv⟩ := ⟨_, rfl⟩
      obtain ⟨hi, hhi⟩ : ∃ z, z = roomHigh l ⟨qf, qm, qo, qv⟩ := ⟨_, rfl⟩
      rw [← hlo, ← hhi] at HE
      have HRM := Lib.hid (show ∀ W, Sl W 5 (.slice A k c) (knR l) → Calls Tryz.prog 220 #[.slice A k c, .int .i64 qf, .int .i64 qm] W fun e w' => e = .returned (.tuple #[.int .i64 lo, .int .i64 hi]) ∧ Below W.heap.size W w' from fun W hs => by rw [hlo, hhi]; exact l6Room_any _ l ⟨qf, qm, qo, qv⟩ W hs HW.out)
      clear hlo hhi
      go_wp2_with fail
      refine (HRM.out _ (HS0.out.below hb2)).mono ?_; rintro e w2 ⟨rfl, hr⟩
      have hb3 := below_then hb2 hr
      have B2 := HB1.out.below hr (by omega)
      have d2 := (show _ = some (Value.int .i64 qo) from B2.cell 2); have d3 := (show _ = some (Value.int .i64 qv) from B2.cell 3)
      clear B2
      rcases HQ.out with h | h
      · subst h
        by_cases h1 : qv < lo
        · have HV := Lib.hid (show tellI l ⟨qf, qm, 1, qv⟩ = 0 by rw [HE.out]; simp [tellRoom, h1])
          go_wp2
          go_ret
          exact ⟨ret_int HV.out.symm, hb3⟩
        · by_cases h2 : hi < qv
          · have HV := Lib.hid (show tellI l ⟨qf, qm, 1, qv⟩ = 0 by rw [HE.out]; simp [tellRoom, h1, h2])
            go_wp2
            go_ret
            exact ⟨ret_int HV.out.symm, hb3⟩
          · by_cases h3 : lo = hi
            · have HV := Lib.hid (show tellI l ⟨qf, qm, 1, qv⟩ = 1 by rw [HE.out]; simp only [tellRoom]; rw [if_neg (by omega), if_neg (by omega), if_pos h3])
              subst h3
              go_wp2
              go_ret
              exact ⟨ret_int HV.out.symm, hb3⟩
            · have HV := Lib.hid (show tellI l ⟨qf, qm, 1, qv⟩ = -1 by rw [HE.out]; simp only [tellRoom]; rw [if_neg (by omega), if_neg (by omega), if_neg h3])
              go_wp2
              go_ret
              exact ⟨ret_int HV.out.symm, hb3⟩
      · subst h
        by_cases h1 : qv < lo
        · have HV := Lib.hid (show tellI l ⟨qf, qm, 3, qv⟩ = 1 by rw [HE.out]; simp [tellRoom, h1])
          go_wp2
          go_ret
          exact ⟨ret_int HV.out.symm, hb3⟩
        · by_cases h2 : hi ≤ qv
          · have HV := Lib.hid (show tellI l ⟨qf, qm, 3, qv⟩ = 0 by rw [HE.out]; simp [tellRoom, h1, h2])
            go_wp2
            go_ret
            exact ⟨ret_int HV.out.symm, hb3⟩
          · have HV := Lib.hid (show tellI l ⟨qf, qm, 3, qv⟩ = -1 by rw [HE.out]; simp [tellRoom, h1, h2])
            go_wp2
            go_ret
            exact ⟨ret_int HV.out.symm, hb3⟩
end Go.Proofs.YtnlhnnidbppciaaGreatDoor
