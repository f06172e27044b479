/- laws.wgDec, laws.wgTold and laws.wgClash: the text that a line sums, and whether two texts that differ hash to the same. -/
import Derived.Test.YtaieopdfkapgdaaDoorBookAA
import Derived.RegionTactic
import Derived.BigRegion
namespace Go.Proofs.YtaieopdfkapgdaaDoor
open Go.RowKit
set_option linter.unusedSimpArgs false
set_option linter.unusedVariables false

theorem ret_str {a b : ByteArray} (h : a = b) : Ending.returned (.string a) = .returned (.string b) := by rw [h]

set_option maxHeartbeats 1000000 in
theorem wgDec_nat (u : Nat) : ∀ (w : World), u ≤ 9223372036854775807 →
    Calls Tryd.prog 33 #[.int .i64 u] w fun e w' => e = .returned (.string ⟨(Lib.decDigits u).toArray⟩) ∧ Below w.heap.size w w' := by
  induction u using Nat.strongRecOn with
  | _ u ih =>
    intro w hu
    have IH := Lib.hid ih; clear ih
    have hconv := fun W x => run_conv1 (P := Tryd.prog) (t := 5) Tryd.underlying22 Tryd.underlying5 Tryd.underlying9 W x
    by_cases h : u < 10
    · go_enter Tryd.func33, Tryd.ntmps33
      go_wp2
      go_ret
      refine ⟨?_, by go_grown⟩
      rw [decDigits_small h]
      rfl
    · have hq : u / 10 ≤ 9223372036854775807 := by omega
      have hcast : (u : Int) / 10 = ((u / 10 : Nat) : Int) := by omega
      have HC := Lib.hid hcast; clear hcast
      have hdl := decDigits_le19 (u / 10) hq
      have e1 : IntKind.i64.wrap ((u : Int) / 10) = (u : Int) / 10 := IntWalk.i64_in _ (by omega)
      have e2 : (u : Int).tmod 10 = (u : Int) % 10 := Int.tmod_eq_emod_of_nonneg (by omega)
      have e3 : IntKind.i64.wrap (48 + (u : Int) % 10) = 48 + (u : Int) % 10 := IntWalk.i64_in _ (by omega)
      have e4 : IntKind.u8.wrap (48 + (u : Int) % 10) = 48 + (u : Int) % 10 := IntWalk.u8_in _ (by omega)
      have hcv := fun W g x h => run_conv1' (P := Tryd.prog) Tryd.underlying22 Tryd.underlying5 Tryd.underlying9 W g x 1 h
      go_enter Tryd.func33, Tryd.ntmps33
      go_wp2
      go_region_with (first
        | (go_at_call 33; rw [HC.out]; ((with_reducible refine (IH.out (u / 10) (by omega) ((w.alloc (.cells #[.int .u8 (48 + (u : Int) % 10)] 5)).drew) hq).mono ?_); rintro e w1 ⟨rfl, hb1⟩; have hk : w1.cell? ⟨w.heap.size, 0, none⟩ = some (.int .u8 (48 + (u : Int) % 10)) := (hb1.cell (p := ⟨w.heap.size, 0, none⟩) (by simp)).trans (by simp [go_sem])))
        | (go_at_call 33; rw [HC.out]; refine (IH.out (u / 10) (by omega) _ hq).mono ?_; rintro e w1 ⟨rfl, hb1⟩))
      all_goals go_wp2
      all_goals go_ret
      all_goals
        have hb2 : Below w.heap.size w w1 := below_step (by go_grown) (by go_size) hb1
        have hs2 := hb2.size
        refine ⟨?_, by go_grown⟩
        rw [decDigits_big h, ← ba_append]
        simp [Act.put]

set_option maxHeartbeats 1000000 in
theorem wgDec_any (n : Int) (w : World) (h0 : -9223372036854775808 ≤ n) (h1 : n ≤ 9223372036854775807) :
    Calls Tryd.prog 33 #[.int .i64 n] w fun e w' => e = .returned (.string ⟨(Lib.itoa n).toArray⟩) ∧ Below w.heap.size w w' := by
  by_cases hp : 0 ≤ n
  · obtain ⟨u, rfl⟩ := Int.eq_ofNat_of_zero_le hp
    rw [itoa_nat]
    exact wgDec_nat u w (by omega)
  · by_cases hm : n = -9223372036854775808
    · subst hm
      go_enter Tryd.func33, Tryd.ntmps33
      go_wp2
      go_ret
      refine ⟨?_, Below.refl _ _⟩
      have e := itoa_neg' 9223372036854775808 (by omega)
      rw [show (-9223372036854775808 : Int) = -((9223372036854775808 : Nat) : Int) from rfl, e, ← decMin]
      rfl
    · obtain ⟨u, hu⟩ := Int.eq_ofNat_of_zero_le (show 0 ≤ -n by omega)
      obtain rfl : n = -(u : Int) := by omega
      have hu1 : u ≤ 9223372036854775807 := by omega
      have hu0 : 0 < u := by omega
      have hdl := decDigits_le19 u hu1
      have hd := wgDec_nat u
      have HD := Lib.hid hd; clear hd hu hm
      have hm1 : -9223372036854775807 ≤ -(u : Int) := by omega
      go_enter Tryd.func33, Tryd.ntmps33
      go_wp2_with (go_at_call 33; refine (HD.out _ hu1).mono ?_; rintro e w1 ⟨rfl, hb1⟩)
      go_ret
      refine ⟨?_, hb1⟩
      rw [itoa_neg' u hu0]
      rfl

set_option maxRecDepth 100000 in
set_option maxHeartbeats 2000000 in
theorem wgTold_any (last : List UInt8) (t : Tl) (av : Value) (w : World) (ht : t.ok) (hs : Sl w 1 av (ints t.args)) (hl : last.length ≤ 1048576) :
    Calls Tryd.prog 11 #[.string ⟨last.toArray⟩, .agg #[.int .i64 t.gate, .int .i64 t.epoch, .int .i64 t.num, av, .int .i64 t.verdict]] w fun e w' => e = .returned (.string ⟨(toldText last t).toArray⟩) ∧ Below w.heap.size w w' := by
  obtain ⟨gt, ep, nm, xs, vd⟩ := t
  have hll := toldText_len last ⟨gt, ep, nm, xs, vd⟩ ht
  obtain ⟨hg, he, hv⟩ := ht
  simp only at hg he hv hs ⊢
  have i1 := itoa_len gt hg.1 hg.2
  have i2 := itoa_len ep he.1 he.2
  have i3 := itoa_len vd hv.1 hv.2
  have i4 := textOf_len nm xs
  have hs0 := hs
  obtain ⟨A, n, c, rfl, hA⟩ := hs
  obtain ⟨w1, hw1⟩ : ∃ w1, w1 = w.alloc (.cells #[.int .i64 gt, .int .i64 ep, .int .i64 nm, .slice A n c, .int .i64 vd] 30) := ⟨_, rfl⟩
  have b1 : Below w.heap.size w w1 := by rw [hw1]; go_grown
  have B1 : Blk w1 w.heap.size 30 #[.int .i64 gt, .int .i64 ep, .int .i64 nm, .slice A n c, .int .i64 vd] := by rw [hw1]; exact Blk.new _ _ _
  have hlt := B1.lt
  have c0 := (show _ = some (Value.int .i64 gt) from B1.cell 0)
  have c1 := (show _ = some (Value.int .i64 ep) from B1.cell 1)
  have c2 := (show _ = some (Value.int .i64 nm) from B1.cell 2)
  have c3 := (show _ = some (Value.slice A n c) from B1.cell 3)
  have c4 := (show _ = some (Value.int .i64 vd) from B1.cell 4)
  have d1 : ¬ 9223372036854775807 < last.length + 1 := by omega
  have d2 : ¬ 9223372036854775807 < last.length + 1 + (Lib.itoa gt).length := by omega
  have d3 : ¬ 9223372036854775807 < last.length + 1 + (Lib.itoa gt).length + 1 := by omega
  have d4 : ¬ 9223372036854775807 < last.length + 1 + (Lib.itoa gt).length + 1 + (Lib.itoa ep).length := by omega
  have d5 : ¬ 9223372036854775807 < last.length + 1 + (Lib.itoa gt).length + 1 + (Lib.itoa ep).length + 1 := by omega
  have d6 : ¬ 9223372036854775807 < last.length + 1 + (Lib.itoa gt).length + 1 + (Lib.itoa ep).length + 1 + (textOf nm xs).length := by omega
  have d7 : ¬ 9223372036854775807 < last.length + 1 + (Lib.itoa gt).length + 1 + (Lib.itoa ep).length + 1 + (textOf nm xs).length + 1 := by omega
  have d8 : ¬ 9223372036854775807 < last.length + 1 + (Lib.itoa gt).length + 1 + (Lib.itoa ep).length + 1 + (textOf nm xs).length + 1 + (Lib.itoa vd).length := by omega
  have HG := Lib.hid hg; have HE := Lib.hid he; have HV := Lib.hid hv
  have HS := Lib.hid (hs0.below b1)
  have HL := Lib.hid (show (toldText last ⟨gt, ep, nm, xs, vd⟩).length ≤ 16777216 by omega)
  have HW1 := Lib.hid hw1
  have HB1 := Lib.hid b1
  clear hA hs0 hw1 B1 b1 hg he hv i1 i2 i3 i4 hll hl
  go_enter Tryd.func11, Tryd.ntmps11
  go_wp2
  rw [← HW1.out]
  have q : Below w.heap.size w w1.drew := HB1.out.drew
  have hs1 : Sl w1.drew 1 (.slice A n c) (ints xs) := HS.out.below (Below.refl _ _).drew
  have Q := Lib.hid q; have HSS := Lib.hid hs1
  clear q hs1
  go_region_held3 (fun w' => w'.cell? ⟨w.heap.size, 0, none⟩ = some (.int .i64 gt) ∧ w'.cell? ⟨w.heap.size, 1, none⟩ = some (.int .i64 ep) ∧ w'.cell? ⟨w.heap.size, 2, none⟩ = some (.int .i64 nm) ∧ w'.cell? ⟨w.heap.size, 3, none⟩ = some (.slice A n c) ∧ w'.cell? ⟨w.heap.size, 4, none⟩ = some (.int .i64 vd))
    (first | exact ⟨c0, c1, c2, c3, c4⟩ | go_keep)
    (first
      | (have g1 := HG; clear HG; go_at_call 33; refine (wgDec_any gt _ g1.out.1 g1.out.2).mono ?_; clear g1; rintro e w2 ⟨rfl, hb⟩; replace c0 := (hb.cell (p := ⟨w.heap.size, 0, none⟩) hlt).trans c0; replace c1 := (hb.cell (p := ⟨w.heap.size, 1, none⟩) hlt).trans c1; replace c2 := (hb.cell (p := ⟨w.heap.size, 2, none⟩) hlt).trans c2; replace c3 := (hb.cell (p := ⟨w.heap.size, 3, none⟩) hlt).trans c3; replace c4 := (hb.cell (p := ⟨w.heap.size, 4, none⟩) hlt).trans c4; replace hlt := Nat.lt_of_lt_of_le hlt hb.size; have HSS' := Lib.hid (HSS.out.below hb); have Q' := Lib.hid (below_then Q.out hb); clear HSS Q hb; have HSS := HSS'; have Q := Q'; clear HSS' Q')
      | (have g1 := HE; clear HE; go_at_call 33; refine (wgDec_any ep _ g1.out.1 g1.out.2).mono ?_; clear g1; rintro e w2 ⟨rfl, hb⟩; replace c0 := (hb.cell (p := ⟨w.heap.size, 0, none⟩) hlt).trans c0; replace c1 := (hb.cell (p := ⟨w.heap.size, 1, none⟩) hlt).trans c1; replace c2 := (hb.cell (p := ⟨w.heap.size, 2, none⟩) hlt).trans c2; replace c3 := (hb.cell (p := ⟨w.heap.size, 3, none⟩) hlt).trans c3; replace c4 := (hb.cell (p := ⟨w.heap.size, 4, none⟩) hlt).trans c4; replace hlt := Nat.lt_of_lt_of_le hlt hb.size; have HSS' := Lib.hid (HSS.out.below hb); have Q' := Lib.hid (below_then Q.out hb); clear HSS Q hb; have HSS := HSS'; have Q := Q'; clear HSS' Q')
      | (have g1 := HV; clear HV; go_at_call 33; refine (wgDec_any vd _ g1.out.1 g1.out.2).mono ?_; clear g1; rintro e w2 ⟨rfl, hb⟩; replace c0 := (hb.cell (p := ⟨w.heap.size, 0, none⟩) hlt).trans c0; replace c1 := (hb.cell (p := ⟨w.heap.size, 1, none⟩) hlt).trans c1; replace c2 := (hb.cell (p := ⟨w.heap.size, 2, none⟩) hlt).trans c2; replace c3 := (hb.cell (p := ⟨w.heap.size, 3, none⟩) hlt).trans c3; replace c4 := (hb.cell (p := ⟨w.heap.size, 4, none⟩) hlt).trans c4; replace hlt := Nat.lt_of_lt_of_le hlt hb.size; have HSS' := Lib.hid (HSS.out.below hb); have Q' := Lib.hid (below_then Q.out hb); clear HSS Q hb; have HSS := HSS'; have Q := Q'; clear HSS' Q')
      | (go_at_call 34; refine (sCallWrite_any nm _ xs _ HSS.out).mono ?_; rintro e w2 ⟨rfl, hb⟩; replace c0 := (hb.cell (p := ⟨w.heap.size, 0, none⟩) hlt).trans c0; replace c1 := (hb.cell (p := ⟨w.heap.size, 1, none⟩) hlt).trans c1; replace c2 := (hb.cell (p := ⟨w.heap.size, 2, none⟩) hlt).trans c2; replace c3 := (hb.cell (p := ⟨w.heap.size, 3, none⟩) hlt).trans c3; replace c4 := (hb.cell (p := ⟨w.heap.size, 4, none⟩) hlt).trans c4; replace hlt := Nat.lt_of_lt_of_le hlt hb.size; have HSS' := Lib.hid (HSS.out.below hb); have Q' := Lib.hid (below_then Q.out hb); clear HSS Q hb; have HSS := HSS'; have Q := Q'; clear HSS' Q'))
  all_goals
    go_wp2
    go_ret
    exact ⟨ret_str (ba_told _ _ _ _ _), Q.out⟩

noncomputable def clashB (a b : List UInt8) : Bool := @decide (a ≠ b ∧ hashText a = hashText b) (Classical.propDecidable _)
theorem clashB_iff {a b : List UInt8} : clashB a b = true ↔ a ≠ b ∧ hashText a = hashText b := by simp [clashB]

set_option maxHeartbeats 2000000 in
theorem wgClash_any (a b : List UInt8) (w : World) (ha : a.length ≤ 16777216) (hb : b.length ≤ 16777216) :
    Calls Tryd.prog 12 #[.string ⟨a.toArray⟩, .string ⟨b.toArray⟩] w fun e w' => e = .returned (.bool (clashB a b)) ∧ Below w.heap.size w w' := by
  by_cases h : a = b
  · have hd : (a != b) = false := by simp [h]
    have hc : clashB a b = false := by rw [← Bool.not_eq_true, clashB_iff]; exact fun q => q.1 h
    rw [hc]
    clear hc
    go_enter Tryd.func12, Tryd.ntmps12
    go_wp2
    go_ret
    exact ⟨rfl, Below.refl _ _⟩
  · have hd : (a != b) = true := by simpa using h
    have HC := Lib.hid (show (hashText a == hashText b) = clashB a b by rw [Bool.eq_iff_iff, clashB_iff]; simp [h])
    go_enter Tryd.func12, Tryd.ntmps12
    go_wp2_with fail
    refine (sHashSum_eq _ a _ rfl ha).mono ?_; rintro e w1 ⟨rfl, b1⟩
    go_wp2_with fail
    refine (sHashSum_eq _ b _ rfl hb).mono ?_; rintro e w2 ⟨rfl, b2⟩
    have B2 := Lib.hid (below_then b1 b2)
    clear b1 b2
    go_wp2
    go_ret
    exact ⟨ret_bool (by have := HC.out; rw [show (a == b) = false by simpa using h]; simpa using this), B2.out⟩
end Go.Proofs.YtaieopdfkapgdaaDoor
