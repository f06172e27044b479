/- Books: plain words; the text of a line, and its sum: spec.l15Sum, (*impl.page).lineSum. -/
import Derived.Test.YtaieopdfkapgdaaDoorHashQ
import Derived.Test.YtaieopdfkapgdaaDoorCallW
import Derived.Deep.DrawnRows
namespace Go.Proofs.YtaieopdfkapgdaaDoor
open Go.RowKit
set_option linter.unusedSimpArgs false
set_option linter.unusedVariables false

def inI (n : Int) : Prop := -9223372036854775808 ≤ n ∧ n ≤ 9223372036854775807
/-- What was told. -/
structure Tl where
  gate : Int
  epoch : Int
  num : Int
  args : List Int
  verdict : Int
def Tl.ok (t : Tl) : Prop := inI t.gate ∧ inI t.epoch ∧ inI t.verdict
/-- The text that a line sums. -/
noncomputable def toldText (last : List UInt8) (t : Tl) : List UInt8 :=
  last ++ [10] ++ Lib.itoa t.gate ++ [32] ++ Lib.itoa t.epoch ++ [32] ++ textOf t.num t.args ++ [32] ++ Lib.itoa t.verdict
noncomputable def lineHash (last : List UInt8) (t : Tl) : List UInt8 := hashText (toldText last t)
theorem lineHash_len (last : List UInt8) (t : Tl) : (lineHash last t).length = 64 := hashText_len _
theorem textOf_len (n : Int) (xs : List Int) : (textOf n xs).length ≤ 60 := by
  unfold textOf
  by_cases h : callOk n xs
  · rw [if_pos (callOkB_iff.2 h)]
    have h1 := argText_len xs h.2.2
    have h2 : (Lib.itoa n).length ≤ 10 := by rw [itoa_val n h.1.1]; exact decDigits_le 9 _ (by have := h.1; omega)
    have h3 := h.2.1
    unfold callText
    simp
    omega
  · rw [if_neg (fun e => h (callOkB_iff.1 e))]; simp
theorem toldText_len (last : List UInt8) (t : Tl) (h : t.ok) : (toldText last t).length ≤ last.length + 200 := by
  have h1 := itoa_len t.gate h.1.1 h.1.2
  have h2 := itoa_len t.epoch h.2.1.1 h.2.1.2
  have h3 := itoa_len t.verdict h.2.2.1 h.2.2.2
  have h4 := textOf_len t.num t.args
  unfold toldText
  simp
  omega
theorem ba_told (a b c d e : List UInt8) :
    ({ data := a.toArray } : ByteArray) ++ { data := #[10] } ++ { data := b.toArray } ++ { data := #[32] } ++ { data := c.toArray } ++ { data := #[32] } ++ { data := d.toArray } ++ { data := #[32] } ++ { data := e.toArray } =
      ⟨(a ++ [10] ++ b ++ [32] ++ c ++ [32] ++ d ++ [32] ++ e).toArray⟩ := by
  apply ByteArray.ext
  simp
theorem sHashSum_eq (s : ByteArray) (l : List UInt8) (w : World) (e : s = ⟨l.toArray⟩) (hl : l.length ≤ 16777216) :
    Calls Tryd.prog 35 #[.string s] w fun e w' => e = .returned (.string ⟨(hashText l).toArray⟩) ∧ Below w.heap.size w w' := by
  have := sHashSum_any s w (by rw [e, bsize]; exact hl)
  have e2 : s.data.toList = l := by rw [e]
  rwa [e2] at this
theorem HashSum_eq (s : ByteArray) (l : List UInt8) (w : World) (hk : Kww w) (e : s = ⟨l.toArray⟩) (hl : l.length ≤ 16777216) :
    Calls Tryd.prog 74 #[.string s] w fun e w' => e = .returned (.string ⟨(hashText l).toArray⟩) ∧ Below w.heap.size w w' := by
  have := HashSum_any s w hk (by rw [e, bsize]; omega)
  have e2 : s.data.toList = l := by rw [e]
  rwa [e2] at this

set_option maxRecDepth 100000 in
set_option maxHeartbeats 2000000 in
theorem l15Sum_any (last : List UInt8) (t : Tl) (av : Value) (w : World) (ht : t.ok) (hs : Sl w 1 av (ints t.args)) (hl : last.length ≤ 1048576) :
    Calls Tryd.prog 32 #[.string ⟨last.toArray⟩, .agg #[.int .i64 t.gate, .int .i64 t.epoch, .int .i64 t.num, av, .int .i64 t.verdict]] w fun e w' => e = .returned (.string ⟨(lineHash last t).toArray⟩) ∧ Below w.heap.size w w' := by
  obtain ⟨gt, ep, nm, xs, vd⟩ := t
  have hll := toldText_len last ⟨gt, ep, nm, xs, vd⟩ ht
  obtain ⟨hg, he, hv⟩ := ht
  simp only at hg he hv hs ⊢
  have i1 := itoa_len gt hg.1 hg.2
  have i2 := itoa_len ep he.1 he.2
  have i3 := itoa_len vd hv.1 hv.2
  have i4 := textOf_len nm xs
  have hs0 := hs
  obtain ⟨A, n, c, rfl, hA⟩ := hs
  obtain ⟨w1, hw1⟩ : ∃ w1, w1 = w.alloc (.cells #[.int .i64 gt, .int .i64 ep, .int .i64 nm, .slice A n c, .int .i64 vd] 30) := ⟨_, rfl⟩
  have b1 : Below w.heap.size w w1 := by rw [hw1]; go_grown
  have B1 : Blk w1 w.heap.size 30 #[.int .i64 gt, .int .i64 ep, .int .i64 nm, .slice A n c, .int .i64 vd] := by rw [hw1]; exact Blk.new _ _ _
  have hlt := B1.lt
  have c0 := (show _ = some (Value.int .i64 gt) from B1.cell 0)
  have c1 := (show _ = some (Value.int .i64 ep) from B1.cell 1)
  have c2 := (show _ = some (Value.int .i64 nm) from B1.cell 2)
  have c3 := (show _ = some (Value.slice A n c) from B1.cell 3)
  have c4 := (show _ = some (Value.int .i64 vd) from B1.cell 4)
  have d1 : ¬ 9223372036854775807 < last.length + 1 := by omega
  have d2 : ¬ 9223372036854775807 < last.length + 1 + (Lib.itoa gt).length := by omega
  have d3 : ¬ 9223372036854775807 < last.length + 1 + (Lib.itoa gt).length + 1 := by omega
  have d4 : ¬ 9223372036854775807 < last.length + 1 + (Lib.itoa gt).length + 1 + (Lib.itoa ep).length := by omega
  have d5 : ¬ 9223372036854775807 < last.length + 1 + (Lib.itoa gt).length + 1 + (Lib.itoa ep).length + 1 := by omega
  have d6 : ¬ 9223372036854775807 < last.length + 1 + (Lib.itoa gt).length + 1 + (Lib.itoa ep).length + 1 + (textOf nm xs).length := by omega
  have d7 : ¬ 9223372036854775807 < last.length + 1 + (Lib.itoa gt).length + 1 + (Lib.itoa ep).length + 1 + (textOf nm xs).length + 1 := by omega
  have d8 : ¬ 9223372036854775807 < last.length + 1 + (Lib.itoa gt).length + 1 + (Lib.itoa ep).length + 1 + (textOf nm xs).length + 1 + (Lib.itoa vd).length := by omega
  have HG := Lib.hid hg; have HE := Lib.hid he; have HV := Lib.hid hv
  have HS := Lib.hid (hs0.below b1)
  have HL := Lib.hid (show (toldText last ⟨gt, ep, nm, xs, vd⟩).length ≤ 16777216 by omega)
  have HW1 := Lib.hid hw1
  have HB1 := Lib.hid b1
  clear hA hs0 hw1 B1 b1 hg he hv i1 i2 i3 i4 hll hl
  go_enter Tryd.func32, Tryd.ntmps32
  go_wp2
  rw [← HW1.out]
  have q : Below w.heap.size w w1.drew := HB1.out.drew
  have hs1 : Sl w1.drew 1 (.slice A n c) (ints xs) := HS.out.below (Below.refl _ _).drew
  have Q := Lib.hid q; have HSS := Lib.hid hs1
  clear q hs1
  go_region_held3 (fun w' => w'.cell? ⟨w.heap.size, 0, none⟩ = some (.int .i64 gt) ∧ w'.cell? ⟨w.heap.size, 1, none⟩ = some (.int .i64 ep) ∧ w'.cell? ⟨w.heap.size, 2, none⟩ = some (.int .i64 nm) ∧ w'.cell? ⟨w.heap.size, 3, none⟩ = some (.slice A n c) ∧ w'.cell? ⟨w.heap.size, 4, none⟩ = some (.int .i64 vd))
    (first | exact ⟨c0, c1, c2, c3, c4⟩ | go_keep)
    (first
      | (have g1 := HG; clear HG; go_at_call 56; refine (l1Dec_any gt _ g1.out.1 g1.out.2).mono ?_; clear g1; rintro e w2 ⟨rfl, hb⟩; replace c0 := (hb.cell (p := ⟨w.heap.size, 0, none⟩) hlt).trans c0; replace c1 := (hb.cell (p := ⟨w.heap.size, 1, none⟩) hlt).trans c1; replace c2 := (hb.cell (p := ⟨w.heap.size, 2, none⟩) hlt).trans c2; replace c3 := (hb.cell (p := ⟨w.heap.size, 3, none⟩) hlt).trans c3; replace c4 := (hb.cell (p := ⟨w.heap.size, 4, none⟩) hlt).trans c4; replace hlt := Nat.lt_of_lt_of_le hlt hb.size; have HSS' := Lib.hid (HSS.out.below hb); have Q' := Lib.hid (below_then Q.out hb); clear HSS Q hb; have HSS := HSS'; have Q := Q'; clear HSS' Q')
      | (have g1 := HE; clear HE; go_at_call 56; refine (l1Dec_any ep _ g1.out.1 g1.out.2).mono ?_; clear g1; rintro e w2 ⟨rfl, hb⟩; replace c0 := (hb.cell (p := ⟨w.heap.size, 0, none⟩) hlt).trans c0; replace c1 := (hb.cell (p := ⟨w.heap.size, 1, none⟩) hlt).trans c1; replace c2 := (hb.cell (p := ⟨w.heap.size, 2, none⟩) hlt).trans c2; replace c3 := (hb.cell (p := ⟨w.heap.size, 3, none⟩) hlt).trans c3; replace c4 := (hb.cell (p := ⟨w.heap.size, 4, none⟩) hlt).trans c4; replace hlt := Nat.lt_of_lt_of_le hlt hb.size; have HSS' := Lib.hid (HSS.out.below hb); have Q' := Lib.hid (below_then Q.out hb); clear HSS Q hb; have HSS := HSS'; have Q := Q'; clear HSS' Q')
      | (have g1 := HV; clear HV; go_at_call 56; refine (l1Dec_any vd _ g1.out.1 g1.out.2).mono ?_; clear g1; rintro e w2 ⟨rfl, hb⟩; replace c0 := (hb.cell (p := ⟨w.heap.size, 0, none⟩) hlt).trans c0; replace c1 := (hb.cell (p := ⟨w.heap.size, 1, none⟩) hlt).trans c1; replace c2 := (hb.cell (p := ⟨w.heap.size, 2, none⟩) hlt).trans c2; replace c3 := (hb.cell (p := ⟨w.heap.size, 3, none⟩) hlt).trans c3; replace c4 := (hb.cell (p := ⟨w.heap.size, 4, none⟩) hlt).trans c4; replace hlt := Nat.lt_of_lt_of_le hlt hb.size; have HSS' := Lib.hid (HSS.out.below hb); have Q' := Lib.hid (below_then Q.out hb); clear HSS Q hb; have HSS := HSS'; have Q := Q'; clear HSS' Q')
      | (go_at_call 34; refine (sCallWrite_any nm _ xs _ HSS.out).mono ?_; rintro e w2 ⟨rfl, hb⟩; replace c0 := (hb.cell (p := ⟨w.heap.size, 0, none⟩) hlt).trans c0; replace c1 := (hb.cell (p := ⟨w.heap.size, 1, none⟩) hlt).trans c1; replace c2 := (hb.cell (p := ⟨w.heap.size, 2, none⟩) hlt).trans c2; replace c3 := (hb.cell (p := ⟨w.heap.size, 3, none⟩) hlt).trans c3; replace c4 := (hb.cell (p := ⟨w.heap.size, 4, none⟩) hlt).trans c4; replace hlt := Nat.lt_of_lt_of_le hlt hb.size; have HSS' := Lib.hid (HSS.out.below hb); have Q' := Lib.hid (below_then Q.out hb); clear HSS Q hb; have HSS := HSS'; have Q := Q'; clear HSS' Q')
      | (go_at_call 35; refine (sHashSum_eq _ (toldText last ⟨gt, ep, nm, xs, vd⟩) _ (ba_told _ _ _ _ _) HL.out).mono ?_; rintro e w2 ⟨rfl, hb⟩; replace c0 := (hb.cell (p := ⟨w.heap.size, 0, none⟩) hlt).trans c0; replace c1 := (hb.cell (p := ⟨w.heap.size, 1, none⟩) hlt).trans c1; replace c2 := (hb.cell (p := ⟨w.heap.size, 2, none⟩) hlt).trans c2; replace c3 := (hb.cell (p := ⟨w.heap.size, 3, none⟩) hlt).trans c3; replace c4 := (hb.cell (p := ⟨w.heap.size, 4, none⟩) hlt).trans c4; replace hlt := Nat.lt_of_lt_of_le hlt hb.size; have HSS' := Lib.hid (HSS.out.below hb); have Q' := Lib.hid (below_then Q.out hb); clear HSS Q hb; have HSS := HSS'; have Q := Q'; clear HSS' Q'))
  all_goals
    go_wp2
    go_ret
    exact ⟨rfl, Q.out⟩
set_option maxRecDepth 100000 in
set_option maxHeartbeats 2000000 in
theorem lineSum_some (p : Nat) (f : Tl) (fv : Value) (last : List UInt8) (cnt ov : Value) (t : Tl) (av : Value) (w : World) (hp : Pow w) (hk : Kww w) (hpg : Blk w p 74 #[.int .i64 f.gate, .int .i64 f.epoch, .int .i64 f.num, fv, .int .i64 f.verdict, .string ⟨last.toArray⟩, cnt, ov]) (ht : t.ok) (hs : Sl w 1 av (ints t.args)) (hl : last.length ≤ 1048576) :
    Calls Tryd.prog 63 #[.pointer (some ⟨p, 0, none⟩), .agg #[.int .i64 t.gate, .int .i64 t.epoch, .int .i64 t.num, av, .int .i64 t.verdict]] w fun e w' => e = .returned (.string ⟨(lineHash last t).toArray⟩) ∧ Below w.heap.size w w' := by
  obtain ⟨gt, ep, nm, xs, vd⟩ := t
  have hll := toldText_len last ⟨gt, ep, nm, xs, vd⟩ ht
  obtain ⟨hg, he, hv⟩ := ht
  simp only at hg he hv hs ⊢
  have i1 := itoa_len gt hg.1 hg.2
  have i2 := itoa_len ep he.1 he.2
  have i3 := itoa_len vd hv.1 hv.2
  have i4 := textOf_len nm xs
  have hs0 := hs
  obtain ⟨A, n, c, rfl, hA⟩ := hs
  obtain ⟨w1, hw1⟩ : ∃ w1, w1 = w.alloc (.cells #[.int .i64 gt, .int .i64 ep, .int .i64 nm, .slice A n c, .int .i64 vd] 30) := ⟨_, rfl⟩
  have b1 : Below w.heap.size w w1 := by rw [hw1]; go_grown
  have B1 : Blk w1 w.heap.size 30 #[.int .i64 gt, .int .i64 ep, .int .i64 nm, .slice A n c, .int .i64 vd] := by rw [hw1]; exact Blk.new _ _ _
  have hlt := B1.lt
  have c0 := (show _ = some (Value.int .i64 gt) from B1.cell 0)
  have c1 := (show _ = some (Value.int .i64 ep) from B1.cell 1)
  have c2 := (show _ = some (Value.int .i64 nm) from B1.cell 2)
  have c3 := (show _ = some (Value.slice A n c) from B1.cell 3)
  have c4 := (show _ = some (Value.int .i64 vd) from B1.cell 4)
  have d1 : ¬ 9223372036854775807 < last.length + 1 := by omega
  have d2 : ¬ 9223372036854775807 < last.length + 1 + (Lib.itoa gt).length := by omega
  have d3 : ¬ 9223372036854775807 < last.length + 1 + (Lib.itoa gt).length + 1 := by omega
  have d4 : ¬ 9223372036854775807 < last.length + 1 + (Lib.itoa gt).length + 1 + (Lib.itoa ep).length := by omega
  have d5 : ¬ 9223372036854775807 < last.length + 1 + (Lib.itoa gt).length + 1 + (Lib.itoa ep).length + 1 := by omega
  have d6 : ¬ 9223372036854775807 < last.length + 1 + (Lib.itoa gt).length + 1 + (Lib.itoa ep).length + 1 + (textOf nm xs).length := by omega
  have d7 : ¬ 9223372036854775807 < last.length + 1 + (Lib.itoa gt).length + 1 + (Lib.itoa ep).length + 1 + (textOf nm xs).length + 1 := by omega
  have d8 : ¬ 9223372036854775807 < last.length + 1 + (Lib.itoa gt).length + 1 + (Lib.itoa ep).length + 1 + (textOf nm xs).length + 1 + (Lib.itoa vd).length := by omega
  have HG := Lib.hid hg; have HE := Lib.hid he; have HV := Lib.hid hv
  have HS := Lib.hid (hs0.below b1)
  have HL := Lib.hid (show (toldText last ⟨gt, ep, nm, xs, vd⟩).length ≤ 16777216 by omega)
  have HW1 := Lib.hid hw1
  have HB1 := Lib.hid b1
  have hp5 : (w.alloc (.cells #[.int .i64 gt, .int .i64 ep, .int .i64 nm, .slice A n c, .int .i64 vd] 30)).cell? ⟨p, 5, none⟩ = some (Value.string ⟨last.toArray⟩) := by rw [← hw1]; exact (hpg.below b1 hpg.lt).cell 5
  have HP := Lib.hid ((hp.below b1).below (Below.refl _ _).drew)
  have HKW := Lib.hid ((hk.below b1 (Nat.le_refl _)).below (Below.refl w1.heap.size w1).drew (Nat.le_refl _))
  clear hp hk hpg
  clear hA hs0 hw1 B1 b1 hg he hv i1 i2 i3 i4 hll hl
  go_enter Tryd.func63, Tryd.ntmps63
  go_wp2
  rw [← HW1.out]
  have q : Below w.heap.size w w1.drew := HB1.out.drew
  have hs1 : Sl w1.drew 1 (.slice A n c) (ints xs) := HS.out.below (Below.refl _ _).drew
  have Q := Lib.hid q; have HSS := Lib.hid hs1
  clear q hs1
  go_region_held3 (fun w' => w'.cell? ⟨w.heap.size, 0, none⟩ = some (.int .i64 gt) ∧ w'.cell? ⟨w.heap.size, 1, none⟩ = some (.int .i64 ep) ∧ w'.cell? ⟨w.heap.size, 2, none⟩ = some (.int .i64 nm) ∧ w'.cell? ⟨w.heap.size, 3, none⟩ = some (.slice A n c) ∧ w'.cell? ⟨w.heap.size, 4, none⟩ = some (.int .i64 vd))
    (first | exact ⟨c0, c1, c2, c3, c4⟩ | go_keep)
    (first
      | (have g1 := HG; clear HG; go_at_call 75; refine (itoa_any gt _ HP.out g1.out.1 g1.out.2).mono ?_; clear g1; rintro e w2 ⟨rfl, hb⟩; replace c0 := (hb.cell (p := ⟨w.heap.size, 0, none⟩) hlt).trans c0; replace c1 := (hb.cell (p := ⟨w.heap.size, 1, none⟩) hlt).trans c1; replace c2 := (hb.cell (p := ⟨w.heap.size, 2, none⟩) hlt).trans c2; replace c3 := (hb.cell (p := ⟨w.heap.size, 3, none⟩) hlt).trans c3; replace c4 := (hb.cell (p := ⟨w.heap.size, 4, none⟩) hlt).trans c4; replace hlt := Nat.lt_of_lt_of_le hlt hb.size; have HSS' := Lib.hid (HSS.out.below hb); have Q' := Lib.hid (below_then Q.out hb); have HP' := Lib.hid (HP.out.below hb); have HK' := Lib.hid (HKW.out.below hb (Nat.le_refl _)); clear HSS Q hb HP HKW; have HSS := HSS'; have Q := Q'; have HP := HP'; have HKW := HK'; clear HSS' Q' HP' HK')
      | (have g1 := HE; clear HE; go_at_call 75; refine (itoa_any ep _ HP.out g1.out.1 g1.out.2).mono ?_; clear g1; rintro e w2 ⟨rfl, hb⟩; replace c0 := (hb.cell (p := ⟨w.heap.size, 0, none⟩) hlt).trans c0; replace c1 := (hb.cell (p := ⟨w.heap.size, 1, none⟩) hlt).trans c1; replace c2 := (hb.cell (p := ⟨w.heap.size, 2, none⟩) hlt).trans c2; replace c3 := (hb.cell (p := ⟨w.heap.size, 3, none⟩) hlt).trans c3; replace c4 := (hb.cell (p := ⟨w.heap.size, 4, none⟩) hlt).trans c4; replace hlt := Nat.lt_of_lt_of_le hlt hb.size; have HSS' := Lib.hid (HSS.out.below hb); have Q' := Lib.hid (below_then Q.out hb); have HP' := Lib.hid (HP.out.below hb); have HK' := Lib.hid (HKW.out.below hb (Nat.le_refl _)); clear HSS Q hb HP HKW; have HSS := HSS'; have Q := Q'; have HP := HP'; have HKW := HK'; clear HSS' Q' HP' HK')
      | (have g1 := HV; clear HV; go_at_call 75; refine (itoa_any vd _ HP.out g1.out.1 g1.out.2).mono ?_; clear g1; rintro e w2 ⟨rfl, hb⟩; replace c0 := (hb.cell (p := ⟨w.heap.size, 0, none⟩) hlt).trans c0; replace c1 := (hb.cell (p := ⟨w.heap.size, 1, none⟩) hlt).trans c1; replace c2 := (hb.cell (p := ⟨w.heap.size, 2, none⟩) hlt).trans c2; replace c3 := (hb.cell (p := ⟨w.heap.size, 3, none⟩) hlt).trans c3; replace c4 := (hb.cell (p := ⟨w.heap.size, 4, none⟩) hlt).trans c4; replace hlt := Nat.lt_of_lt_of_le hlt hb.size; have HSS' := Lib.hid (HSS.out.below hb); have Q' := Lib.hid (below_then Q.out hb); have HP' := Lib.hid (HP.out.below hb); have HK' := Lib.hid (HKW.out.below hb (Nat.le_refl _)); clear HSS Q hb HP HKW; have HSS := HSS'; have Q := Q'; have HP := HP'; have HKW := HK'; clear HSS' Q' HP' HK')
      | (go_at_call 76; refine (CallWrite_any nm _ xs _ HP.out HSS.out).mono ?_; rintro e w2 ⟨rfl, hb⟩; replace c0 := (hb.cell (p := ⟨w.heap.size, 0, none⟩) hlt).trans c0; replace c1 := (hb.cell (p := ⟨w.heap.size, 1, none⟩) hlt).trans c1; replace c2 := (hb.cell (p := ⟨w.heap.size, 2, none⟩) hlt).trans c2; replace c3 := (hb.cell (p := ⟨w.heap.size, 3, none⟩) hlt).trans c3; replace c4 := (hb.cell (p := ⟨w.heap.size, 4, none⟩) hlt).trans c4; replace hlt := Nat.lt_of_lt_of_le hlt hb.size; have HSS' := Lib.hid (HSS.out.below hb); have Q' := Lib.hid (below_then Q.out hb); have HP' := Lib.hid (HP.out.below hb); have HK' := Lib.hid (HKW.out.below hb (Nat.le_refl _)); clear HSS Q hb HP HKW; have HSS := HSS'; have Q := Q'; have HP := HP'; have HKW := HK'; clear HSS' Q' HP' HK')
      | (go_at_call 74; refine (HashSum_eq _ (toldText last ⟨gt, ep, nm, xs, vd⟩) _ HKW.out (ba_told _ _ _ _ _) HL.out).mono ?_; rintro e w2 ⟨rfl, hb⟩; replace c0 := (hb.cell (p := ⟨w.heap.size, 0, none⟩) hlt).trans c0; replace c1 := (hb.cell (p := ⟨w.heap.size, 1, none⟩) hlt).trans c1; replace c2 := (hb.cell (p := ⟨w.heap.size, 2, none⟩) hlt).trans c2; replace c3 := (hb.cell (p := ⟨w.heap.size, 3, none⟩) hlt).trans c3; replace c4 := (hb.cell (p := ⟨w.heap.size, 4, none⟩) hlt).trans c4; replace hlt := Nat.lt_of_lt_of_le hlt hb.size; have HSS' := Lib.hid (HSS.out.below hb); have Q' := Lib.hid (below_then Q.out hb); have HP' := Lib.hid (HP.out.below hb); have HK' := Lib.hid (HKW.out.below hb (Nat.le_refl _)); clear HSS Q hb HP HKW; have HSS := HSS'; have Q := Q'; have HP := HP'; have HKW := HK'; clear HSS' Q' HP' HK'))
  all_goals
    go_wp2
    go_ret
    exact ⟨rfl, Q.out⟩
set_option maxRecDepth 100000 in
set_option maxHeartbeats 2000000 in
theorem lineSum_none (t : Tl) (av : Value) (w : World) (hp : Pow w) (hk : Kww w) (ht : t.ok) (hs : Sl w 1 av (ints t.args)) :
    Calls Tryd.prog 63 #[.pointer none, .agg #[.int .i64 t.gate, .int .i64 t.epoch, .int .i64 t.num, av, .int .i64 t.verdict]] w fun e w' => e = .returned (.string ⟨(lineHash [] t).toArray⟩) ∧ Below w.heap.size w w' := by
  obtain ⟨gt, ep, nm, xs, vd⟩ := t
  have hll := toldText_len [] ⟨gt, ep, nm, xs, vd⟩ ht
  rw [List.length_nil] at hll
  obtain ⟨hg, he, hv⟩ := ht
  simp only at hg he hv hs ⊢
  have i1 := itoa_len gt hg.1 hg.2
  have i2 := itoa_len ep he.1 he.2
  have i3 := itoa_len vd hv.1 hv.2
  have i4 := textOf_len nm xs
  have hs0 := hs
  obtain ⟨A, n, c, rfl, hA⟩ := hs
  obtain ⟨w1, hw1⟩ : ∃ w1, w1 = w.alloc (.cells #[.int .i64 gt, .int .i64 ep, .int .i64 nm, .slice A n c, .int .i64 vd] 30) := ⟨_, rfl⟩
  have b1 : Below w.heap.size w w1 := by rw [hw1]; go_grown
  have B1 : Blk w1 w.heap.size 30 #[.int .i64 gt, .int .i64 ep, .int .i64 nm, .slice A n c, .int .i64 vd] := by rw [hw1]; exact Blk.new _ _ _
  have hlt := B1.lt
  have c0 := (show _ = some (Value.int .i64 gt) from B1.cell 0)
  have c1 := (show _ = some (Value.int .i64 ep) from B1.cell 1)
  have c2 := (show _ = some (Value.int .i64 nm) from B1.cell 2)
  have c3 := (show _ = some (Value.slice A n c) from B1.cell 3)
  have c4 := (show _ = some (Value.int .i64 vd) from B1.cell 4)
  have d1 : ¬ 9223372036854775807 < 1 := by omega
  have d2 : ¬ 9223372036854775807 < 1 + (Lib.itoa gt).length := by omega
  have d3 : ¬ 9223372036854775807 < 1 + (Lib.itoa gt).length + 1 := by omega
  have d4 : ¬ 9223372036854775807 < 1 + (Lib.itoa gt).length + 1 + (Lib.itoa ep).length := by omega
  have d5 : ¬ 9223372036854775807 < 1 + (Lib.itoa gt).length + 1 + (Lib.itoa ep).length + 1 := by omega
  have d6 : ¬ 9223372036854775807 < 1 + (Lib.itoa gt).length + 1 + (Lib.itoa ep).length + 1 + (textOf nm xs).length := by omega
  have d7 : ¬ 9223372036854775807 < 1 + (Lib.itoa gt).length + 1 + (Lib.itoa ep).length + 1 + (textOf nm xs).length + 1 := by omega
  have d8 : ¬ 9223372036854775807 < 1 + (Lib.itoa gt).length + 1 + (Lib.itoa ep).length + 1 + (textOf nm xs).length + 1 + (Lib.itoa vd).length := by omega
  have HG := Lib.hid hg; have HE := Lib.hid he; have HV := Lib.hid hv
  have HS := Lib.hid (hs0.below b1)
  have HL := Lib.hid (show (toldText [] ⟨gt, ep, nm, xs, vd⟩).length ≤ 16777216 by omega)
  have HW1 := Lib.hid hw1
  have HB1 := Lib.hid b1
  have HP := Lib.hid ((hp.below b1).below (Below.refl _ _).drew)
  have HKW := Lib.hid ((hk.below b1 (Nat.le_refl _)).below (Below.refl w1.heap.size w1).drew (Nat.le_refl _))
  clear hp hk
  clear hA hs0 hw1 B1 b1 hg he hv i1 i2 i3 i4 hll
  go_enter Tryd.func63, Tryd.ntmps63
  go_wp2
  rw [← HW1.out]
  have q : Below w.heap.size w w1.drew := HB1.out.drew
  have hs1 : Sl w1.drew 1 (.slice A n c) (ints xs) := HS.out.below (Below.refl _ _).drew
  have Q := Lib.hid q; have HSS := Lib.hid hs1
  clear q hs1
  go_region_held3 (fun w' => w'.cell? ⟨w.heap.size, 0, none⟩ = some (.int .i64 gt) ∧ w'.cell? ⟨w.heap.size, 1, none⟩ = some (.int .i64 ep) ∧ w'.cell? ⟨w.heap.size, 2, none⟩ = some (.int .i64 nm) ∧ w'.cell? ⟨w.heap.size, 3, none⟩ = some (.slice A n c) ∧ w'.cell? ⟨w.heap.size, 4, none⟩ = some (.int .i64 vd))
    (first | exact ⟨c0, c1, c2, c3, c4⟩ | go_keep)
    (first
      | (have g1 := HG; clear HG; go_at_call 75; refine (itoa_any gt _ HP.out g1.out.1 g1.out.2).mono ?_; clear g1; rintro e w2 ⟨rfl, hb⟩; replace c0 := (hb.cell (p := ⟨w.heap.size, 0, none⟩) hlt).trans c0; replace c1 := (hb.cell (p := ⟨w.heap.size, 1, none⟩) hlt).trans c1; replace c2 := (hb.cell (p := ⟨w.heap.size, 2, none⟩) hlt).trans c2; replace c3 := (hb.cell (p := ⟨w.heap.size, 3, none⟩) hlt).trans c3; replace c4 := (hb.cell (p := ⟨w.heap.size, 4, none⟩) hlt).trans c4; replace hlt := Nat.lt_of_lt_of_le hlt hb.size; have HSS' := Lib.hid (HSS.out.below hb); have Q' := Lib.hid (below_then Q.out hb); have HP' := Lib.hid (HP.out.below hb); have HK' := Lib.hid (HKW.out.below hb (Nat.le_refl _)); clear HSS Q hb HP HKW; have HSS := HSS'; have Q := Q'; have HP := HP'; have HKW := HK'; clear HSS' Q' HP' HK')
      | (have g1 := HE; clear HE; go_at_call 75; refine (itoa_any ep _ HP.out g1.out.1 g1.out.2).mono ?_; clear g1; rintro e w2 ⟨rfl, hb⟩; replace c0 := (hb.cell (p := ⟨w.heap.size, 0, none⟩) hlt).trans c0; replace c1 := (hb.cell (p := ⟨w.heap.size, 1, none⟩) hlt).trans c1; replace c2 := (hb.cell (p := ⟨w.heap.size, 2, none⟩) hlt).trans c2; replace c3 := (hb.cell (p := ⟨w.heap.size, 3, none⟩) hlt).trans c3; replace c4 := (hb.cell (p := ⟨w.heap.size, 4, none⟩) hlt).trans c4; replace hlt := Nat.lt_of_lt_of_le hlt hb.size; have HSS' := Lib.hid (HSS.out.below hb); have Q' := Lib.hid (below_then Q.out hb); have HP' := Lib.hid (HP.out.below hb); have HK' := Lib.hid (HKW.out.below hb (Nat.le_refl _)); clear HSS Q hb HP HKW; have HSS := HSS'; have Q := Q'; have HP := HP'; have HKW := HK'; clear HSS' Q' HP' HK')
      | (have g1 := HV; clear HV; go_at_call 75; refine (itoa_any vd _ HP.out g1.out.1 g1.out.2).mono ?_; clear g1; rintro e w2 ⟨rfl, hb⟩; replace c0 := (hb.cell (p := ⟨w.heap.size, 0, none⟩) hlt).trans c0; replace c1 := (hb.cell (p := ⟨w.heap.size, 1, none⟩) hlt).trans c1; replace c2 := (hb.cell (p := ⟨w.heap.size, 2, none⟩) hlt).trans c2; replace c3 := (hb.cell (p := ⟨w.heap.size, 3, none⟩) hlt).trans c3; replace c4 := (hb.cell (p := ⟨w.heap.size, 4, none⟩) hlt).trans c4; replace hlt := Nat.lt_of_lt_of_le hlt hb.size; have HSS' := Lib.hid (HSS.out.below hb); have Q' := Lib.hid (below_then Q.out hb); have HP' := Lib.hid (HP.out.below hb); have HK' := Lib.hid (HKW.out.below hb (Nat.le_refl _)); clear HSS Q hb HP HKW; have HSS := HSS'; have Q := Q'; have HP := HP'; have HKW := HK'; clear HSS' Q' HP' HK')
      | (go_at_call 76; refine (CallWrite_any nm _ xs _ HP.out HSS.out).mono ?_; rintro e w2 ⟨rfl, hb⟩; replace c0 := (hb.cell (p := ⟨w.heap.size, 0, none⟩) hlt).trans c0; replace c1 := (hb.cell (p := ⟨w.heap.size, 1, none⟩) hlt).trans c1; replace c2 := (hb.cell (p := ⟨w.heap.size, 2, none⟩) hlt).trans c2; replace c3 := (hb.cell (p := ⟨w.heap.size, 3, none⟩) hlt).trans c3; replace c4 := (hb.cell (p := ⟨w.heap.size, 4, none⟩) hlt).trans c4; replace hlt := Nat.lt_of_lt_of_le hlt hb.size; have HSS' := Lib.hid (HSS.out.below hb); have Q' := Lib.hid (below_then Q.out hb); have HP' := Lib.hid (HP.out.below hb); have HK' := Lib.hid (HKW.out.below hb (Nat.le_refl _)); clear HSS Q hb HP HKW; have HSS := HSS'; have Q := Q'; have HP := HP'; have HKW := HK'; clear HSS' Q' HP' HK')
      | (go_at_call 74; refine (HashSum_eq _ (toldText [] ⟨gt, ep, nm, xs, vd⟩) _ HKW.out (ba_told _ _ _ _ _) HL.out).mono ?_; rintro e w2 ⟨rfl, hb⟩; replace c0 := (hb.cell (p := ⟨w.heap.size, 0, none⟩) hlt).trans c0; replace c1 := (hb.cell (p := ⟨w.heap.size, 1, none⟩) hlt).trans c1; replace c2 := (hb.cell (p := ⟨w.heap.size, 2, none⟩) hlt).trans c2; replace c3 := (hb.cell (p := ⟨w.heap.size, 3, none⟩) hlt).trans c3; replace c4 := (hb.cell (p := ⟨w.heap.size, 4, none⟩) hlt).trans c4; replace hlt := Nat.lt_of_lt_of_le hlt hb.size; have HSS' := Lib.hid (HSS.out.below hb); have Q' := Lib.hid (below_then Q.out hb); have HP' := Lib.hid (HP.out.below hb); have HK' := Lib.hid (HKW.out.below hb (Nat.le_refl _)); clear HSS Q hb HP HKW; have HSS := HSS'; have Q := Q'; have HP := HP'; have HKW := HK'; clear HSS' Q' HP' HK'))
  all_goals
    go_wp2
    go_ret
    exact ⟨rfl, Q.out⟩
end Go.Proofs.YtaieopdfkapgdaaDoor
