/- Joined texts: BookT BookA BookI. -/
import Derived.Test.YtaieopdfkapgdaaDoorHashQ
import Derived.Test.YtaieopdfkapgdaaDoorCallW
import Derived.Deep.DrawnRows
import Derived.Test.YtaieopdfkapgdaaDoorShelf
-- Books: plain words; the text of a line, and its sum: spec.l15Sum, (*impl.page).lineSum.
namespace Go.Proofs.YtaieopdfkapgdaaDoor
open Go.RowKit
set_option linter.unusedSimpArgs false
set_option linter.unusedVariables false

def inI (n : Int) : Prop := -9223372036854775808 ≤ n ∧ n ≤ 9223372036854775807
/-- What was told. -/
structure Tl where
  gate : Int
  epoch : Int
  num : Int
  args : List Int
  verdict : Int
def Tl.ok (t : Tl) : Prop := inI t.gate ∧ inI t.epoch ∧ inI t.verdict
/-- The text that a line sums. -/
noncomputable def toldText (last : List UInt8) (t : Tl) : List UInt8 :=
  last ++ [10] ++ Lib.itoa t.gate ++ [32] ++ Lib.itoa t.epoch ++ [32] ++ textOf t.num t.args ++ [32] ++ Lib.itoa t.verdict
noncomputable def lineHash (last : List UInt8) (t : Tl) : List UInt8 := hashText (toldText last t)
theorem lineHash_len (last : List UInt8) (t : Tl) : (lineHash last t).length = 64 := hashText_len _
theorem textOf_len (n : Int) (xs : List Int) : (textOf n xs).length ≤ 60 := by
  unfold textOf
  by_cases h : callOk n xs
  · rw [if_pos (callOkB_iff.2 h)]
    have h1 := argText_len xs h.2.2
    have h2 : (Lib.itoa n).length ≤ 10 := by rw [itoa_val n h.1.1]; exact decDigits_le 9 _ (by have := h.1; omega)
    have h3 := h.2.1
    unfold callText
    simp
    omega
  · rw [if_neg (fun e => h (callOkB_iff.1 e))]; simp
theorem toldText_len (last : List UInt8) (t : Tl) (h : t.ok) : (toldText last t).length ≤ last.length + 200 := by
  have h1 := itoa_len t.gate h.1.1 h.1.2
  have h2 := itoa_len t.epoch h.2.1.1 h.2.1.2
  have h3 := itoa_len t.verdict h.2.2.1 h.2.2.2
  have h4 := textOf_len t.num t.args
  unfold toldText
  simp
  omega
theorem ba_told (a b c d e : List UInt8) :
    ({ data := a.toArray } : ByteArray) ++ { data := #[10] } ++ { data := b.toArray } ++ { data := #[32] } ++ { data := c.toArray } ++ { data := #[32] } ++ { data := d.toArray } ++ { data := #[32] } ++ { data := e.toArray } =
      ⟨(a ++ [10] ++ b ++ [32] ++ c ++ [32] ++ d ++ [32] ++ e).toArray⟩ := by
  apply ByteArray.ext
  simp
theorem sHashSum_eq (s : ByteArray) (l : List UInt8) (w : World) (e : s = ⟨l.toArray⟩) (hl : l.length ≤ 16777216) :
    Calls Tryd.prog 35 #[.string s] w fun e w' => e = .returned (.string ⟨(hashText l).toArray⟩) ∧ Below w.heap.size w w' := by
  have := sHashSum_any s w (by rw [e, bsize]; exact hl)
  have e2 : s.data.toList = l := by rw [e]
  rwa [e2] at this
theorem HashSum_eq (s : ByteArray) (l : List UInt8) (w : World) (hk : Kww w) (e : s = ⟨l.toArray⟩) (hl : l.length ≤ 16777216) :
    Calls Tryd.prog 74 #[.string s] w fun e w' => e = .returned (.string ⟨(hashText l).toArray⟩) ∧ Below w.heap.size w w' := by
  have := HashSum_any s w hk (by rw [e, bsize]; omega)
  have e2 : s.data.toList = l := by rw [e]
  rwa [e2] at this

set_option maxRecDepth 100000 in
set_option maxHeartbeats 2000000 in
theorem l15Sum_any (last : List UInt8) (t : Tl) (av : Value) (w : World) (ht : t.ok) (hs : Sl w 1 av (ints t.args)) (hl : last.length ≤ 1048576) :
    Calls Tryd.prog 32 #[.string ⟨last.toArray⟩, .agg #[.int .i64 t.gate, .int .i64 t.epoch, .int .i64 t.num, av, .int .i64 t.verdict]] w fun e w' => e = .returned (.string ⟨(lineHash last t).toArray⟩) ∧ Below w.heap.size w w' := by
  obtain ⟨gt, ep, nm, xs, vd⟩ := t
  have hll := toldText_len last ⟨gt, ep, nm, xs, vd⟩ ht
  obtain ⟨hg, he, hv⟩ := ht
  simp only at hg he hv hs ⊢
  have i1 := itoa_len gt hg.1 hg.2
  have i2 := itoa_len ep he.1 he.2
  have i3 := itoa_len vd hv.1 hv.2
  have i4 := textOf_len nm xs
  have hs0 := hs
  obtain ⟨A, n, c, rfl, hA⟩ := hs
  obtain ⟨w1, hw1⟩ : ∃ w1, w1 = w.alloc (.cells #[.int .i64 gt, .int .i64 ep, .int .i64 nm, .slice A n c, .int .i64 vd] 30) := ⟨_, rfl⟩
  have b1 : Below w.heap.size w w1 := by rw [hw1]; go_grown
  have B1 : Blk w1 w.heap.size 30 #[.int .i64 gt, .int .i64 ep, .int .i64 nm, .slice A n c, .int .i64 vd] := by rw [hw1]; exact Blk.new _ _ _
  have hlt := B1.lt
  have c0 := (show _ = some (Value.int .i64 gt) from B1.cell 0)
  have c1 := (show _ = some (Value.int .i64 ep) from B1.cell 1)
  have c2 := (show _ = some (Value.int .i64 nm) from B1.cell 2)
  have c3 := (show _ = some (Value.slice A n c) from B1.cell 3)
  have c4 := (show _ = some (Value.int .i64 vd) from B1.cell 4)
  have d1 : ¬ 9223372036854775807 < last.length + 1 := by omega
  have d2 : ¬ 9223372036854775807 < last.length + 1 + (Lib.itoa gt).length := by omega
  have d3 : ¬ 9223372036854775807 < last.length + 1 + (Lib.itoa gt).length + 1 := by omega
  have d4 : ¬ 9223372036854775807 < last.length + 1 + (Lib.itoa gt).length + 1 + (Lib.itoa ep).length := by omega
  have d5 : ¬ 9223372036854775807 < last.length + 1 + (Lib.itoa gt).length + 1 + (Lib.itoa ep).length + 1 := by omega
  have d6 : ¬ 9223372036854775807 < last.length + 1 + (Lib.itoa gt).length + 1 + (Lib.itoa ep).length + 1 + (textOf nm xs).length := by omega
  have d7 : ¬ 9223372036854775807 < last.length + 1 + (Lib.itoa gt).length + 1 + (Lib.itoa ep).length + 1 + (textOf nm xs).length + 1 := by omega
  have d8 : ¬ 9223372036854775807 < last.length + 1 + (Lib.itoa gt).length + 1 + (Lib.itoa ep).length + 1 + (textOf nm xs).length + 1 + (Lib.itoa vd).length := by omega
  have HG := Lib.hid hg; have HE := Lib.hid he; have HV := Lib.hid hv
  have HS := Lib.hid (hs0.below b1)
  have HL := Lib.hid (show (toldText last ⟨gt, ep, nm, xs, vd⟩).length ≤ 16777216 by omega)
  have HW1 := Lib.hid hw1
  have HB1 := Lib.hid b1
  clear hA hs0 hw1 B1 b1 hg he hv i1 i2 i3 i4 hll hl
  go_enter Tryd.func32, Tryd.ntmps32
  go_wp2
  rw [← HW1.out]
  have q : Below w.heap.size w w1.drew := HB1.out.drew
  have hs1 : Sl w1.drew 1 (.slice A n c) (ints xs) := HS.out.below (Below.refl _ _).drew
  have Q := Lib.hid q; have HSS := Lib.hid hs1
  clear q hs1
  go_region_held3 (fun w' => w'.cell? ⟨w.heap.size, 0, none⟩ = some (.int .i64 gt) ∧ w'.cell? ⟨w.heap.size, 1, none⟩ = some (.int .i64 ep) ∧ w'.cell? ⟨w.heap.size, 2, none⟩ = some (.int .i64 nm) ∧ w'.cell? ⟨w.heap.size, 3, none⟩ = some (.slice A n c) ∧ w'.cell? ⟨w.heap.size, 4, none⟩ = some (.int .i64 vd))
    (first | exact ⟨c0, c1, c2, c3, c4⟩ | go_keep)
    (first
      | (have g1 := HG; clear HG; go_at_call 56; refine (l1Dec_any gt _ g1.out.1 g1.out.2).mono ?_; clear g1; rintro e w2 ⟨rfl, hb⟩; replace c0 := (hb.cell (p := ⟨w.heap.size, 0, none⟩) hlt).trans c0; replace c1 := (hb.cell (p := ⟨w.heap.size, 1, none⟩) hlt).trans c1; replace c2 := (hb.cell (p := ⟨w.heap.size, 2, none⟩) hlt).trans c2; replace c3 := (hb.cell (p := ⟨w.heap.size, 3, none⟩) hlt).trans c3; replace c4 := (hb.cell (p := ⟨w.heap.size, 4, none⟩) hlt).trans c4; replace hlt := Nat.lt_of_lt_of_le hlt hb.size; have HSS' := Lib.hid (HSS.out.below hb); have Q' := Lib.hid (below_then Q.out hb); clear HSS Q hb; have HSS := HSS'; have Q := Q'; clear HSS' Q')
      | (have g1 := HE; clear HE; go_at_call 56; refine (l1Dec_any ep _ g1.out.1 g1.out.2).mono ?_; clear g1; rintro e w2 ⟨rfl, hb⟩; replace c0 := (hb.cell (p := ⟨w.heap.size, 0, none⟩) hlt).trans c0; replace c1 := (hb.cell (p := ⟨w.heap.size, 1, none⟩) hlt).trans c1; replace c2 := (hb.cell (p := ⟨w.heap.size, 2, none⟩) hlt).trans c2; replace c3 := (hb.cell (p := ⟨w.heap.size, 3, none⟩) hlt).trans c3; replace c4 := (hb.cell (p := ⟨w.heap.size, 4, none⟩) hlt).trans c4; replace hlt := Nat.lt_of_lt_of_le hlt hb.size; have HSS' := Lib.hid (HSS.out.below hb); have Q' := Lib.hid (below_then Q.out hb); clear HSS Q hb; have HSS := HSS'; have Q := Q'; clear HSS' Q')
      | (have g1 := HV; clear HV; go_at_call 56; refine (l1Dec_any vd _ g1.out.1 g1.out.2).mono ?_; clear g1; rintro e w2 ⟨rfl, hb⟩; replace c0 := (hb.cell (p := ⟨w.heap.size, 0, none⟩) hlt).trans c0; replace c1 := (hb.cell (p := ⟨w.heap.size, 1, none⟩) hlt).trans c1; replace c2 := (hb.cell (p := ⟨w.heap.size, 2, none⟩) hlt).trans c2; replace c3 := (hb.cell (p := ⟨w.heap.size, 3, none⟩) hlt).trans c3; replace c4 := (hb.cell (p := ⟨w.heap.size, 4, none⟩) hlt).trans c4; replace hlt := Nat.lt_of_lt_of_le hlt hb.size; have HSS' := Lib.hid (HSS.out.below hb); have Q' := Lib.hid (below_then Q.out hb); clear HSS Q hb; have HSS := HSS'; have Q := Q'; clear HSS' Q')
      | (go_at_call 34; refine (sCallWrite_any nm _ xs _ HSS.out).mono ?_; rintro e w2 ⟨rfl, hb⟩; replace c0 := (hb.cell (p := ⟨w.heap.size, 0, none⟩) hlt).trans c0; replace c1 := (hb.cell (p := ⟨w.heap.size, 1, none⟩) hlt).trans c1; replace c2 := (hb.cell (p := ⟨w.heap.size, 2, none⟩) hlt).trans c2; replace c3 := (hb.cell (p := ⟨w.heap.size, 3, none⟩) hlt).trans c3; replace c4 := (hb.cell (p := ⟨w.heap.size, 4, none⟩) hlt).trans c4; replace hlt := Nat.lt_of_lt_of_le hlt hb.size; have HSS' := Lib.hid (HSS.out.below hb); have Q' := Lib.hid (below_then Q.out hb); clear HSS Q hb; have HSS := HSS'; have Q := Q'; clear HSS' Q')
      | (go_at_call 35; refine (sHashSum_eq _ (toldText last ⟨gt, ep, nm, xs, vd⟩) _ (ba_told _ _ _ _ _) HL.out).mono ?_; rintro e w2 ⟨rfl, hb⟩; replace c0 := (hb.cell (p := ⟨w.heap.size, 0, none⟩) hlt).trans c0; replace c1 := (hb.cell (p := ⟨w.heap.size, 1, none⟩) hlt).trans c1; replace c2 := (hb.cell (p := ⟨w.heap.size, 2, none⟩) hlt).trans c2; replace c3 := (hb.cell (p := ⟨w.heap.size, 3, none⟩) hlt).trans c3; replace c4 := (hb.cell (p := ⟨w.heap.size, 4, none⟩) hlt).trans c4; replace hlt := Nat.lt_of_lt_of_le hlt hb.size; have HSS' := Lib.hid (HSS.out.below hb); have Q' := Lib.hid (below_then Q.out hb); clear HSS Q hb; have HSS := HSS'; have Q := Q'; clear HSS' Q'))
  all_goals
    go_wp2
    go_ret
    exact ⟨rfl, Q.out⟩
set_option maxRecDepth 100000 in
set_option maxHeartbeats 2000000 in
theorem lineSum_some (p : Nat) (f : Tl) (fv : Value) (last : List UInt8) (cnt ov : Value) (t : Tl) (av : Value) (w : World) (hp : Pow w) (hk : Kww w) (hpg : Blk w p 74 #[.int .i64 f.gate, .int .i64 f.epoch, .int .i64 f.num, fv, .int .i64 f.verdict, .string ⟨last.toArray⟩, cnt, ov]) (ht : t.ok) (hs : Sl w 1 av (ints t.args)) (hl : last.length ≤ 1048576) :
    Calls Tryd.prog 63 #[.pointer (some ⟨p, 0, none⟩), .agg #[.int .i64 t.gate, .int .i64 t.epoch, .int .i64 t.num, av, .int .i64 t.verdict]] w fun e w' => e = .returned (.string ⟨(lineHash last t).toArray⟩) ∧ Below w.heap.size w w' := by
  obtain ⟨gt, ep, nm, xs, vd⟩ := t
  have hll := toldText_len last ⟨gt, ep, nm, xs, vd⟩ ht
  obtain ⟨hg, he, hv⟩ := ht
  simp only at hg he hv hs ⊢
  have i1 := itoa_len gt hg.1 hg.2
  have i2 := itoa_len ep he.1 he.2
  have i3 := itoa_len vd hv.1 hv.2
  have i4 := textOf_len nm xs
  have hs0 := hs
  obtain ⟨A, n, c, rfl, hA⟩ := hs
  obtain ⟨w1, hw1⟩ : ∃ w1, w1 = w.alloc (.cells #[.int .i64 gt, .int .i64 ep, .int .i64 nm, .slice A n c, .int .i64 vd] 30) := ⟨_, rfl⟩
  have b1 : Below w.heap.size w w1 := by rw [hw1]; go_grown
  have B1 : Blk w1 w.heap.size 30 #[.int .i64 gt, .int .i64 ep, .int .i64 nm, .slice A n c, .int .i64 vd] := by rw [hw1]; exact Blk.new _ _ _
  have hlt := B1.lt
  have c0 := (show _ = some (Value.int .i64 gt) from B1.cell 0)
  have c1 := (show _ = some (Value.int .i64 ep) from B1.cell 1)
  have c2 := (show _ = some (Value.int .i64 nm) from B1.cell 2)
  have c3 := (show _ = some (Value.slice A n c) from B1.cell 3)
  have c4 := (show _ = some (Value.int .i64 vd) from B1.cell 4)
  have d1 : ¬ 9223372036854775807 < last.length + 1 := by omega
  have d2 : ¬ 9223372036854775807 < last.length + 1 + (Lib.itoa gt).length := by omega
  have d3 : ¬ 9223372036854775807 < last.length + 1 + (Lib.itoa gt).length + 1 := by omega
  have d4 : ¬ 9223372036854775807 < last.length + 1 + (Lib.itoa gt).length + 1 + (Lib.itoa ep).length := by omega
  have d5 : ¬ 9223372036854775807 < last.length + 1 + (Lib.itoa gt).length + 1 + (Lib.itoa ep).length + 1 := by omega
  have d6 : ¬ 9223372036854775807 < last.length + 1 + (Lib.itoa gt).length + 1 + (Lib.itoa ep).length + 1 + (textOf nm xs).length := by omega
  have d7 : ¬ 9223372036854775807 < last.length + 1 + (Lib.itoa gt).length + 1 + (Lib.itoa ep).length + 1 + (textOf nm xs).length + 1 := by omega
  have d8 : ¬ 9223372036854775807 < last.length + 1 + (Lib.itoa gt).length + 1 + (Lib.itoa ep).length + 1 + (textOf nm xs).length + 1 + (Lib.itoa vd).length := by omega
  have HG := Lib.hid hg; have HE := Lib.hid he; have HV := Lib.hid hv
  have HS := Lib.hid (hs0.below b1)
  have HL := Lib.hid (show (toldText last ⟨gt, ep, nm, xs, vd⟩).length ≤ 16777216 by omega)
  have HW1 := Lib.hid hw1
  have HB1 := Lib.hid b1
  have hp5 : (w.alloc (.cells #[.int .i64 gt, .int .i64 ep, .int .i64 nm, .slice A n c, .int .i64 vd] 30)).cell? ⟨p, 5, none⟩ = some (Value.string ⟨last.toArray⟩) := by rw [← hw1]; exact (hpg.below b1 hpg.lt).cell 5
  have HP := Lib.hid ((hp.below b1).below (Below.refl _ _).drew)
  have HKW := Lib.hid ((hk.below b1 (Nat.le_refl _)).below (Below.refl w1.heap.size w1).drew (Nat.le_refl _))
  clear hp hk hpg
  clear hA hs0 hw1 B1 b1 hg he hv i1 i2 i3 i4 hll hl
  go_enter Tryd.func63, Tryd.ntmps63
  go_wp2
  rw [← HW1.out]
  have q : Below w.heap.size w w1.drew := HB1.out.drew
  have hs1 : Sl w1.drew 1 (.slice A n c) (ints xs) := HS.out.below (Below.refl _ _).drew
  have Q := Lib.hid q; have HSS := Lib.hid hs1
  clear q hs1
  go_region_held3 (fun w' => w'.cell? ⟨w.heap.size, 0, none⟩ = some (.int .i64 gt) ∧ w'.cell? ⟨w.heap.size, 1, none⟩ = some (.int .i64 ep) ∧ w'.cell? ⟨w.heap.size, 2, none⟩ = some (.int .i64 nm) ∧ w'.cell? ⟨w.heap.size, 3, none⟩ = some (.slice A n c) ∧ w'.cell? ⟨w.heap.size, 4, none⟩ = some (.int .i64 vd))
    (first | exact ⟨c0, c1, c2, c3, c4⟩ | go_keep)
    (first
      | (have g1 := HG; clear HG; go_at_call 75; refine (itoa_any gt _ HP.out g1.out.1 g1.out.2).mono ?_; clear g1; rintro e w2 ⟨rfl, hb⟩; replace c0 := (hb.cell (p := ⟨w.heap.size, 0, none⟩) hlt).trans c0; replace c1 := (hb.cell (p := ⟨w.heap.size, 1, none⟩) hlt).trans c1; replace c2 := (hb.cell (p := ⟨w.heap.size, 2, none⟩) hlt).trans c2; replace c3 := (hb.cell (p := ⟨w.heap.size, 3, none⟩) hlt).trans c3; replace c4 := (hb.cell (p := ⟨w.heap.size, 4, none⟩) hlt).trans c4; replace hlt := Nat.lt_of_lt_of_le hlt hb.size; have HSS' := Lib.hid (HSS.out.below hb); have Q' := Lib.hid (below_then Q.out hb); have HP' := Lib.hid (HP.out.below hb); have HK' := Lib.hid (HKW.out.below hb (Nat.le_refl _)); clear HSS Q hb HP HKW; have HSS := HSS'; have Q := Q'; have HP := HP'; have HKW := HK'; clear HSS' Q' HP' HK')
      | (have g1 := HE; clear HE; go_at_call 75; refine (itoa_any ep _ HP.out g1.out.1 g1.out.2).mono ?_; clear g1; rintro e w2 ⟨rfl, hb⟩; replace c0 := (hb.cell (p := ⟨w.heap.size, 0, none⟩) hlt).trans c0; replace c1 := (hb.cell (p := ⟨w.heap.size, 1, none⟩) hlt).trans c1; replace c2 := (hb.cell (p := ⟨w.heap.size, 2, none⟩) hlt).trans c2; replace c3 := (hb.cell (p := ⟨w.heap.size, 3, none⟩) hlt).trans c3; replace c4 := (hb.cell (p := ⟨w.heap.size, 4, none⟩) hlt).trans c4; replace hlt := Nat.lt_of_lt_of_le hlt hb.size; have HSS' := Lib.hid (HSS.out.below hb); have Q' := Lib.hid (below_then Q.out hb); have HP' := Lib.hid (HP.out.below hb); have HK' := Lib.hid (HKW.out.below hb (Nat.le_refl _)); clear HSS Q hb HP HKW; have HSS := HSS'; have Q := Q'; have HP := HP'; have HKW := HK'; clear HSS' Q' HP' HK')
      | (have g1 := HV; clear HV; go_at_call 75; refine (itoa_any vd _ HP.out g1.out.1 g1.out.2).mono ?_; clear g1; rintro e w2 ⟨rfl, hb⟩; replace c0 := (hb.cell (p := ⟨w.heap.size, 0, none⟩) hlt).trans c0; replace c1 := (hb.cell (p := ⟨w.heap.size, 1, none⟩) hlt).trans c1; replace c2 := (hb.cell (p := ⟨w.heap.size, 2, none⟩) hlt).trans c2; replace c3 := (hb.cell (p := ⟨w.heap.size, 3, none⟩) hlt).trans c3; replace c4 := (hb.cell (p := ⟨w.heap.size, 4, none⟩) hlt).trans c4; replace hlt := Nat.lt_of_lt_of_le hlt hb.size; have HSS' := Lib.hid (HSS.out.below hb); have Q' := Lib.hid (below_then Q.out hb); have HP' := Lib.hid (HP.out.below hb); have HK' := Lib.hid (HKW.out.below hb (Nat.le_refl _)); clear HSS Q hb HP HKW; have HSS := HSS'; have Q := Q'; have HP := HP'; have HKW := HK'; clear HSS' Q' HP' HK')
      | (go_at_call 76; refine (CallWrite_any nm _ xs _ HP.out HSS.out).mono ?_; rintro e w2 ⟨rfl, hb⟩; replace c0 := (hb.cell (p := ⟨w.heap.size, 0, none⟩) hlt).trans c0; replace c1 := (hb.cell (p := ⟨w.heap.size, 1, none⟩) hlt).trans c1; replace c2 := (hb.cell (p := ⟨w.heap.size, 2, none⟩) hlt).trans c2; replace c3 := (hb.cell (p := ⟨w.heap.size, 3, none⟩) hlt).trans c3; replace c4 := (hb.cell (p := ⟨w.heap.size, 4, none⟩) hlt).trans c4; replace hlt := Nat.lt_of_lt_of_le hlt hb.size; have HSS' := Lib.hid (HSS.out.below hb); have Q' := Lib.hid (below_then Q.out hb); have HP' := Lib.hid (HP.out.below hb); have HK' := Lib.hid (HKW.out.below hb (Nat.le_refl _)); clear HSS Q hb HP HKW; have HSS := HSS'; have Q := Q'; have HP := HP'; have HKW := HK'; clear HSS' Q' HP' HK')
      | (go_at_call 74; refine (HashSum_eq _ (toldText last ⟨gt, ep, nm, xs, vd⟩) _ HKW.out (ba_told _ _ _ _ _) HL.out).mono ?_; rintro e w2 ⟨rfl, hb⟩; replace c0 := (hb.cell (p := ⟨w.heap.size, 0, none⟩) hlt).trans c0; replace c1 := (hb.cell (p := ⟨w.heap.size, 1, none⟩) hlt).trans c1; replace c2 := (hb.cell (p := ⟨w.heap.size, 2, none⟩) hlt).trans c2; replace c3 := (hb.cell (p := ⟨w.heap.size, 3, none⟩) hlt).trans c3; replace c4 := (hb.cell (p := ⟨w.heap.size, 4, none⟩) hlt).trans c4; replace hlt := Nat.lt_of_lt_of_le hlt hb.size; have HSS' := Lib.hid (HSS.out.below hb); have Q' := Lib.hid (below_then Q.out hb); have HP' := Lib.hid (HP.out.below hb); have HK' := Lib.hid (HKW.out.below hb (Nat.le_refl _)); clear HSS Q hb HP HKW; have HSS := HSS'; have Q := Q'; have HP := HP'; have HKW := HK'; clear HSS' Q' HP' HK'))
  all_goals
    go_wp2
    go_ret
    exact ⟨rfl, Q.out⟩
set_option maxRecDepth 100000 in
set_option maxHeartbeats 2000000 in
theorem lineSum_none (t : Tl) (av : Value) (w : World) (hp : Pow w) (hk : Kww w) (ht : t.ok) (hs : Sl w 1 av (ints t.args)) :
    Calls Tryd.prog 63 #[.pointer none, .agg #[.int .i64 t.gate, .int .i64 t.epoch, .int .i64 t.num, av, .int .i64 t.verdict]] w fun e w' => e = .returned (.string ⟨(lineHash [] t).toArray⟩) ∧ Below w.heap.size w w' := by
  obtain ⟨gt, ep, nm, xs, vd⟩ := t
  have hll := toldText_len [] ⟨gt, ep, nm, xs, vd⟩ ht
  rw [List.length_nil] at hll
  obtain ⟨hg, he, hv⟩ := ht
  simp only at hg he hv hs ⊢
  have i1 := itoa_len gt hg.1 hg.2
  have i2 := itoa_len ep he.1 he.2
  have i3 := itoa_len vd hv.1 hv.2
  have i4 := textOf_len nm xs
  have hs0 := hs
  obtain ⟨A, n, c, rfl, hA⟩ := hs
  obtain ⟨w1, hw1⟩ : ∃ w1, w1 = w.alloc (.cells #[.int .i64 gt, .int .i64 ep, .int .i64 nm, .slice A n c, .int .i64 vd] 30) := ⟨_, rfl⟩
  have b1 : Below w.heap.size w w1 := by rw [hw1]; go_grown
  have B1 : Blk w1 w.heap.size 30 #[.int .i64 gt, .int .i64 ep, .int .i64 nm, .slice A n c, .int .i64 vd] := by rw [hw1]; exact Blk.new _ _ _
  have hlt := B1.lt
  have c0 := (show _ = some (Value.int .i64 gt) from B1.cell 0)
  have c1 := (show _ = some (Value.int .i64 ep) from B1.cell 1)
  have c2 := (show _ = some (Value.int .i64 nm) from B1.cell 2)
  have c3 := (show _ = some (Value.slice A n c) from B1.cell 3)
  have c4 := (show _ = some (Value.int .i64 vd) from B1.cell 4)
  have d1 : ¬ 9223372036854775807 < 1 := by omega
  have d2 : ¬ 9223372036854775807 < 1 + (Lib.itoa gt).length := by omega
  have d3 : ¬ 9223372036854775807 < 1 + (Lib.itoa gt).length + 1 := by omega
  have d4 : ¬ 9223372036854775807 < 1 + (Lib.itoa gt).length + 1 + (Lib.itoa ep).length := by omega
  have d5 : ¬ 9223372036854775807 < 1 + (Lib.itoa gt).length + 1 + (Lib.itoa ep).length + 1 := by omega
  have d6 : ¬ 9223372036854775807 < 1 + (Lib.itoa gt).length + 1 + (Lib.itoa ep).length + 1 + (textOf nm xs).length := by omega
  have d7 : ¬ 9223372036854775807 < 1 + (Lib.itoa gt).length + 1 + (Lib.itoa ep).length + 1 + (textOf nm xs).length + 1 := by omega
  have d8 : ¬ 9223372036854775807 < 1 + (Lib.itoa gt).length + 1 + (Lib.itoa ep).length + 1 + (textOf nm xs).length + 1 + (Lib.itoa vd).length := by omega
  have HG := Lib.hid hg; have HE := Lib.hid he; have HV := Lib.hid hv
  have HS := Lib.hid (hs0.below b1)
  have HL := Lib.hid (show (toldText [] ⟨gt, ep, nm, xs, vd⟩).length ≤ 16777216 by omega)
  have HW1 := Lib.hid hw1
  have HB1 := Lib.hid b1
  have HP := Lib.hid ((hp.below b1).below (Below.refl _ _).drew)
  have HKW := Lib.hid ((hk.below b1 (Nat.le_refl _)).below (Below.refl w1.heap.size w1).drew (Nat.le_refl _))
  clear hp hk
  clear hA hs0 hw1 B1 b1 hg he hv i1 i2 i3 i4 hll
  go_enter Tryd.func63, Tryd.ntmps63
  go_wp2
  rw [← HW1.out]
  have q : Below w.heap.size w w1.drew := HB1.out.drew
  have hs1 : Sl w1.drew 1 (.slice A n c) (ints xs) := HS.out.below (Below.refl _ _).drew
  have Q := Lib.hid q; have HSS := Lib.hid hs1
  clear q hs1
  go_region_held3 (fun w' => w'.cell? ⟨w.heap.size, 0, none⟩ = some (.int .i64 gt) ∧ w'.cell? ⟨w.heap.size, 1, none⟩ = some (.int .i64 ep) ∧ w'.cell? ⟨w.heap.size, 2, none⟩ = some (.int .i64 nm) ∧ w'.cell? ⟨w.heap.size, 3, none⟩ = some (.slice A n c) ∧ w'.cell? ⟨w.heap.size, 4, none⟩ = some (.int .i64 vd))
    (first | exact ⟨c0, c1, c2, c3, c4⟩ | go_keep)
    (first
      | (have g1 := HG; clear HG; go_at_call 75; refine (itoa_any gt _ HP.out g1.out.1 g1.out.2).mono ?_; clear g1; rintro e w2 ⟨rfl, hb⟩; replace c0 := (hb.cell (p := ⟨w.heap.size, 0, none⟩) hlt).trans c0; replace c1 := (hb.cell (p := ⟨w.heap.size, 1, none⟩) hlt).trans c1; replace c2 := (hb.cell (p := ⟨w.heap.size, 2, none⟩) hlt).trans c2; replace c3 := (hb.cell (p := ⟨w.heap.size, 3, none⟩) hlt).trans c3; replace c4 := (hb.cell (p := ⟨w.heap.size, 4, none⟩) hlt).trans c4; replace hlt := Nat.lt_of_lt_of_le hlt hb.size; have HSS' := Lib.hid (HSS.out.below hb); have Q' := Lib.hid (below_then Q.out hb); have HP' := Lib.hid (HP.out.below hb); have HK' := Lib.hid (HKW.out.below hb (Nat.le_refl _)); clear HSS Q hb HP HKW; have HSS := HSS'; have Q := Q'; have HP := HP'; have HKW := HK'; clear HSS' Q' HP' HK')
      | (have g1 := HE; clear HE; go_at_call 75; refine (itoa_any ep _ HP.out g1.out.1 g1.out.2).mono ?_; clear g1; rintro e w2 ⟨rfl, hb⟩; replace c0 := (hb.cell (p := ⟨w.heap.size, 0, none⟩) hlt).trans c0; replace c1 := (hb.cell (p := ⟨w.heap.size, 1, none⟩) hlt).trans c1; replace c2 := (hb.cell (p := ⟨w.heap.size, 2, none⟩) hlt).trans c2; replace c3 := (hb.cell (p := ⟨w.heap.size, 3, none⟩) hlt).trans c3; replace c4 := (hb.cell (p := ⟨w.heap.size, 4, none⟩) hlt).trans c4; replace hlt := Nat.lt_of_lt_of_le hlt hb.size; have HSS' := Lib.hid (HSS.out.below hb); have Q' := Lib.hid (below_then Q.out hb); have HP' := Lib.hid (HP.out.below hb); have HK' := Lib.hid (HKW.out.below hb (Nat.le_refl _)); clear HSS Q hb HP HKW; have HSS := HSS'; have Q := Q'; have HP := HP'; have HKW := HK'; clear HSS' Q' HP' HK')
      | (have g1 := HV; clear HV; go_at_call 75; refine (itoa_any vd _ HP.out g1.out.1 g1.out.2).mono ?_; clear g1; rintro e w2 ⟨rfl, hb⟩; replace c0 := (hb.cell (p := ⟨w.heap.size, 0, none⟩) hlt).trans c0; replace c1 := (hb.cell (p := ⟨w.heap.size, 1, none⟩) hlt).trans c1; replace c2 := (hb.cell (p := ⟨w.heap.size, 2, none⟩) hlt).trans c2; replace c3 := (hb.cell (p := ⟨w.heap.size, 3, none⟩) hlt).trans c3; replace c4 := (hb.cell (p := ⟨w.heap.size, 4, none⟩) hlt).trans c4; replace hlt := Nat.lt_of_lt_of_le hlt hb.size; have HSS' := Lib.hid (HSS.out.below hb); have Q' := Lib.hid (below_then Q.out hb); have HP' := Lib.hid (HP.out.below hb); have HK' := Lib.hid (HKW.out.below hb (Nat.le_refl _)); clear HSS Q hb HP HKW; have HSS := HSS'; have Q := Q'; have HP := HP'; have HKW := HK'; clear HSS' Q' HP' HK')
      | (go_at_call 76; refine (CallWrite_any nm _ xs _ HP.out HSS.out).mono ?_; rintro e w2 ⟨rfl, hb⟩; replace c0 := (hb.cell (p := ⟨w.heap.size, 0, none⟩) hlt).trans c0; replace c1 := (hb.cell (p := ⟨w.heap.size, 1, none⟩) hlt).trans c1; replace c2 := (hb.cell (p := ⟨w.heap.size, 2, none⟩) hlt).trans c2; replace c3 := (hb.cell (p := ⟨w.heap.size, 3, none⟩) hlt).trans c3; replace c4 := (hb.cell (p := ⟨w.heap.size, 4, none⟩) hlt).trans c4; replace hlt := Nat.lt_of_lt_of_le hlt hb.size; have HSS' := Lib.hid (HSS.out.below hb); have Q' := Lib.hid (below_then Q.out hb); have HP' := Lib.hid (HP.out.below hb); have HK' := Lib.hid (HKW.out.below hb (Nat.le_refl _)); clear HSS Q hb HP HKW; have HSS := HSS'; have Q := Q'; have HP := HP'; have HKW := HK'; clear HSS' Q' HP' HK')
      | (go_at_call 74; refine (HashSum_eq _ (toldText [] ⟨gt, ep, nm, xs, vd⟩) _ HKW.out (ba_told _ _ _ _ _) HL.out).mono ?_; rintro e w2 ⟨rfl, hb⟩; replace c0 := (hb.cell (p := ⟨w.heap.size, 0, none⟩) hlt).trans c0; replace c1 := (hb.cell (p := ⟨w.heap.size, 1, none⟩) hlt).trans c1; replace c2 := (hb.cell (p := ⟨w.heap.size, 2, none⟩) hlt).trans c2; replace c3 := (hb.cell (p := ⟨w.heap.size, 3, none⟩) hlt).trans c3; replace c4 := (hb.cell (p := ⟨w.heap.size, 4, none⟩) hlt).trans c4; replace hlt := Nat.lt_of_lt_of_le hlt hb.size; have HSS' := Lib.hid (HSS.out.below hb); have Q' := Lib.hid (below_then Q.out hb); have HP' := Lib.hid (HP.out.below hb); have HK' := Lib.hid (HKW.out.below hb (Nat.le_refl _)); clear HSS Q hb HP HKW; have HSS := HSS'; have Q := Q'; have HP := HP'; have HKW := HK'; clear HSS' Q' HP' HK'))
  all_goals
    go_wp2
    go_ret
    exact ⟨rfl, Q.out⟩
end Go.Proofs.YtaieopdfkapgdaaDoor

-- Books: a line put behind others: impl.copyCall, copyTold, (*page).size, (*page).add.
namespace Go.Proofs.YtaieopdfkapgdaaDoor
open Go.RowKit
set_option linter.unusedSimpArgs false
set_option linter.unusedVariables false

theorem clone4 (av : Value) (xs : List Int) (w : World) (hs : Sl w 1 av (ints xs)) (h4 : xs.length = 4) :
    Calls Tryd.prog 80 #[av] w fun e w' => ∃ g c, e = .returned (.slice (some ⟨g, 0, none⟩) 4 c) ∧ w'.ownsRow w.heap.size 3 1 (.slice (some ⟨g, 0, none⟩) 4 c) 4 (ints xs).flatten ∧ Below w.heap.size w w' := by
  obtain ⟨A, n, c, rfl, hA⟩ := hs
  have hn : n = 4 := by have := hA.len; rw [ints_len] at this; omega
  subst hn
  obtain ⟨b, off, rfl, hb, hc⟩ := row_all (Value.int .i64) (show SlA w 1 A 4 c (xs.map fun x => [Value.int .i64 x]) from hA) (by omega)
  refine (Tryd.slices_Clone_int b off 4 c xs w (by omega) (by omega) (fun j hj => hc j _ (getD_of hj))).mono ?_
  rintro e w' ⟨v', rfl, ho, _, hbw⟩
  obtain ⟨g, cap, rfl, _, _⟩ := ho.form (by omega)
  refine ⟨g, cap, rfl, ?_, hbw⟩
  rw [ints_flat]
  rwa [List.take_of_length_le (by omega)] at ho

set_option maxHeartbeats 1000000 in
theorem copyCall_ok (m : Int) (av : Value) (xs : List Int) (w : World) (hs : Sl w 1 av (ints xs)) (h4 : xs.length = 4) :
    Calls Tryd.prog 73 #[.agg #[.int .i64 m, av]] w fun e w' => ∃ g c, e = .returned (.agg #[.int .i64 m, .slice (some ⟨g, 0, none⟩) 4 c]) ∧ w'.ownsRow w.heap.size 3 1 (.slice (some ⟨g, 0, none⟩) 4 c) 4 (ints xs).flatten ∧ Below w.heap.size w w' := by
  have hs0 := hs
  obtain ⟨A, n, c, rfl, hA⟩ := hs
  have hn : n = 4 := by have := hA.len; rw [ints_len] at this; omega
  subst hn
  clear hA
  obtain ⟨w1, hw1⟩ : ∃ w1, w1 = (w.alloc (.cells #[.int .i64 m, .slice A 4 c] 28)).alloc (.cells #[.int .i64 0, .slice none 0 0] 28) := ⟨_, rfl⟩
  have b1 : Below w.heap.size w w1 := by rw [hw1]; go_grown
  have z1 : w1.heap.size = w.heap.size + 1 + 1 := by rw [hw1]; simp
  have B0 : Blk w1 w.heap.size 28 #[.int .i64 m, .slice A 4 c] := by rw [hw1]; exact (Blk.new _ _ _).alloc _
  have B1 : Blk w1 (w.heap.size + 1) 28 #[.int .i64 0, .slice none 0 0] := by
    rw [hw1]
    have := Blk.new (w.alloc (.cells #[.int .i64 m, .slice A 4 c] 28)) 28 #[.int .i64 0, .slice none 0 0]
    rwa [World.size_alloc] at this
  have c0 := (show _ = some (Value.int .i64 m) from B0.cell 0)
  have c1 := (show _ = some (Value.slice A 4 c) from B0.cell 1)
  have l0 := B0.lt
  have l1 := B1.lt
  have HB1 := Lib.hid B1; have HBL := Lib.hid b1; have HW1 := Lib.hid hw1
  have HS := Lib.hid ((hs0.below b1).below (Below.refl w1.heap.size w1).drew)
  have H4 := Lib.hid h4
  clear B0 B1 b1 hs0 hw1 z1 h4
  go_enter Tryd.func73, Tryd.ntmps73
  go_wp2
  rw [← HW1.out]
  go_region_held3 (fun w' => w'.cell? ⟨w.heap.size, 0, none⟩ = some (.int .i64 m) ∧ w'.cell? ⟨w.heap.size, 1, none⟩ = some (.slice A 4 c))
    (first | exact ⟨c0, c1⟩ | go_keep)
    ((go_at_call 80; refine (clone4 _ xs _ HS.out H4.out).mono ?_; rintro e w2 ⟨g, c2, rfl, ho, hb⟩; replace c0 := (hb.cell (p := ⟨w.heap.size, 0, none⟩) l0).trans c0; replace c1 := (hb.cell (p := ⟨w.heap.size, 1, none⟩) l0).trans c1; have B2 := (show Blk w1.drew _ _ _ from HB1.out).below hb l1; have HO := Lib.hid ho; have HBB := Lib.hid hb; clear ho hb; have d0 := (show _ = some (Value.int .i64 0) from B2.cell 0); have d1 := (show _ = some (Value.slice none 0 0) from B2.cell 1); have f0 := B2.frozen 0; have f1 := B2.frozen 1))
  all_goals
    go_wp2
    have hsz : w.heap.size ≤ w1.heap.size := by omega
    refine bodyPost_ret (v := .agg #[.int .i64 m, .slice (some ⟨g, 0, none⟩) 4 c2]) (by simp [results, Tryd.results73, go_sem, d0, d1]) rfl ⟨g, c2, rfl, own_base (ownsRow_setCell_below (ownsRow_setCell_below HO.out l1 _) l1 _) hsz, ?_⟩
    exact ((HBL.out.trans ((show Below w.heap.size w1 w2 from (Below.refl _ _).drew.trans (HBB.out.mono hsz)))).setCell (by simp) _).setCell (by simp) _

set_option maxHeartbeats 1000000 in
theorem copyTold_ok (t : Tl) (av : Value) (w : World) (hs : Sl w 1 av (ints t.args)) (h4 : t.args.length = 4) :
    Calls Tryd.prog 62 #[.agg #[.int .i64 t.gate, .int .i64 t.epoch, .int .i64 t.num, av, .int .i64 t.verdict]] w fun e w' => ∃ g c, e = .returned (.agg #[.int .i64 t.gate, .int .i64 t.epoch, .int .i64 t.num, .slice (some ⟨g, 0, none⟩) 4 c, .int .i64 t.verdict]) ∧ w'.ownsRow w.heap.size 3 1 (.slice (some ⟨g, 0, none⟩) 4 c) 4 (ints t.args).flatten ∧ Below w.heap.size w w' := by
  obtain ⟨gt, ep, nm, xs, vd⟩ := t
  simp only at hs h4 ⊢
  have hs0 := hs
  obtain ⟨A, n, c, rfl, hA⟩ := hs
  clear hA
  obtain ⟨w1, hw1⟩ : ∃ w1, w1 = (w.alloc (.cells #[.int .i64 gt, .int .i64 ep, .int .i64 nm, .slice A n c, .int .i64 vd] 30)).alloc (.cells #[.int .i64 0, .int .i64 0, .int .i64 0, .slice none 0 0, .int .i64 0] 30) := ⟨_, rfl⟩
  have b1 : Below w.heap.size w w1 := by rw [hw1]; go_grown
  have z1 : w1.heap.size = w.heap.size + 1 + 1 := by rw [hw1]; simp
  have B0 : Blk w1 w.heap.size 30 #[.int .i64 gt, .int .i64 ep, .int .i64 nm, .slice A n c, .int .i64 vd] := by rw [hw1]; exact (Blk.new _ _ _).alloc _
  have B1 : Blk w1 (w.heap.size + 1) 30 #[.int .i64 0, .int .i64 0, .int .i64 0, .slice none 0 0, .int .i64 0] := by
    rw [hw1]
    have := Blk.new (w.alloc (.cells #[.int .i64 gt, .int .i64 ep, .int .i64 nm, .slice A n c, .int .i64 vd] 30)) 30 #[.int .i64 0, .int .i64 0, .int .i64 0, .slice none 0 0, .int .i64 0]
    rwa [World.size_alloc] at this
  have l0 := B0.lt
  have l1 := B1.lt
  have HB0 := Lib.hid B0; have HB1 := Lib.hid B1; have HBL := Lib.hid b1; have HW1 := Lib.hid hw1
  have HS := Lib.hid (hs0.below b1)
  have H4 := Lib.hid h4
  clear B0 B1 b1 hs0 hw1 z1 h4
  go_enter Tryd.func62, Tryd.ntmps62
  go_wp2_with fail
  rw [← HW1.out]
  refine (copyCall_ok nm _ xs _ HS.out H4.out).mono ?_; rintro e w2 ⟨g, c2, rfl, ho, hb⟩
  have B0' := HB0.out.below hb l0
  have B1' := HB1.out.below hb l1
  have c0 := (show _ = some (Value.int .i64 gt) from B0'.cell 0)
  have c1 := (show _ = some (Value.int .i64 ep) from B0'.cell 1)
  have c2' := (show _ = some (Value.int .i64 nm) from B0'.cell 2)
  have c3 := (show _ = some (Value.slice A n c) from B0'.cell 3)
  have c4 := (show _ = some (Value.int .i64 vd) from B0'.cell 4)
  have f2 := B0'.frozen 2
  have f3 := B0'.frozen 3
  have d0 := (show _ = some (Value.int .i64 0) from B1'.cell 0)
  have d1 := (show _ = some (Value.int .i64 0) from B1'.cell 1)
  have d2 := (show _ = some (Value.int .i64 0) from B1'.cell 2)
  have d3 := (show _ = some (Value.slice none 0 0) from B1'.cell 3)
  have d4 := (show _ = some (Value.int .i64 0) from B1'.cell 4)
  have e0 := B1'.frozen 0; have e1 := B1'.frozen 1; have e2 := B1'.frozen 2; have e3 := B1'.frozen 3; have e4 := B1'.frozen 4
  have HO := Lib.hid ho
  have HBB := Lib.hid hb
  clear ho hb B0' B1'
  go_wp2
  have hsz : w.heap.size ≤ w1.heap.size := by omega
  have hbl : Below w.heap.size w w2 := HBL.out.trans (HBB.out.mono hsz)
  refine bodyPost_ret (v := .agg #[.int .i64 gt, .int .i64 ep, .int .i64 nm, .slice (some ⟨g, 0, none⟩) 4 c2, .int .i64 vd]) (by simp [results, Tryd.results62, go_sem, c0, c1, c2', c3, c4, d0, d1, d2, d3, d4]) rfl ⟨g, c2, rfl, own_base (base := w1.heap.size) ?_ hsz, ?_⟩
  · exact (ownsRow_setCell_below (ownsRow_setCell_below (ownsRow_setCell_below (ownsRow_setCell_below (ownsRow_setCell_below (ownsRow_setCell_below (ownsRow_setCell_below HO.out l0 _) l0 _) l1 _) l1 _) l1 _) l1 _) l1 _)
  · exact (((((((hbl.setCell (by simp) _).setCell (by simp) _).setCell (by simp) _).setCell (by simp) _).setCell (by simp) _).setCell (by simp) _).setCell (by simp) _)

/-- A line of a book. -/
structure Ln where
  told : Tl
  sum : List UInt8
/-- The sum that stands last. -/
def lastOf (last : List UInt8) : List Ln → List UInt8
  | [] => last
  | ln :: r => lastOf ln.sum r
/-- Each line is ok, behind another sum. -/
noncomputable def goodL (last : List UInt8) : List Ln → Prop
  | [] => True
  | ln :: r => callOk ln.told.num ln.told.args ∧ ln.sum = lineHash last ln.told ∧ goodL ln.sum r
def bookOk (b : List Ln) : Prop := goodL [] b ∧ b.length ≤ 40
noncomputable def bookOkB (b : List Ln) : Bool := @decide (bookOk b) (Classical.propDecidable _)
theorem bookOkB_iff {b : List Ln} : bookOkB b = true ↔ bookOk b := by simp [bookOkB]
theorem bookOkB_of {b : List Ln} {x : Bool} (h : x = true ↔ bookOk b) : x = bookOkB b := by rw [Bool.eq_iff_iff, h, bookOkB_iff]
theorem lastOf_append (last : List UInt8) : ∀ (a b : List Ln), lastOf last (a ++ b) = lastOf (lastOf last a) b
  | [], b => rfl
  | x :: a, b => lastOf_append x.sum a b
theorem goodL_append : ∀ (last : List UInt8) (a b : List Ln), goodL last (a ++ b) ↔ goodL last a ∧ goodL (lastOf last a) b
  | last, [], b => by simp [goodL, lastOf]
  | last, x :: a, b => by
    have ih := goodL_append x.sum a b
    simp only [List.cons_append, goodL, lastOf, ih]
    constructor
    · rintro ⟨h1, h2, h3, h4⟩; exact ⟨⟨h1, h2, h3⟩, h4⟩
    · rintro ⟨⟨h1, h2, h3⟩, h4⟩; exact ⟨h1, h2, h3, h4⟩
theorem goodL_take {last : List UInt8} {b : List Ln} (h : goodL last b) (k : Nat) : goodL last (b.take k) := by
  have := (goodL_append last (b.take k) (b.drop k)).1 (by rwa [List.take_append_drop])
  exact this.1
theorem goodL_next {last : List UInt8} {b : List Ln} {k : Nat} {ln : Ln} (h : b[k]? = some ln) : goodL last (b.take (k + 1)) ↔ goodL last (b.take k) ∧ callOk ln.told.num ln.told.args ∧ ln.sum = lineHash (lastOf last (b.take k)) ln.told := by
  rw [List.take_add_one, h, goodL_append]
  simp [goodL]
theorem lastOf_next {last : List UInt8} {b : List Ln} {k : Nat} {ln : Ln} (h : b[k]? = some ln) : lastOf last (b.take (k + 1)) = ln.sum := by
  rw [List.take_add_one, h, lastOf_append]
  simp [lastOf]
theorem goodL_last : ∀ (last : List UInt8) (b : List Ln), last.length ≤ 64 → goodL last b → (lastOf last b).length ≤ 64
  | last, [], h, _ => h
  | last, x :: b, h, hg => goodL_last x.sum b (by rw [hg.2.1, lineHash_len]; omega) hg.2.2

/-- The pages of a book, the youngest first; each lies behind the older ones. -/
inductive Pages (w : World) (lo : Nat) : Nat → List Ln → Value → Prop
  | nil (hi : Nat) (h : lo ≤ hi) : Pages w lo hi [] (.pointer none)
  | cons {q hi p g c : Nat} {lns : List Ln} {ov : Value} {ln : Ln} (h : Pages w lo q lns ov) (ho : w.ownsRow q 3 1 (.slice (some ⟨g, 0, none⟩) 4 c) 4 (ints ln.told.args).flatten) (hg : g < p) (hp : p < hi)
      (hb : Blk w p 74 #[.int .i64 ln.told.gate, .int .i64 ln.told.epoch, .int .i64 ln.told.num, .slice (some ⟨g, 0, none⟩) 4 c, .int .i64 ln.told.verdict, .string ⟨ln.sum.toArray⟩, .int .i64 ((lns.length + 1 : Nat) : Int), ov]) :
      Pages w lo hi (ln :: lns) (.pointer (some ⟨p, 0, none⟩))
theorem Pages.le {w : World} {lo hi : Nat} {lns : List Ln} {v : Value} (h : Pages w lo hi lns v) : lo ≤ hi := by
  induction h with
  | nil hi h => exact h
  | cons h ho hg hp hb ih => have := (ho.form (by omega)); obtain ⟨g', c', e, h1, _⟩ := this; injection e with e; injection e with e; injection e with e; omega
theorem Pages.kept {w w' : World} {lo hi : Nat} {lns : List Ln} {v : Value} (h : Pages w lo hi lns v) (hb : Below w.heap.size w w') : Pages w' lo hi lns v := by
  induction h with
  | nil hi h => exact .nil hi h
  | cons h ho hg hp hbk ih => exact .cons ih (own_below ho hb) hg hp (hbk.below hb hbk.lt)
theorem Pages.up {w : World} {lo hi hi' : Nat} {lns : List Ln} {v : Value} (h : Pages w lo hi lns v) (hh : hi ≤ hi') : Pages w lo hi' lns v := by
  cases h with
  | nil _ h => exact .nil hi' (Nat.le_trans h hh)
  | cons h ho hg hp hbk => exact .cons h ho hg (Nat.lt_of_lt_of_le hp hh) hbk
def lastSum (lns : List Ln) : List UInt8 := match lns with
  | [] => []
  | ln :: _ => ln.sum

theorem size_any (lo hi : Nat) (lns : List Ln) (v : Value) (w : World) (h : Pages w lo hi lns v) :
    Calls Tryd.prog 60 #[v] w fun e w' => e = .returned (.int .i64 ((lns.length : Nat) : Int)) ∧ w = w' := by
  cases h with
  | nil _ h =>
    go_enter Tryd.func60, Tryd.ntmps60
    go_wp2
    go_ret
    exact ⟨rfl, rfl⟩
  | @cons q _ p g c lns ov ln h ho hg hp hb =>
    have c6 := (show _ = some (Value.int .i64 ((lns.length + 1 : Nat) : Int)) from hb.cell 6)
    go_enter Tryd.func60, Tryd.ntmps60
    go_wp2
    go_ret
    exact ⟨rfl, rfl⟩
theorem lineSum_any (lo hi : Nat) (lns : List Ln) (v : Value) (t : Tl) (av : Value) (w : World) (hpw : Pow w) (hk : Kww w) (h : Pages w lo hi lns v) (ht : t.ok) (hs : Sl w 1 av (ints t.args)) (hl : (lastSum lns).length ≤ 1048576) :
    Calls Tryd.prog 63 #[v, .agg #[.int .i64 t.gate, .int .i64 t.epoch, .int .i64 t.num, av, .int .i64 t.verdict]] w fun e w' => e = .returned (.string ⟨(lineHash (lastSum lns) t).toArray⟩) ∧ Below w.heap.size w w' := by
  cases h with
  | nil _ h => exact lineSum_none t av w hpw hk ht hs
  | @cons q _ p g c lns ov ln h ho hg hp hb => exact lineSum_some p ln.told _ ln.sum _ _ t av w hpw hk hb ht hs hl
end Go.Proofs.YtaieopdfkapgdaaDoor

-- The program's books: (*page).add, openBook, BookOk.
namespace Go.Proofs.YtaieopdfkapgdaaDoor
open Go.RowKit
set_option linter.unusedSimpArgs false
set_option linter.unusedVariables false

def tldV (t : Tl) (av : Value) : Value := .agg #[.int .i64 t.gate, .int .i64 t.epoch, .int .i64 t.num, av, .int .i64 t.verdict]

set_option maxRecDepth 100000 in
set_option maxHeartbeats 2000000 in
theorem add_no (lo hi : Nat) (lns : List Ln) (v : Value) (t : Tl) (av : Value) (w : World) (h : Pages w lo hi lns v) (hs : Sl w 1 av (ints t.args)) (hl : lns.length ≤ 40) (hn : ¬ (lns.length < 40 ∧ callOk t.num t.args)) :
    Calls Tryd.prog 42 #[v, .agg #[.int .i64 t.gate, .int .i64 t.epoch, .int .i64 t.num, av, .int .i64 t.verdict]] w fun e w' => e = .returned (.tuple #[v, .bool false]) ∧ Below w.heap.size w w' := by
  have hs0 := hs
  obtain ⟨A, n, c, rfl, hA⟩ := hs
  clear hA
  obtain ⟨w1, hw1⟩ : ∃ w1, w1 = w.alloc (.cells #[.int .i64 t.gate, .int .i64 t.epoch, .int .i64 t.num, .slice A n c, .int .i64 t.verdict] 30) := ⟨_, rfl⟩
  have b1 : Below w.heap.size w w1 := by rw [hw1]; go_grown
  have B1 : Blk w1 w.heap.size 30 #[.int .i64 t.gate, .int .i64 t.epoch, .int .i64 t.num, .slice A n c, .int .i64 t.verdict] := by rw [hw1]; exact Blk.new _ _ _
  have hv : ∃ pv, v = .pointer pv := by cases h <;> exact ⟨_, rfl⟩
  obtain ⟨pv, rfl⟩ := hv
  have HW1 := Lib.hid hw1; have HBL := Lib.hid b1
  have HP := Lib.hid (h.kept b1)
  have HS := Lib.hid (hs0.below b1)
  by_cases h40 : lns.length < 40
  · have hco : callOkB t.num t.args = false := by rw [← Bool.not_eq_true, callOkB_iff]; exact fun h => hn ⟨h40, h⟩
    have c2 := (show (w.alloc (.cells #[.int .i64 t.gate, .int .i64 t.epoch, .int .i64 t.num, .slice A n c, .int .i64 t.verdict] 30)).cell? _ = some (Value.int .i64 t.num) from by rw [← hw1]; exact B1.cell 2)
    have hq : (decide (40 ≤ ((lns.length : Nat) : Int))) = false := by simp; omega
    have HQ : ¬ (40 : Int) ≤ (lns.length : Nat) := by omega
    clear h hs0 hw1 b1 B1 c2
    go_enter Tryd.func42, Tryd.ntmps42
    go_wp2_with fail
    rw [← HW1.out]
    refine (size_any lo hi lns _ _ HP.out).mono ?_; rintro e w2 ⟨rfl, rfl⟩
    rw [HW1.out]
    go_wp2_with fail
    rw [← HW1.out]
    refine (CallOk_any t.num _ t.args _ HS.out).mono ?_; rintro e w3 ⟨rfl, b3⟩
    rw [hco]
    go_wp2
    go_ret2
    exact ⟨rfl, HBL.out.trans (b3.mono HBL.out.size)⟩
  · have hq : (decide (40 ≤ ((lns.length : Nat) : Int))) = true := by simp; omega
    have HQ : (40 : Int) ≤ (lns.length : Nat) := by omega
    clear h hs0 hw1 b1 B1
    go_enter Tryd.func42, Tryd.ntmps42
    go_wp2_with fail
    rw [← HW1.out]
    refine (size_any lo hi lns _ _ HP.out).mono ?_; rintro e w2 ⟨rfl, rfl⟩
    go_wp2
    go_ret2
    exact ⟨rfl, HBL.out⟩

/-- What putting a line behind others leaves. -/
def AddPost (lo : Nat) (lns : List Ln) (t : Tl) (w : World) (e : Ending) (w' : World) : Prop :=
  ∃ p, e = .returned (.tuple #[.pointer (some ⟨p, 0, none⟩), .bool true]) ∧ Pages w' lo w'.heap.size (⟨t, lineHash (lastSum lns) t⟩ :: lns) (.pointer (some ⟨p, 0, none⟩)) ∧ Below w.heap.size w w'

set_option maxRecDepth 100000 in
set_option maxHeartbeats 2000000 in
theorem add_yes (lo hi : Nat) (lns : List Ln) (v : Value) (t : Tl) (av : Value) (w : World) (hpw : Pow w) (hkw : Kww w) (h : Pages w lo hi lns v) (hhi : hi ≤ w.heap.size) (ht : t.ok) (hs : Sl w 1 av (ints t.args)) (hls : (lastSum lns).length ≤ 64) (h40 : lns.length < 40) (hok : callOk t.num t.args) :
    Calls Tryd.prog 42 #[v, .agg #[.int .i64 t.gate, .int .i64 t.epoch, .int .i64 t.num, av, .int .i64 t.verdict]] w (AddPost lo lns t w) := by
  have hs0 := hs
  obtain ⟨A, n, c, rfl, hA⟩ := hs
  clear hA
  obtain ⟨w1, hw1⟩ : ∃ w1, w1 = w.alloc (.cells #[.int .i64 t.gate, .int .i64 t.epoch, .int .i64 t.num, .slice A n c, .int .i64 t.verdict] 30) := ⟨_, rfl⟩
  have b1 : Below w.heap.size w w1 := by rw [hw1]; go_grown
  have B1 : Blk w1 w.heap.size 30 #[.int .i64 t.gate, .int .i64 t.epoch, .int .i64 t.num, .slice A n c, .int .i64 t.verdict] := by rw [hw1]; exact Blk.new _ _ _
  have hv : ∃ pv, v = .pointer pv := by cases h <;> exact ⟨_, rfl⟩
  obtain ⟨pv, rfl⟩ := hv
  have HW1 := Lib.hid hw1; have HBL := Lib.hid b1
  have HP := Lib.hid (h.kept b1)
  have HS := Lib.hid (hs0.below b1)
  have hco : callOkB t.num t.args = true := callOkB_iff.2 hok
  have c2 := (show (w.alloc (.cells #[.int .i64 t.gate, .int .i64 t.epoch, .int .i64 t.num, .slice A n c, .int .i64 t.verdict] 30)).cell? _ = some (Value.int .i64 t.num) from by rw [← hw1]; exact B1.cell 2)
  have hq : (decide (40 ≤ ((lns.length : Nat) : Int))) = false := by simp; omega
  have HQ : ¬ (40 : Int) ≤ (lns.length : Nat) := by omega
  have HK1 := Lib.hid (hkw.below b1 (Nat.le_refl _)); have HPW := Lib.hid (hpw.below b1)
  have HB1 := Lib.hid B1; have HT := Lib.hid ht; have HLS := Lib.hid hls; have H4 := Lib.hid hok.2.1
  have HHI := Lib.hid hhi
  have hlt := B1.lt
  clear h hs0 hw1 b1 B1 c2 hpw hkw ht hls hok hhi
  go_enter Tryd.func42, Tryd.ntmps42
  go_wp2_with fail
  rw [← HW1.out]
  refine (size_any lo hi lns _ _ HP.out).mono ?_; rintro e w2 ⟨rfl, rfl⟩
  rw [HW1.out]
  go_wp2_with fail
  rw [← HW1.out]
  refine (CallOk_any t.num _ t.args _ HS.out).mono ?_; rintro e w3 ⟨rfl, b3⟩
  rw [hco]
  have B3 := HB1.out.below b3 hlt
  have c0 := (show _ = some (Value.int .i64 t.gate) from B3.cell 0)
  have c1 := (show _ = some (Value.int .i64 t.epoch) from B3.cell 1)
  have c2 := (show _ = some (Value.int .i64 t.num) from B3.cell 2)
  have c3 := (show _ = some (Value.slice A n c) from B3.cell 3)
  have c4 := (show _ = some (Value.int .i64 t.verdict) from B3.cell 4)
  have h3 : Below w.heap.size w w3 := HBL.out.trans (b3.mono HBL.out.size)
  have HP3 := Lib.hid ((HP.out.kept b3).kept (Below.refl w3.heap.size w3).drew)
  have HS3 := Lib.hid ((HS.out.below b3).below (Below.refl w3.heap.size w3).drew)
  have HK3 := Lib.hid ((HK1.out.below b3 (Nat.le_refl _)).below (Below.refl w3.heap.size w3).drew (Nat.le_refl _))
  have HPW3 := Lib.hid ((HPW.out.below b3).below (Below.refl w3.heap.size w3).drew)
  have Q := Lib.hid h3.drew
  have hlt3 : w.heap.size < w3.heap.size := B3.lt
  clear b3 B3 h3 hco hq HP HS HK1 HPW HB1 HBL hlt
  go_wp2
  have wq : IntKind.i64.wrap ((lns.length : Int) + 1) = lns.length + 1 := IntWalk.i64_in _ (by omega)
  go_region_held3 (fun w' => w'.cell? ⟨w.heap.size, 0, none⟩ = some (.int .i64 t.gate) ∧ w'.cell? ⟨w.heap.size, 1, none⟩ = some (.int .i64 t.epoch) ∧ w'.cell? ⟨w.heap.size, 2, none⟩ = some (.int .i64 t.num) ∧ w'.cell? ⟨w.heap.size, 3, none⟩ = some (.slice A n c) ∧ w'.cell? ⟨w.heap.size, 4, none⟩ = some (.int .i64 t.verdict))
    (first | exact ⟨c0, c1, c2, c3, c4⟩ | go_keep)
    (first
      | (go_at_call 62; refine (copyTold_ok t _ _ HS3.out H4.out).mono ?_; rintro e w4 ⟨g, c5, rfl, ho, hb⟩; replace c0 := (hb.cell (p := ⟨w.heap.size, 0, none⟩) hlt3).trans c0; replace c1 := (hb.cell (p := ⟨w.heap.size, 1, none⟩) hlt3).trans c1; replace c2 := (hb.cell (p := ⟨w.heap.size, 2, none⟩) hlt3).trans c2; replace c3 := (hb.cell (p := ⟨w.heap.size, 3, none⟩) hlt3).trans c3; replace c4 := (hb.cell (p := ⟨w.heap.size, 4, none⟩) hlt3).trans c4; replace hlt3 := Nat.lt_of_lt_of_le hlt3 hb.size; have HO4 := Lib.hid ho; have HP4 := Lib.hid (HP3.out.kept hb); have HK4 := Lib.hid (HK3.out.below hb (Nat.le_refl _)); have HPW4 := Lib.hid (HPW3.out.below hb); have HS4 := Lib.hid (HS3.out.below hb); have Q4 := Lib.hid (below_then Q.out hb); have HB4 := Lib.hid hb; clear ho hb)
      | (go_at_call 63; refine (lineSum_any lo hi lns _ t _ _ HPW4.out HK4.out HP4.out HT.out HS4.out (by have := HLS.out; omega)).mono ?_; rintro e w5 ⟨rfl, hb⟩; replace c0 := (hb.cell (p := ⟨w.heap.size, 0, none⟩) hlt3).trans c0; replace c1 := (hb.cell (p := ⟨w.heap.size, 1, none⟩) hlt3).trans c1; replace c2 := (hb.cell (p := ⟨w.heap.size, 2, none⟩) hlt3).trans c2; replace c3 := (hb.cell (p := ⟨w.heap.size, 3, none⟩) hlt3).trans c3; replace c4 := (hb.cell (p := ⟨w.heap.size, 4, none⟩) hlt3).trans c4; replace hlt3 := Nat.lt_of_lt_of_le hlt3 hb.size; have HO5 := Lib.hid (own_below HO4.out hb); have HP5 := Lib.hid (HP4.out.kept hb); have Q5 := Lib.hid (below_then Q4.out hb); have HB5 := Lib.hid hb; clear hb)
      | (go_at_call 60; refine (size_any lo hi lns _ _ HP5.out).mono ?_; rintro e w6 ⟨rfl, rfl⟩))
  all_goals
    go_wp2
    go_ret2
    have hg5 : g < w5.heap.size := by
      obtain ⟨g', c', e, _, hl⟩ := HO5.out.form (by omega)
      injection e with e _ _
      injection e with e
      injection e with e _ _
      subst e
      exact hl
    have hh : hi ≤ w3.heap.size := Nat.le_trans HHI.out Q.out.size
    have ho : w5.ownsRow hi 3 1 (.slice (some ⟨g, 0, none⟩) 4 c5) 4 (ints t.args).flatten := own_base HO5.out hh
    have hal : ∀ o, Below w5.heap.size w5 (w5.alloc o) := fun o => (Below.refl _ _).alloc (Nat.le_refl _) o
    refine ⟨w5.heap.size, rfl, Pages.cons (q := hi) (g := g) (c := c5) (ln := ⟨t, lineHash (lastSum lns) t⟩) (HP5.out.kept (hal _)) (ho.alloc _) hg5 (by simp) (Blk.new w5 _ _), Q5.out.trans ((hal _).mono Q5.out.size)⟩

theorem Pages.ptr {w : World} {lo hi : Nat} {lns : List Ln} {v : Value} (h : Pages w lo hi lns v) : ∃ pp, v = .pointer pp := by
  cases h <;> exact ⟨_, rfl⟩
/-- The sum of the youngest page. -/
theorem Pages.sum5 {w : World} {lo hi p : Nat} {ln : Ln} {lns : List Ln} (h : Pages w lo hi (ln :: lns) (.pointer (some ⟨p, 0, none⟩))) : w.cell? ⟨p, 5, none⟩ = some (.string ⟨ln.sum.toArray⟩) := by
  cases h with
  | cons h ho hg hp hb => exact hb.cell 5
/-- A book that is read. -/
def LnIs (w : World) (ln : Ln) (cs : List Value) : Prop := ∃ av, cs = [.int .i64 ln.told.gate, .int .i64 ln.told.epoch, .int .i64 ln.told.num, av, .int .i64 ln.told.verdict, .string ⟨ln.sum.toArray⟩] ∧ Sl w 1 av (ints ln.told.args) ∧ ln.told.ok
def BookIs (w : World) (v : Value) (b : List Ln) : Prop := ∃ A n c css, v = .slice A n c ∧ SlA w 6 A n c css ∧ css.length = b.length ∧ ∀ (i : Nat) (ln : Ln) (cs : List Value), b[i]? = some ln → css[i]? = some cs → LnIs w ln cs
theorem LnIs.below {w w' : World} {ln : Ln} {cs : List Value} (h : LnIs w ln cs) (hb : Below w.heap.size w w') : LnIs w' ln cs := by
  obtain ⟨av, e, hs, ho⟩ := h; exact ⟨av, e, hs.below hb, ho⟩
theorem BookIs.below {w w' : World} {v : Value} {b : List Ln} (h : BookIs w v b) (hb : Below w.heap.size w w') : BookIs w' v b := by
  obtain ⟨A, n, c, css, e, hs, hl, hi⟩ := h
  exact ⟨A, n, c, css, e, hs.below hb, hl, fun i ln cs h1 h2 => (hi i ln cs h1 h2).below hb⟩
/-- A line of a book that is read. -/
theorem book_get {w : World} {A : Option Addr} {n c k : Nat} {css : List (List Value)} {b : List Ln} (hA : SlA w 6 A n c css) (hl : css.length = b.length) (hi : ∀ (i : Nat) (ln : Ln) (cs : List Value), b[i]? = some ln → css[i]? = some cs → LnIs w ln cs) (hk : k < n) :
    ∃ g off ln av, A = some ⟨g, off, none⟩ ∧ g < w.heap.size ∧ b[k]? = some ln ∧ Sl w 1 av (ints ln.told.args) ∧ ln.told.ok ∧
      w.cell? ⟨g, off + k * 6, none⟩ = some (.int .i64 ln.told.gate) ∧ w.cell? ⟨g, off + k * 6 + 1, none⟩ = some (.int .i64 ln.told.epoch) ∧ w.cell? ⟨g, off + k * 6 + 2, none⟩ = some (.int .i64 ln.told.num) ∧
      w.cell? ⟨g, off + k * 6 + 3, none⟩ = some av ∧ w.cell? ⟨g, off + k * 6 + 4, none⟩ = some (.int .i64 ln.told.verdict) ∧ w.cell? ⟨g, off + k * 6 + 5, none⟩ = some (.string ⟨ln.sum.toArray⟩) := by
  obtain ⟨g, off, e, hg, hc⟩ := hA.get hk
  have hn := hA.len
  have h1 : b[k]? = some (b[k]'(by omega)) := List.getElem?_eq_getElem (by omega)
  have h2 : css[k]? = some (css[k]'(by omega)) := List.getElem?_eq_getElem (by omega)
  obtain ⟨av, ec, hs, ho⟩ := hi k _ _ h1 h2
  have hcell := hc _ h2
  rw [ec] at hcell
  exact ⟨g, off, _, av, e, hg, h1, hs, ho, by simpa using hcell 0 _ rfl, hcell 1 _ rfl, hcell 2 _ rfl, hcell 3 _ rfl, hcell 4 _ rfl, hcell 5 _ rfl⟩

/-- What opening a book gives: all its pages, or none. -/
def OpenPost (lo : Nat) (b : List Ln) (w : World) (e : Ending) (w' : World) : Prop :=
  Below w.heap.size w w' ∧ ((bookOk b ∧ ∃ v, e = .returned (.tuple #[v, .bool true]) ∧ Pages w' lo w'.heap.size b.reverse v) ∨ (¬ bookOk b ∧ e = .returned (.tuple #[.pointer none, .bool false])))

theorem lastSum_rev : ∀ (b : List Ln), lastSum b.reverse = lastOf [] b := by
  intro b
  rcases List.eq_nil_or_concat b with rfl | ⟨a, x, rfl⟩
  · rfl
  · rw [List.concat_eq_append, List.reverse_append, lastOf_append]; rfl

set_option maxRecDepth 100000 in
set_option maxHeartbeats 4000000 in
theorem openBook_any (v : Value) (b : List Ln) (w : World) (hpw : Pow w) (hkw : Kww w) (hb : BookIs w v b) :
    Calls Tryd.prog 30 #[v] w (OpenPost w.heap.size b w) := by
  obtain ⟨A, n, c, css, rfl, hA, hcl, hli⟩ := hb
  have hn : b.length = n := by have := hA.len; omega
  have hcp := hA.cap
  have hmx := hA.max
  unfold maxLen at hmx
  have HA := Lib.hid hA; have HLI := Lib.hid hli; have HCL := Lib.hid hcl; have HN := Lib.hid hn
  have HPW := Lib.hid hpw; have HKW := Lib.hid hkw
  clear hA hli hcl hn hpw hkw
  go_enter Tryd.func30, Tryd.ntmps30
  go_wp2
  go_loopw [4, 11] (fun pv i wr => ∃ k : Nat, k ≤ n ∧ i = .int .i64 k ∧ Hid (goodL [] (b.take k) ∧ k ≤ 40) ∧ Hid (Pages wr w.heap.size wr.heap.size (b.take k).reverse pv) ∧ Below w.heap.size w wr) (fun _ i _ => n - (intOf i).toNat)
  case atStart => exact ⟨0, by omega, rfl, Lib.hid ⟨trivial, by omega⟩, Lib.hid (Pages.nil _ (Nat.le_refl _)), Below.refl _ _⟩
  case round =>
    obtain ⟨k, hk, rfl, HG, HP, hb⟩ := hrel
    by_cases hlt : k < n
    · obtain ⟨g, off, ln, av, rfl, hg, hbk, hs, hok, x0, x1, x2, x3, x4, x5⟩ := book_get HA.out HCL.out HLI.out hlt
      have y0 := (hb.cell (p := ⟨g, off + k * 6, none⟩) hg).trans x0
      have y1 := (hb.cell (p := ⟨g, off + k * 6 + 1, none⟩) hg).trans x1
      have y2 := (hb.cell (p := ⟨g, off + k * 6 + 2, none⟩) hg).trans x2
      have y3 := (hb.cell (p := ⟨g, off + k * 6 + 3, none⟩) hg).trans x3
      have y4 := (hb.cell (p := ⟨g, off + k * 6 + 4, none⟩) hg).trans x4
      have y5 := (hb.cell (p := ⟨g, off + k * 6 + 5, none⟩) hg).trans x5
      obtain ⟨⟨gt, ep, nm, xs, vd⟩, sm⟩ := ln
      simp only at y0 y1 y2 y3 y4 y5 hs hok
      have HBK := Lib.hid hbk
      have HS := Lib.hid (hs.below hb)
      have HOK := Lib.hid hok
      have hav : ∃ A2 n2 c2, av = .slice A2 n2 c2 := by obtain ⟨A2, n2, c2, e, _⟩ := hs; exact ⟨A2, n2, c2, e⟩
      obtain ⟨A2, n2, c2, rfl⟩ := hav
      have kn : (k : Int) < n := by omega
      have HLT := Lib.hid hlt
      obtain ⟨pp, rfl⟩ := HP.out.ptr
      clear x0 x1 x2 x3 x4 x5 hbk hs hok hlt hk
      obtain ⟨lb, hlb⟩ : ∃ l, l = wr.heap.size := ⟨_, rfl⟩
      obtain ⟨W1, hW1⟩ : ∃ W1, W1 = wr.alloc (.cells #[.int .i64 gt, .int .i64 ep, .int .i64 nm, .slice A2 n2 c2, .int .i64 vd, .string ⟨sm.toArray⟩] 32) := ⟨_, rfl⟩
      have hB1 : Hid (Blk W1 lb 32 #[.int .i64 gt, .int .i64 ep, .int .i64 nm, .slice A2 n2 c2, .int .i64 vd, .string ⟨sm.toArray⟩]) := by rw [hW1, hlb]; exact Blk.new _ _ _
      have bW : Below wr.heap.size wr W1 := by rw [hW1]; go_grown
      have b0W : Below w.heap.size w W1 := hb.trans (bW.mono hb.size)
      have HW1 := Lib.hid hW1; have HLB := Lib.hid hlb
      have HS1 := Lib.hid (HS.out.below bW)
      have HP1 := Lib.hid (HP.out.kept bW)
      have hbsz := bW.size
      have HPW1 := Lib.hid (HPW.out.below b0W); have HKW1 := Lib.hid (HKW.out.below b0W (Nat.le_refl _))
      have HL64 := Lib.hid (show (lastSum (b.take k).reverse).length ≤ 64 by rw [lastSum_rev]; exact goodL_last [] _ (by simp) HG.out.1)
      have HRL := Lib.hid (show (b.take k).reverse.length = k by rw [List.length_reverse, List.length_take]; have := HN.out; have := HLT.out; omega)
      have B0W := Lib.hid b0W; have BW := Lib.hid bW
      have hlbl := hB1.out.lt
      clear hW1 hlb b0W bW
      by_cases hyes : k < 40 ∧ callOk nm xs
      · have HY := Lib.hid hyes
        clear hyes
        go_wp2_with fail
        rw [← HW1.out]
        refine (add_yes w.heap.size wr.heap.size (b.take k).reverse _ ⟨gt, ep, nm, xs, vd⟩ _ W1 HPW1.out HKW1.out HP1.out hbsz HOK.out HS1.out HL64.out (by have := HRL.out; have := HY.out.1; omega) HY.out.2).mono ?_; rintro e w5 ⟨p, rfl, hp5, hb5⟩
        have c5 := hp5.sum5
        have d5 := (show _ = some (Value.string ⟨sm.toArray⟩) from (hB1.out.below hb5 hlbl).cell 5)
        rw [HLB.out] at d5
        obtain ⟨H, hH⟩ : ∃ H, H = lineHash (lastSum (b.take k).reverse) ⟨gt, ep, nm, xs, vd⟩ := ⟨_, rfl⟩
        rw [← hH] at hp5
        simp only at c5
        rw [← hH] at c5
        have HP5 := Lib.hid hp5
        have hb05 : Below w.heap.size w w5 := B0W.out.trans (hb5.mono B0W.out.size)
        have hG5 := @goodL_next [] b k ⟨⟨gt, ep, nm, xs, vd⟩, sm⟩ HBK.out
        rw [← lastSum_rev] at hG5
        simp only at hG5
        rw [← hH] at hG5
        have HG5 := Lib.hid hG5
        have HB5 := Lib.hid hb5
        clear hp5 hH hG5 hb5
        by_cases heq : sm = H
        · have e1 : (H != sm) = false := by rw [heq]; simp
          have e2 : (H == sm) = true := by rw [heq]; simp
          have HEQ := Lib.hid heq
          clear heq
          go_wp2
          go_quiet ((fail))
          go_wp2
          have hlt := HLT.out
          refine ⟨⟨k + 1, by omega, by go_num, Lib.hid ⟨HG5.out.2 ⟨HG.out.1, HY.out.2, HEQ.out⟩, by have := HY.out.1; omega⟩, Lib.hid ?_, below_drewN hb05 _⟩, by simp [intOf]; omega⟩
          have e3 : (b.take (k + 1)).reverse = ⟨⟨gt, ep, nm, xs, vd⟩, sm⟩ :: (b.take k).reverse := by rw [List.take_add_one, HBK.out]; simp
          rw [e3, HEQ.out]
          exact HP5.out.kept (below_drewN (Below.refl _ _) _)
        · have e1 : (H != sm) = true := by simpa using fun h => heq h.symm
          have e2 : (H == sm) = false := by simpa using fun h => heq h.symm
          have HEQ := Lib.hid heq
          clear heq
          go_wp2
          go_quiet ((fail))
          go_wp2
          go_ret2
          exact ⟨below_drewN hb05 _, .inr ⟨fun h => HEQ.out (HG5.out.1 (goodL_take h.1 (k + 1))).2.2, rfl⟩⟩
      · have HY := Lib.hid hyes
        clear hyes
        go_wp2_with fail
        rw [← HW1.out]
        refine (add_no w.heap.size wr.heap.size (b.take k).reverse _ ⟨gt, ep, nm, xs, vd⟩ _ W1 HP1.out HS1.out (by have := HRL.out; have := HG.out.2; omega) (by rw [HRL.out]; exact HY.out)).mono ?_; rintro e w5 ⟨rfl, hb5⟩
        have hb05 : Below w.heap.size w w5 := B0W.out.trans (hb5.mono B0W.out.size)
        go_wp2
        go_quiet ((fail))
        go_wp2
        go_ret2
        refine ⟨below_drewN hb05 _, .inr ⟨fun h => HY.out ?_, rfl⟩⟩
        have h1 := (goodL_next HBK.out).1 (goodL_take h.1 (k + 1))
        refine ⟨?_, h1.2.1⟩
        have := h.2; have := HN.out; have := HLT.out
        omega
    · obtain rfl : k = n := by omega
      have hall : b.take k = b := List.take_of_length_le (by rw [HN.out]; exact Nat.le_refl _)
      rw [hall] at HG HP
      have HLN := Lib.hid (show b.length = k from HN.out)
      clear hall hk hlt
      go_wp2
      go_ret2
      exact ⟨hb, .inl ⟨⟨HG.out.1, by rw [HLN.out]; exact HG.out.2⟩, _, rfl, HP.out⟩⟩

theorem BookOk_any (v : Value) (b : List Ln) (w : World) (hpw : Pow w) (hkw : Kww w) (hb : BookIs w v b) :
    Calls Tryd.prog 9 #[v] w fun e w' => e = .returned (.bool (bookOkB b)) ∧ Below w.heap.size w w' := by
  have hb0 := hb
  obtain ⟨A, n, c, css, rfl, -⟩ := hb
  go_enter Tryd.func9, Tryd.ntmps9
  go_wp2_with fail
  refine (openBook_any _ b _ hpw hkw hb0).mono ?_; rintro e w1 ⟨hbl, ⟨hok, v1, rfl, hp⟩ | ⟨hno, rfl⟩⟩
  · have hx := Lib.hid (bookOkB_iff.2 hok)
    obtain ⟨pp, rfl⟩ := hp.ptr
    clear hp hok hb0
    go_wp2
    go_ret
    exact ⟨ret_bool hx.out.symm, hbl⟩
  · have hx := Lib.hid (show bookOkB b = false by rw [← Bool.not_eq_true, bookOkB_iff]; exact hno)
    clear hno hb0
    go_wp2
    go_ret
    exact ⟨ret_bool hx.out.symm, hbl⟩
end Go.Proofs.YtaieopdfkapgdaaDoor
