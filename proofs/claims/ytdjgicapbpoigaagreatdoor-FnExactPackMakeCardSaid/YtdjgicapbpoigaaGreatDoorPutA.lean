/- Joined texts: PutU PutV PutW PutX. -/
import Derived.Test.YtdjgicapbpoigaaGreatDoorGmX
import Derived.Test.YtdjgicapbpoigaaGreatDoorGmT
import Derived.Deep.LoopGhost
namespace Go.Proofs.YtdjgicapbpoigaaGreatDoor
open Go.RowKit Go.Maps
set_option linter.unusedSimpArgs false
set_option linter.unusedVariables false

theorem lookNew_any (f m o v yes no : Int) (w : World) :
   Calls Tryz.prog 122 #[.int .i64 f, .int .i64 m, .int .i64 o, .int .i64 v, .slice (some ⟨w.heap.size, 0, none⟩) 2 2] (w.alloc (.cells #[.int .i64 yes, .int .i64 no] 3)) fun e w' => e = .returned (.agg #[.int .i64 0, .int .i64 f, .int .i64 m, .int .i64 o, .int .i64 v, .int .i64 yes, .int .i64 no]) ∧ Below w.heap.size w w' := by
 obtain ⟨q0, q1, q2, q3⟩ := two_cells w yes no
 refine (lookOf_any f m o v yes no w.heap.size _ q0 q1 q2).mono ?_
 rintro e w1 ⟨rfl, hb⟩
 exact ⟨rfl, below_then q3 hb⟩

def SmallG (g : List Pt) : Prop := ∀ (i : Nat) (p : Pt), g[i]? = some p → Small p
theorem SmallG.nil : SmallG [] := fun i p h => by simp at h
theorem SmallG.put {g g' : List Pt} {x : Pt} {i : Nat} (h : SmallG g) (hp : PutIs g x g' i) (hx : Small x) : SmallG g' := by
 rcases hp with ⟨rfl, -, -⟩ | ⟨rfl, rfl, -⟩
 · exact h
 · intro j p hj
   by_cases hl : j < g.length
   · rw [List.getElem?_append_left hl] at hj; exact h j p hj
   · rw [List.getElem?_append_right (by omega)] at hj
     by_cases h0 : j - g.length = 0
     · rw [h0] at hj; cases hj; exact hx
     · rw [List.getElem?_eq_none (by simp; omega)] at hj; cases hj
theorem SmallG.look {g g' : List Pt} {f m o v : Int} {y n i : Nat} (h : SmallG g) (hl : LookIs g f m o v y n g' i) (hx : Small ⟨0, f, m, o, v, y, n⟩) : SmallG g' := by
 rcases hl with ⟨-, rfl, rfl⟩ | ⟨-, hp⟩
 · exact h
 · exact h.put hp hx
theorem SmallG.test {g g' : List Pt} {t : Ts} {y n i : Nat} (h : SmallG g) (hl : TestIs g t y n g' i) (ht : testOkB t = true) (hy : y ≤ 100000) (hn : n ≤ 100000) : SmallG g' := by
 obtain ⟨⟨f0, f1⟩, ⟨m0, m1⟩, ⟨v0, v1⟩, -⟩ := testOkB_words ht
 rcases hl with ⟨-, hl⟩ | ⟨-, -, hl⟩ | ⟨-, -, -, rfl, rfl⟩ | ⟨-, -, h0, hl⟩
 · exact h.look hl (small_look ⟨by omega, by omega⟩ ⟨by omega, by omega⟩ ⟨by omega, by omega⟩ ⟨by omega, by omega⟩ hy hn)
 · exact h.look hl (small_look ⟨by omega, by omega⟩ ⟨by omega, by omega⟩ ⟨by omega, by omega⟩ ⟨by omega, by omega⟩ hy hn)
 · exact h
 · exact h.look hl (small_look ⟨by omega, by omega⟩ ⟨by omega, by omega⟩ ⟨by omega, by omega⟩ ⟨by omega, by omega⟩ hn hy)

set_option maxHeartbeats 4000000 in
theorem putRule_any (w0 : World) (L M : Nat) (pv : Value) (g : List Pt) (r : Rl) (tv : Value) (no : Nat) (w : World) (h : PL w w0.heap.size L M pv g) (hw0 : Below w0.heap.size w0 w) (hn : g.length ≤ 900) (hA : Good g) (hSM : SmallG g) (hno : no < g.length) (hok : ruleOkB r = true) (hT : Sl w0 4 tv (tsR r.tests)) :
   Calls Tryz.prog 84 #[.pointer (some ⟨L, 0, none⟩), .agg #[.int .i64 r.verdict, .int .i64 r.low, .int .i64 r.high, tv], .int .i64 no] w fun e w' =>
     ∃ pv' g' i, e = .returned (.int .i64 (i : Nat)) ∧ RuleG g r no g' i ∧ Good g' ∧ SmallG g' ∧ i < g'.length ∧ g.length ≤ g'.length ∧ g'.length ≤ g.length + 7 ∧ PL w' w0.heap.size L M pv' g' ∧ PlFrame w0.heap.size L M w w' := by
 have hw := ruleOkB_words hok
 clear hok
 obtain ⟨vd, lo, hi, ts⟩ := r
 simp only at hT hw ⊢
 obtain ⟨⟨v0, v1⟩, ⟨l0, l1⟩, h1, n4, hts⟩ := hw
 obtain ⟨A, n, c, rfl, hSA⟩ := hT
 have htn : ts.length = n := by have := hSA.len; rwa [tsR_len] at this
 have hc := hSA.cap
 have hm := hSA.max
 unfold maxLen at hm
 rw [htn] at n4
 have hbs := hw0.size
 have hL := h.box.lt
 have hM := h.map.lt
 have hnL : w.heap.size ≠ L := by omega
 have hnM : w.heap.size ≠ M := by omega
 have hb0 : Below w.heap.size w (w.alloc (.cells #[.int .i64 vd, .int .i64 lo, .int .i64 hi, .slice A n c] 58)) := by go_grown
 have h2 := h.next hb0
 have hz : w0.heap.size ≤ (w.alloc (.cells #[.int .i64 vd, .int .i64 lo, .int .i64 hi, .slice A n c] 58)).heap.size := by simp; omega
 have F0 : PlFrame w0.heap.size L M w (w.alloc (.cells #[.int .i64 vd, .int .i64 lo, .int .i64 hi, .slice A n c] 58)) := PlFrame.of_below hb0 hbs
 have B0 := Blk.new w 58 #[.int .i64 vd, .int .i64 lo, .int .i64 hi, .slice A n c]
 have HT := Lib.hid hts; have HO := Lib.hid h2; have HA := Lib.hid hA; have HSM := Lib.hid hSM; clear hts h h2 hA hSM hb0 hL hM
 go_enter Tryz.func84, Tryz.ntmps84
 go_wp2_with fail
 refine (put_any w0.heap.size L M pv g ⟨vd, 0, 0, 0, 0, 0, 0⟩ _ HO.out (small_verd ⟨by omega, by omega⟩) hz (by omega)).mono ?_
 rintro e W1 ⟨pv1, g1, a1, rfl, hP, ho1, hf1⟩
 obtain ⟨-, p2, p3, p4⟩ := HA.out.ahead.put hP (fun h => absurd h (Int.lt_irrefl 0))
 have p1 := HA.out.put hP (.inl rfl)
 have HS1 := Lib.hid (HSM.out.put hP (small_verd ⟨by omega, by omega⟩))
 have HPP := Lib.hid hP
 have F1 := F0.trans hf1
 have B1 := hf1.blk B0 hnL hnM (by decide)
 have b3 : W1.cell? ⟨w.heap.size, 3, none⟩ = some (.slice A n c) := B1.cell 3
 have HA1 := Lib.hid p1; have HO1 := Lib.hid ho1; have HF1 := Lib.hid F1; have HB1 := Lib.hid B1; clear p1 ho1 hP HA HO F0 hf1 B0 hz F1 B1
 go_wp2
 go_loopw [7, 8] (fun at_ i wr => ∃ (k : Nat) (z : Int) (pv' : Value) (g' : List Pt) (a : Nat), k ≤ n ∧ z + 1 = k ∧ i = .int .i64 z ∧ at_ = .int .i64 a ∧ Hid (TestsIs g1 a1 no (ts.drop k) g' a) ∧ Hid (Good g') ∧ Hid (SmallG g') ∧ a < g'.length ∧ g.length ≤ g'.length ∧ g'.length + k ≤ g.length + 1 + n ∧ Hid (PL wr w0.heap.size L M pv' g') ∧ Hid (PlFrame w0.heap.size L M w wr) ∧ Hid (Blk wr w.heap.size 58 #[.int .i64 vd, .int .i64 lo, .int .i64 hi, .slice A n c])) (fun _ i _ => (intOf i + 1).toNat)
 case atStart => exact ⟨n, (n : Int) - 1, pv1, g1, a1, by omega, by omega, by go_num, rfl, Lib.hid (by rw [List.drop_of_length_le (by omega)]; exact ⟨rfl, rfl⟩), HA1, HS1, p2, p3, by omega, HO1, HF1, HB1⟩
 case round =>
   obtain ⟨k, z, pv', g', a, hk, hkz, rfl, rfl, HTI, HA, HSM', ha, hg1, hg2, HO, HF, HB⟩ := hrel
   clear HS1 HSM HA1 HO1 HF1 HB1 b3 p2 p3 p4
   have b1 : wr.cell? ⟨w.heap.size, 1, none⟩ = some (.int .i64 lo) := HB.out.cell 1
   have b2 : wr.cell? ⟨w.heap.size, 2, none⟩ = some (.int .i64 hi) := HB.out.cell 2
   have b3 : wr.cell? ⟨w.heap.size, 3, none⟩ = some (.slice A n c) := HB.out.cell 3
   have hzw : w0.heap.size ≤ wr.heap.size := Nat.le_trans hbs (by have := HB.out.lt; omega)
   by_cases hge : 0 ≤ z
   · obtain ⟨m, rfl⟩ : ∃ m : Nat, z = m := ⟨z.toNat, by omega⟩
     have hmn : m < n := by omega
     obtain ⟨b, off, t, rfl, hab, hgp, hcell⟩ := ts_get hSA hmn
     obtain ⟨c0, c1, c2, c3⟩ := hcell wr _ (hw0.trans HF.out.below) hab
     have HTO := Lib.hid (HT.out t (List.mem_of_getElem? hgp))
     have HDR := Lib.hid (show ts.drop m = t :: ts.drop (m + 1) from (List.drop_eq_getElem_cons (by omega)).trans (by rw [(List.getElem?_eq_some_iff.1 hgp).2]))
     obtain rfl : k = m + 1 := by omega
     clear hcell hgp
     obtain ⟨f, m', op, v⟩ := t
     simp only at c0 c1 c2 c3
     go_wp2_with fail
     refine (putTest_any w0.heap.size L M pv' g' ⟨f, m', op, v⟩ a no _ HO.out HTO.out (by omega) (by omega) hzw (by omega)).mono ?_
     rintro e W2 ⟨pv2, g2, a2, rfl, hP, ho2, hf2⟩
     obtain ⟨-, q2, q3, q4⟩ := HA.out.ahead.test hP ha (by omega)
     have HA2 := Lib.hid (HA.out.test hP ha (by omega))
     have HS2 := Lib.hid (HSM'.out.test hP HTO.out (by omega) (by omega))
     have HTN := Lib.hid (show TestsIs g1 a1 no (ts.drop m) g2 a2 by rw [HDR.out]; exact ⟨g', a, HTI.out, hP⟩)
     have HF2 := Lib.hid (HF.out.trans hf2)
     have HB2 := Lib.hid (hf2.blk HB.out hnL hnM (by decide))
     have HO2 := Lib.hid ho2; clear ho2 hP HA HO hf2 HF HB
     go_wp2
     exact ⟨⟨m, (m : Int) - 1, pv2, g2, a2, by omega, by omega, by go_num, rfl, HTN, HA2, HS2, q2, by omega, by omega, HO2, HF2, HB2⟩, by simp [intOf]⟩
   · have HTT := Lib.hid (show TestsIs g1 a1 no ts g' a by have := HTI.out; rwa [show k = 0 by omega, List.drop_zero] at this)
     by_cases e1 : lo = hi
     · have hd : (lo == hi) = true := by simp [e1]
       have HE1 := Lib.hid e1; clear e1
       go_wp2_with fail
       refine (lookNew_any 0 4294967295 1 lo a no wr).mono ?_; rintro e w1 ⟨rfl, hb1⟩
       have hPL1 := Lib.hid (HO.out.next hb1)
       have hz1 := Nat.le_trans hzw hb1.size
       go_wp2_with fail
       refine (putLook_any w0.heap.size L M pv' g' 0 4294967295 1 lo a no _ hPL1.out (small_look ⟨by omega, by omega⟩ ⟨by omega, by omega⟩ ⟨by omega, by omega⟩ ⟨by omega, by omega⟩ (by omega) (by omega)) hz1 (by omega)).mono ?_
       rintro e W2 ⟨pv2, g2, a2, rfl, hP, ho2, hf2⟩
       obtain ⟨-, q2, q3, q4⟩ := HA.out.ahead.look hP ha (by omega)
       have HA2 := Lib.hid (HA.out.look hP (by omega) ha (by omega))
       have HS2 := Lib.hid (HSM'.out.look hP (small_look ⟨by omega, by omega⟩ ⟨by omega, by omega⟩ ⟨by omega, by omega⟩ ⟨by omega, by omega⟩ (by omega) (by omega)))
       have HRG := Lib.hid (show RuleG g ⟨vd, lo, hi, ts⟩ no g2 a2 from ⟨g1, a1, g', a, HPP.out, HTT.out, .inl ⟨HE1.out, hP⟩⟩)
       have HF2 := Lib.hid ((HF.out.trans (PlFrame.of_below hb1 hzw)).trans hf2)
       have HO2 := Lib.hid ho2; clear ho2 hP HA HO hf2
       go_wp2
       go_ret
       exact ⟨pv2, g2, a2, rfl, HRG.out, HA2.out, HS2.out, q2, by omega, by omega, HO2.out, HF2.out⟩
     · have hd : (lo == hi) = false := by simp [e1]
       have HE1 := Lib.hid e1; clear e1
       rcases Decidable.em (hi < 4294967295) with e2 | e2
       case' inl =>
         go_wp2_with fail
         refine (lookNew_any 0 4294967295 3 hi no a wr).mono ?_; rintro e w1 ⟨rfl, hb1⟩
         have hPL1 := Lib.hid (HO.out.next hb1)
         have hz1 := Nat.le_trans hzw hb1.size
         go_wp2_with fail
         refine (putLook_any w0.heap.size L M pv' g' 0 4294967295 3 hi no a _ hPL1.out (small_look ⟨by omega, by omega⟩ ⟨by omega, by omega⟩ ⟨by omega, by omega⟩ ⟨by omega, by omega⟩ (by omega) (by omega)) hz1 (by omega)).mono ?_
         rintro e W2 ⟨pv2, g2, a2, rfl, hP, ho2, hf2⟩
         obtain ⟨-, q2, q3, q4⟩ := HA.out.ahead.look hP (by omega) ha
         have HHI := Lib.hid (show ∃ gA aA, TestsIs g1 a1 no ts gA aA ∧ HighG gA hi aA no g2 a2 from ⟨g', a, HTT.out, .inl ⟨e2, hP⟩⟩)
         have HF2 := Lib.hid ((HF.out.trans (PlFrame.of_below hb1 hzw)).trans hf2)
         have HB2 := Lib.hid (hf2.blk (HB.out.below hb1 HB.out.lt) hnL hnM (by decide))
         have s1 : W2.cell? ⟨w.heap.size, 1, none⟩ = some (.int .i64 lo) := HB2.out.cell 1
         have hz2 : w0.heap.size ≤ W2.heap.size := Nat.le_trans hz1 hf2.below.size
         have HA2 := Lib.hid (HA.out.look hP (by omega) (by omega) ha)
         have HS2 := Lib.hid (HSM'.out.look hP (small_look ⟨by omega, by omega⟩ ⟨by omega, by omega⟩ ⟨by omega, by omega⟩ ⟨by omega, by omega⟩ (by omega) (by omega)))
         have HO2 := Lib.hid ho2; clear ho2 hP HA HO b1 b2 b3 HF hf2 HB HB2 hb1 hPL1 hz1
       case' inr =>
         have HHI := Lib.hid (show ∃ gA aA, TestsIs g1 a1 no ts gA aA ∧ HighG gA hi aA no g' a from ⟨g', a, HTT.out, .inr ⟨e2, rfl, rfl⟩⟩)
         clear HTT HTI
         obtain ⟨W2, hW2⟩ : ∃ W2, W2 = wr := ⟨_, rfl⟩
         subst hW2
         obtain ⟨pv2, hu2⟩ : ∃ u2, u2 = pv' := ⟨_, rfl⟩
         subst hu2
         obtain ⟨a2, ha2⟩ : ∃ a2, a2 = a := ⟨_, rfl⟩
         subst ha2
         obtain ⟨g2, hg2e⟩ : ∃ g2, g2 = g' := ⟨_, rfl⟩
         subst hg2e
         have q2 := ha
         have q3 := Nat.le_refl g2.length
         have q4 : g2.length ≤ g2.length + 1 := by omega
         have HF2 := HF
         have s1 := b1
         have hz2 := hzw
         have HS2 := HSM'; have HA2 := HA; have HO2 := HO; clear HA HO
       all_goals
         by_cases e3 : 0 < lo
         · go_wp2_with fail
           refine (lookNew_any 0 4294967295 3 (lo - 1) a2 no W2).mono ?_; rintro e w3 ⟨rfl, hb3⟩
           have hPL3 := Lib.hid (HO2.out.next hb3)
           have hz3 := Nat.le_trans hz2 hb3.size
           go_wp2_with fail
           refine (putLook_any w0.heap.size L M pv2 g2 0 4294967295 3 (lo - 1) a2 no _ hPL3.out (small_look ⟨by omega, by omega⟩ ⟨by omega, by omega⟩ ⟨by omega, by omega⟩ ⟨by omega, by omega⟩ (by omega) (by omega)) hz3 (by omega)).mono ?_
           rintro e W3 ⟨pv3, g3, a3, rfl, hP3, ho3, hf3⟩
           obtain ⟨-, r2, r3, r4⟩ := HA2.out.ahead.look hP3 q2 (by omega)
           have HA3 := Lib.hid (HA2.out.look hP3 (by omega) q2 (by omega))
           have HS3 := Lib.hid (HS2.out.look hP3 (small_look ⟨by omega, by omega⟩ ⟨by omega, by omega⟩ ⟨by omega, by omega⟩ ⟨by omega, by omega⟩ (by omega) (by omega)))
           have HRG := Lib.hid (show RuleG g ⟨vd, lo, hi, ts⟩ no g3 a3 by obtain ⟨gA, aA, x1, x2⟩ := HHI.out; exact ⟨g1, a1, gA, aA, HPP.out, x1, .inr ⟨HE1.out, g2, a2, x2, .inl ⟨e3, hP3⟩⟩⟩)
           have HF3 := Lib.hid ((HF2.out.trans (PlFrame.of_below hb3 hz2)).trans hf3)
           have HO3 := Lib.hid ho3; clear ho3 hP3 hf3
           go_wp2
           go_ret
           exact ⟨pv3, g3, a3, rfl, HRG.out, HA3.out, HS3.out, r2, by omega, by omega, HO3.out, HF3.out⟩
         · have HRG := Lib.hid (show RuleG g ⟨vd, lo, hi, ts⟩ no g2 a2 by obtain ⟨gA, aA, x1, x2⟩ := HHI.out; exact ⟨g1, a1, gA, aA, HPP.out, x1, .inr ⟨HE1.out, g2, a2, x2, .inr ⟨e3, rfl, rfl⟩⟩⟩)
           go_wp2
           go_ret
           exact ⟨pv2, g2, a2, rfl, HRG.out, HA2.out, HS2.out, q2, by omega, by omega, HO2.out, HF2.out⟩
end Go.Proofs.YtdjgicapbpoigaaGreatDoor

namespace Go.Proofs.YtdjgicapbpoigaaGreatDoor
open Go.RowKit Go.Maps
set_option linter.unusedSimpArgs false
set_option linter.unusedVariables false

set_option maxHeartbeats 4000000 in
theorem pointsFrom_any (A : Option Addr) (n c : Nat) (g : List Pt) (at_ : Nat) (w : World) (hA : SlA w 7 A n c (g.map Pt.cells)) (hAh : Good g) (hat : at_ < n) (hn : n ≤ 1000) :
   Calls Tryz.prog 150 #[.slice A n c, .int .i64 at_] w fun e w' => e = .returned (.slice (some ⟨w.heap.size, 0, none⟩) n n) ∧ Blk w' w.heap.size 4 (bRow (usedOf g at_)) ∧ Below w.heap.size w w' := by
 have hl : g.length = n := by have := hA.len; simpa using this
 have hc := hA.cap
 have hm := hA.max
 unfold maxLen at hm
 have hmk := fun W => run_make_row' (P := Tryz.prog) 200 4 (.bool false) 1 Tryz.underlying200 info_boolR rfl .i64 .i64 n (by omega) (by omega) W
 have B0 : Blk (w.alloc (.cells (madeCells #[.bool false] n) 4)) w.heap.size 4 (bRow (List.replicate n false)) := by rw [bRow_zero]; exact Blk.new _ _ _
 have d0 := bRow_cell (k := at_) (b := false) B0 (by simp [List.getElem?_replicate, hat])
 have f0 := B0.frozen at_
 have h0n : (at_ : Int) < n := by omega
 have HL := Lib.hid hl; have HG := Lib.hid hAh; have HA := Lib.hid hA; clear hl hAh B0 hA
 go_enter Tryz.func150, Tryz.ntmps150
 go_wp2
 go_loopw [6] (fun i wr => ∃ (k : Nat) (z : Int) (us : List Bool), k ≤ at_ + 1 ∧ z + 1 = k ∧ i = .int .i64 z ∧ us.length = n ∧ Hid (useDown g k us = usedOf g at_) ∧ Blk wr w.heap.size 4 (bRow us) ∧ Below w.heap.size w wr) (fun i _ => (intOf i + 1).toNat)
 case atStart =>
   refine ⟨at_ + 1, at_, (List.replicate n false).set at_ true, by omega, by omega, rfl, by simp, Lib.hid (by unfold usedOf; rw [HL.out]), ?_, by go_grown⟩
   rw [← bRow_set, ← bRow_zero]; exact Blk.new _ _ _
 case round =>
   obtain ⟨k, z, us, hk, hz, rfl, hrl, HR, hbk, hbw⟩ := hrel
   have hsz := hbw.size
   have hblt := hbk.lt
   by_cases hge : 0 ≤ z
   · obtain ⟨m, rfl⟩ : ∃ m : Nat, z = m := ⟨z.toNat, by omega⟩
     obtain rfl : k = m + 1 := by omega
     have hmn : m < n := by omega
     have hmni : (m : Int) < n := by omega
     obtain ⟨b, off, p, rfl, hab, hgp, hcell⟩ := pts_get HA.out hmn
     obtain ⟨c0, c1, c2, c3, c4, c5, c6⟩ := hcell wr _ hbw hab
     obtain ⟨rb, hrb⟩ := bRow_some hrl hmn
     obtain ⟨XB, hXB⟩ : ∃ X, X = Obj.cells #[.int .i64 p.verdict, .int .i64 p.field, .int .i64 p.mask, .int .i64 p.op, .int .i64 p.value, .int .i64 p.yes, .int .i64 p.no] 151 := ⟨_, rfl⟩
     have hbx : Below wr.heap.size wr (wr.alloc XB) := by rw [hXB]; go_grown
     have hbk0 := hbk
     have hwne : ¬ w.heap.size = wr.heap.size := by omega
     have hwne' : ¬ wr.heap.size = w.heap.size := by omega
     have hbk := hbk.below hbx hblt
     have hbw0 := hbw
     have hbw := below_then hbw hbx
     have HRB := Lib.hid hrb; have HP := Lib.hid hgp
     by_cases hop : 0 < p.op
     · have hd : (p.op != 0) = true := by simp; omega
       obtain ⟨y, nn, hy, hnn, hyk, hnk⟩ := HG.out.ahead m p HP.out hop
       have HY := Lib.hid hy; have HN := Lib.hid hnn
       rw [hy] at c5 hXB
       rw [hnn] at c6 hXB
       clear hy hnn
       rw [hXB] at hbk hbw
       clear hXB hbx
       have dk := bRow_cell hbk hrb
       clear hrb hgp hcell
       cases rb with
       | false =>
         go_wp2
         exact ⟨⟨m, (m : Int) - 1, us, by omega, by omega, by go_num, hrl, Lib.hid (by have := HR.out; rwa [useDown, useAt_skip HP.out (.inl HRB.out)] at this), hbk, hbw⟩, by simp [intOf]⟩
       | true =>
         obtain ⟨by_, hby⟩ := bRow_some hrl (k := y) (by omega)
         have dy := bRow_cell hbk0 hby
         have fy := hbk0.frozen y
         have BY := hbk0.set_ y (.bool true)
         rw [bRow_set] at BY
         obtain ⟨bn, hbn⟩ := bRow_some (rs := us.set y true) (n := n) (by simp [hrl]) (k := nn) (by omega)
         have dn := bRow_cell BY hbn
         have fn := BY.frozen nn
         have hyi : (y : Int) < n := by omega
         have hni : (nn : Int) < n := by omega
         have HB := Lib.hid BY
         have dk0 := bRow_cell hbk0 HRB.out
         clear hby hbn BY
         have HBW := Lib.hid hbw0
         go_wp2
         exact ⟨⟨m, (m : Int) - 1, (us.set y true).set nn true, by omega, by omega, by go_num, by simp [hrl], Lib.hid (by have := HR.out; rwa [useDown, useAt_mark HP.out HRB.out (by omega) HY.out HN.out] at this), by have := HB.out.set_ nn (.bool true); rw [bRow_set] at this; exact this.below (by go_grown) this.lt, by have h9 := (HBW.out.setCell (p := ⟨w.heap.size, y, none⟩) (by simp) (.bool true)).setCell (p := ⟨w.heap.size, nn, none⟩) (by simp) (.bool true); exact h9.alloc h9.size _⟩, by simp [intOf]⟩
     · have hop0 : p.op = 0 := by rcases HG.out m p HP.out with h | h <;> omega
       have HOP := Lib.hid hop0
       have hd : (p.op != 0) = false := by simp [hop0]
       rw [hXB] at hbk hbw
       clear hXB hbx
       have dk := bRow_cell hbk hrb
       clear hrb hgp hcell hop0
       cases rb with
       | false =>
         go_wp2
         exact ⟨⟨m, (m : Int) - 1, us, by omega, by omega, by go_num, hrl, Lib.hid (by have := HR.out; rwa [useDown, useAt_skip HP.out (.inl HRB.out)] at this), hbk, hbw⟩, by simp [intOf]⟩
       | true =>
         go_wp2
         exact ⟨⟨m, (m : Int) - 1, us, by omega, by omega, by go_num, hrl, Lib.hid (by have := HR.out; rwa [useDown, useAt_skip HP.out (.inr HOP.out)] at this), hbk, hbw⟩, by simp [intOf]⟩
   · obtain rfl : k = 0 := by omega
     go_wp2
     go_ret
     exact ⟨rfl, by have h := HR.out; rw [useDown] at h; rw [← h]; exact hbk, hbw⟩
end Go.Proofs.YtdjgicapbpoigaaGreatDoor

namespace Go.Proofs.YtdjgicapbpoigaaGreatDoor
open Go.RowKit Go.Maps
set_option linter.unusedSimpArgs false
set_option linter.unusedVariables false

theorem PL.far {w : World} {base L M T i : Nat} {pv : Value} {g : List Pt} {t : TypeId} {cs : Array Value} (h : PL w base L M pv g) (hT : Blk w T t cs) (ht : t ≠ 151) (hL : L ≠ T) (hM : M ≠ T) (v : Value) : PL (w.setCell ⟨T, i, none⟩ v) base L M pv g :=
 ⟨h.box.far (p := ⟨T, i, none⟩) hL v, ownsRow_setCell_other (a := ⟨T, i, none⟩) h.own (own_ne_int h.own hT ht) v, h.map.setCell (a := ⟨T, i, none⟩) hM v, h.lowL, h.lowM⟩
theorem TrimTo.near {g : List Pt} (hg : Good g) {at_ : Nat} {gs : List Pt} {ts : List Nat} : ∀ k, at_ + 1 ≤ k → k ≤ g.length → TrimTo g (usedOf g at_) k gs ts → TrimTo g (usedOf g at_) (at_ + 1) gs ts
 | 0, hk, _, _ => absurd hk (by omega)
 | k + 1, hk, hl, h => by
   by_cases e : k = at_
   · subst e; exact h
   · obtain ⟨gs0, ts0, h0, h1⟩ := h
     rcases h1 with ⟨-, rfl, rfl⟩ | ⟨h2, -⟩
     · exact TrimTo.near hg k (by omega) (by omega) h0
     · rw [usedOf_far hg (by omega) (by omega)] at h2; cases h2

set_option maxHeartbeats 8000000 in
theorem putAnew_any (at_ : Nat) (A : Option Addr) (n c : Nat) (g : List Pt) (w : World) (hA : SlA w 7 A n c (g.map Pt.cells)) (hAh : Good g) (hSM : SmallG g) (hat : at_ < n) (hn : n ≤ 900) :
   Calls Tryz.prog 123 #[.slice A n c, .int .i64 at_] w fun e w' => ∃ v' gs ts t, e = .returned (.tuple #[v', .int .i64 (t : Nat)]) ∧ Sl w' 7 v' (gs.map Pt.cells) ∧ TrimTo g (usedOf g at_) (at_ + 1) gs ts ∧ ts[at_]? = some t ∧ t < gs.length ∧ Good gs ∧ SmallG gs ∧ gs.length ≤ n ∧ Below w.heap.size w w' := by
 have hl : g.length = n := by have := hA.len; simpa using this
 have hc := hA.cap
 have hm := hA.max
 unfold maxLen at hm
 have HL := Lib.hid hl; have HG := Lib.hid hAh; have HA := Lib.hid hA; have HSM := Lib.hid hSM; clear hl hAh hA hSM
 go_enter Tryz.func123, Tryz.ntmps123
 go_wp2_with fail
 refine (newPointList_any _).mono ?_; rintro e W1 ⟨rfl, hPL, hb1⟩
 have hsz := hb1.size
 have hL1 := hPL.box.lt
 have hM1 := hPL.map.lt
 have hmk := fun W => run_make_row' (P := Tryz.prog) 160 3 (.int .i64 0) 8 Tryz.underlying160 info_intR rfl .i64 .i64 n (by omega) (by omega) W
 obtain ⟨W2, hW2⟩ : ∃ W2, W2 = W1.alloc (.cells (madeCells #[.int .i64 0] n) 3) := ⟨_, rfl⟩
 have hb12 : Below W1.heap.size W1 W2 := by rw [hW2]; go_grown
 have BT : Blk W2 W1.heap.size 3 (nRow (List.replicate n 0)) := by rw [hW2, ← nRow_zero]; exact Blk.new _ _ _
 have hs2 : W2.heap.size = W1.heap.size + 1 := by rw [hW2]; simp
 have HPL := Lib.hid (hPL.next hb12); have HBT := Lib.hid BT; have HW2 := Lib.hid hW2; have HB2 := Lib.hid (hb1.trans (hb12.mono hsz)); clear hPL BT hW2 hb1
 go_wp2_with fail
 rw [← HW2.out]
 refine (pointsFrom_any A n c g at_ W2 (HA.out.below HB2.out) HG.out hat (by omega)).mono ?_; rintro e W3 ⟨rfl, hbu, hb3⟩
 rw [hs2] at hbu
 obtain ⟨us, hU⟩ : ∃ us, us = usedOf g at_ := ⟨_, rfl⟩
 rw [← hU] at hbu
 have hus : us.length = n := by rw [hU, usedOf_len]; exact HL.out
 have HU := Lib.hid hU; have HPL3 := Lib.hid (HPL.out.next hb3); have HBT3 := Lib.hid (HBT.out.below hb3 (by omega)); have HBU := Lib.hid hbu; have HB3 := Lib.hid (HB2.out.trans (hb3.mono (by omega)))
 clear hU hbu hb3 hb12 HPL HBT
 go_wp2
 have hT1 : w.heap.size + 1 ≠ W1.heap.size := by omega
 have hT2 : w.heap.size ≠ W1.heap.size := by omega
 have hU1 : w.heap.size + 1 ≠ W1.heap.size + 1 := by omega
 have hU2 : w.heap.size ≠ W1.heap.size + 1 := by omega
 go_loopw [19] (fun i wr => ∃ (k : Nat) (pv : Value) (gs : List Pt) (ts : List Nat), k ≤ n ∧ i = .int .i64 k ∧ ts.length = n ∧ Hid (TrimTo g us k gs ts) ∧ Hid (Good gs) ∧ Hid (SmallG gs) ∧ gs.length ≤ k ∧ Hid (ToOk us ts k gs.length) ∧ Hid (PL wr w.heap.size (w.heap.size + 1) w.heap.size pv gs) ∧ Blk wr (W1.heap.size + 1) 4 (bRow us) ∧ Blk wr W1.heap.size 3 (nRow ts) ∧ Below w.heap.size w wr) (fun i _ => n - (intOf i).toNat)
 case atStart => exact ⟨0, _, [], List.replicate n 0, by omega, rfl, by simp, Lib.hid ⟨rfl, by rw [HL.out]⟩, Lib.hid Good.nil, Lib.hid SmallG.nil, by simp, Lib.hid (fun j h => absurd h (by omega)), HPL3, HBU.out, HBT3.out, HB3.out⟩
 case round =>
   obtain ⟨k, pv, gs, ts, hk, rfl, htl, HTT, HAG, HSG, hgl, HTO, HO, hbu, hbt, hbw⟩ := hrel
   clear HPL3 HBT3 HBU HB3 hmk
   have hwz := hbw.size
   by_cases hle : k < n
   · have hlei : (k : Int) < n := by omega
     obtain ⟨b, off, p, rfl, hab, hgp, hcell⟩ := pts_get HA.out hle
     obtain ⟨c0, c1, c2, c3, c4, c5, c6⟩ := hcell wr _ hbw hab
     obtain ⟨rb, hrb⟩ := bRow_some hus hle
     have dk := bRow_cell hbu hrb
     have HRB := Lib.hid hrb; have HP := Lib.hid hgp; clear hrb hgp hcell
     cases rb with
     | false =>
       clear c0 c1 c2 c3 c4 c5 c6
       go_wp2
       exact ⟨⟨k + 1, pv, gs, ts, by omega, by go_num, htl, Lib.hid ⟨gs, ts, HTT.out, .inl ⟨by rw [HRB.out]; simp, rfl, rfl⟩⟩, HAG, HSG, by omega, Lib.hid (HTO.out.skip HRB.out), HO, hbu, hbt, hbw⟩, by simp [intOf]; omega⟩
     | true =>
       have hkat : k ≤ at_ := by
         rcases Nat.lt_or_ge at_ k with h | h
         · have := usedOf_far HG.out h (by rw [HL.out]; exact hle)
           rw [← HU.out, HRB.out] at this
           cases this
         · exact h
       obtain ⟨XB, hXB⟩ : ∃ X, X = Obj.cells #[.int .i64 p.verdict, .int .i64 p.field, .int .i64 p.mask, .int .i64 p.op, .int .i64 p.value, .int .i64 p.yes, .int .i64 p.no] 151 := ⟨_, rfl⟩
       have hbx : Below wr.heap.size wr (wr.alloc XB) := by rw [hXB]; go_grown
       have O1 := HO.out.next hbx
       have BU1 := hbu.below hbx hbu.lt
       have BT1 := hbt.below hbx hbt.lt
       have F1 : Below w.heap.size w (wr.alloc XB) := below_then hbw hbx
       have hz1 : w.heap.size ≤ (wr.alloc XB).heap.size := by simp; omega
       rw [hXB] at O1 BU1 BT1 F1 hz1
       have HO1 := Lib.hid O1; have HBU1 := Lib.hid BU1; have HBT1 := Lib.hid BT1; have HF1 := Lib.hid F1; have HZ1 := Lib.hid hz1; clear O1 BU1 F1 BT1 hXB hbx
       obtain ⟨tk, htk⟩ := nRow_some htl hle
       have HTK := Lib.hid htk
       clear htk
       by_cases hop : 0 < p.op
       · obtain ⟨y, nn, hy, hnn, hyk, hnk, uy, un⟩ := usedOf_next HG.out hkat (by rw [← HU.out]; exact HRB.out) HP.out (by omega)
         rw [← HU.out] at uy un
         obtain ⟨ty, hty, hty2⟩ := HTO.out y hyk uy
         obtain ⟨tn, htn, htn2⟩ := HTO.out nn hnk un
         have hvd : p.verdict = 0 := by rcases HG.out k p HP.out with h | h; · omega
                                        · exact h.2.1
         have hsm := HSM.out k p HP.out
         obtain ⟨vd, pf, pm, po, pl, py, pn⟩ := p
         simp only at hy hnn hop hvd c0 c1 c2 c3 c4 c5 c6 dk
         subst hy hnn hvd
         obtain ⟨-, ⟨f0, f1⟩, ⟨m0, m1⟩, ⟨o0, o1⟩, ⟨w0, w1⟩, -⟩ := hsm
         simp only at f0 f1 m0 m1 o0 o1 w0 w1
         have hd : (po == 0) = false := by simp; omega
         have e0 := nRow_cell hbt hty
         have e1 := nRow_cell hbt htn
         have hblt := hbt.lt
         have hne1 : ¬ W1.heap.size = wr.heap.size := by omega
         have hne2 : ¬ wr.heap.size = W1.heap.size := by omega
         have hyi : (y : Int) < n := by omega
         have hni : (nn : Int) < n := by omega
         have HTY := Lib.hid hty; have HTN := Lib.hid htn
         clear uy un hty htn
         go_wp2
         go_region
         go_wp2_with fail
         refine (putLook_any w.heap.size (w.heap.size + 1) w.heap.size pv gs pf pm po pl ty tn _ (HO.out.next (by go_grown)) (small_look ⟨by omega, by omega⟩ ⟨by omega, by omega⟩ ⟨by omega, by omega⟩ ⟨by omega, by omega⟩ (by omega) (by omega)) (by simp; omega) (by omega)).mono ?_
         rintro e W4 ⟨pv4, g4, a4, rfl, hL, ho4, hf4⟩
         have BT4 := hf4.blk (hbt.below (by go_grown) hbt.lt) (by omega) (by omega) (by decide)
         have BU4 := hf4.blk (hbu.below (by go_grown) hbu.lt) (by omega) (by omega) (by decide)
         have F4 : Below w.heap.size w W4 := (below_then hbw (show Below wr.heap.size wr _ by go_grown)).trans hf4.below
         have d4 := nRow_cell BT4 HTK.out
         have f4 := BT4.frozen k
         obtain ⟨-, q2, q3, q4⟩ := HAG.out.ahead.look hL hty2 htn2
         have HQ1 := Lib.hid (HAG.out.look hL hop hty2 htn2); have HS4 := Lib.hid (HSG.out.look hL (small_look ⟨by omega, by omega⟩ ⟨by omega, by omega⟩ ⟨by omega, by omega⟩ ⟨by omega, by omega⟩ (by omega) (by omega)))
         have HST := Lib.hid (show TrimTo g us (k + 1) g4 (ts.set k a4) from ⟨gs, ts, HTT.out, .inr ⟨HRB.out, _, a4, HP.out, rfl, .inr ⟨by simp only; omega, by
             have ey : ts.getD (y : Int).toNat 0 = ty := by rw [Int.toNat_natCast, List.getD_eq_getElem?_getD, HTY.out]; rfl
             have en : ts.getD (nn : Int).toNat 0 = tn := by rw [Int.toNat_natCast, List.getD_eq_getElem?_getD, HTN.out]; rfl
             simp only
             rw [ey, en]
             exact hL⟩⟩⟩)
         have HO4 := Lib.hid (PL.far (i := k) ho4 BT4 (by decide) hT1 hT2 (.int .i64 (a4 : Int)))
         have B4 := BT4.set_ k (.int .i64 (a4 : Int))
         rw [nRow_set] at B4
         have HB4 := Lib.hid B4; have HTO4 := Lib.hid (HTO.out.put (a := a4) (show k < ts.length by omega) q3 q2)
         have HBU4 := Lib.hid (BU4.far (p := ⟨W1.heap.size, k, none⟩) (by simp) (.int .i64 (a4 : Int)))
         have HF4 := Lib.hid (F4.setCell (p := ⟨W1.heap.size, k, none⟩) (by simp; omega) (.int .i64 (a4 : Int)))
         clear ho4 B4 hL BT4 hf4 BU4 F4
         go_wp2
         exact ⟨⟨k + 1, pv4, g4, ts.set k a4, by omega, by go_num, by simp [htl], HST, HQ1, HS4, by omega, HTO4, HO4, HBU4.out, HB4.out, HF4.out⟩, by simp [intOf]; omega⟩
       · have hop0 : p.op = 0 := by rcases HG.out k p HP.out with h | h <;> omega
         have HOP := Lib.hid hop0
         have hd : (p.op == 0) = true := by simp [hop0]
         clear hop0
         go_wp2_with fail
         refine (put_any w.heap.size (w.heap.size + 1) w.heap.size pv gs p _ (by exact HO1.out) (HSM.out k p HP.out) (by exact HZ1.out) (by omega)).mono ?_
         rintro e W4 ⟨pv4, g4, a4, rfl, hL, ho4, hf4⟩
         have BT4 := hf4.blk HBT1.out (by omega) (by omega) (by decide)
         have d4 := nRow_cell BT4 HTK.out
         have f4 := BT4.frozen k
         obtain ⟨-, q2, q3, q4⟩ := HAG.out.ahead.put hL (fun h => absurd h (by omega))
         have HQ1 := Lib.hid (HAG.out.put hL (.inl HOP.out)); have HS4 := Lib.hid (HSG.out.put hL (HSM.out k p HP.out))
         have HST := Lib.hid (show TrimTo g us (k + 1) g4 (ts.set k a4) from ⟨gs, ts, HTT.out, .inr ⟨HRB.out, _, a4, HP.out, rfl, .inl ⟨HOP.out, hL⟩⟩⟩)
         have HO4 := Lib.hid (PL.far (i := k) ho4 BT4 (by decide) hT1 hT2 (.int .i64 (a4 : Int)))
         have B4 := BT4.set_ k (.int .i64 (a4 : Int))
         rw [nRow_set] at B4
         have HB4 := Lib.hid B4; have HTO4 := Lib.hid (HTO.out.put (a := a4) (show k < ts.length by omega) q3 q2)
         have HBU4 := Lib.hid ((hf4.blk HBU1.out (by omega) (by omega) (by decide)).far (p := ⟨W1.heap.size, k, none⟩) (by simp) (.int .i64 (a4 : Int)))
         have HF4 := Lib.hid ((HF1.out.trans hf4.below).setCell (p := ⟨W1.heap.size, k, none⟩) (by simp; omega) (.int .i64 (a4 : Int)))
         clear ho4 B4 hL BT4 hf4
         go_wp2
         exact ⟨⟨k + 1, pv4, g4, ts.set k a4, by omega, by go_num, by simp [htl], HST, HQ1, HS4, by omega, HTO4, HO4, HBU4.out, HB4.out, HF4.out⟩, by simp [intOf]; omega⟩
   · obtain rfl : k = n := by omega
     obtain ⟨t, ht, htlt⟩ := HTO.out at_ hat (by rw [HU.out]; exact usedOf_at HG.out (by rw [HL.out]; exact hat))
     have HTE := Lib.hid ht
     have HTF := Lib.hid (show TrimTo g (usedOf g at_) (at_ + 1) gs ts by rw [← HU.out]; have := TrimTo.near HG.out (at_ := at_) k (by omega) (by rw [HL.out]; omega) (by rw [← HU.out]; exact HTT.out); rwa [← HU.out] at this)
     have dt := nRow_cell hbt ht
     have hani : (at_ : Int) < k := by omega
     have l0 := (show _ = some pv from HO.out.box.cell 0)
     have HSL := Lib.hid (SlA.of_own HO.out.own (by simp) (Pt.rows gs))
     clear ht
     go_wp2
     go_region
     go_wp2
     go_ret2
     exact ⟨pv, gs, ts, t, rfl, by obtain ⟨A', n', c', e, h⟩ := HSL.out; exact ⟨A', n', c', e, h.below (by go_grown)⟩, HTF.out, HTE.out, htlt, HAG.out, HSG.out, hgl, by go_grown⟩
end Go.Proofs.YtdjgicapbpoigaaGreatDoor

namespace Go.Proofs.YtdjgicapbpoigaaGreatDoor
open Go.RowKit Go.Maps
set_option linter.unusedSimpArgs false
set_option linter.unusedVariables false

theorem PutIs.len {g g' : List Pt} {x : Pt} {i : Nat} (h : PutIs g x g' i) : g'.length ≤ g.length + 1 := by
 rcases h with ⟨rfl, -, -⟩ | ⟨rfl, -, -⟩
 · omega
 · simp
theorem TrimTo.len {g : List Pt} {us : List Bool} : ∀ {k : Nat} {gs : List Pt} {ts : List Nat}, TrimTo g us k gs ts → gs.length ≤ k
 | 0, _, _, ⟨rfl, rfl⟩ => by simp
 | k + 1, _, _, ⟨g0, t0, h0, h1⟩ => by
   have := TrimTo.len h0
   rcases h1 with ⟨-, rfl, rfl⟩ | ⟨-, p, i, -, -, ⟨-, h⟩ | ⟨-, h⟩⟩
   · omega
   · have := h.len; omega
   · rcases h with ⟨-, rfl, -⟩ | ⟨-, h⟩
     · omega
     · have := h.len; omega

set_option maxHeartbeats 8000000 in
theorem trimFrom_any (at_ : Nat) (A : Option Addr) (n c : Nat) (g : List Pt) (w : World) (hA : SlA w 7 A n c (g.map Pt.cells)) (hAh : Good g) (hSM : SmallG g) (hat : at_ < n) (hn : n ≤ 900) :
   Calls Tryz.prog 85 #[.slice A n c, .int .i64 at_] w fun e w' => ∃ v' g', e = .returned v' ∧ Sl w' 7 v' (g'.map Pt.cells) ∧ TrimIs g at_ g' ∧ Good g' ∧ SmallG g' ∧ g'.length ≤ 900 ∧ Below w.heap.size w w' := by
 have HA := Lib.hid hA; have HG := Lib.hid hAh; have HS := Lib.hid hSM; clear hA hAh hSM
 go_enter Tryz.func85, Tryz.ntmps85
 go_wp2
 go_loopg [0, 1] at_ (fun gk u i wr => ∃ (B : Option Addr) (m d a : Nat) (gg : List Pt), u = .slice B m d ∧ i = .int .i64 a ∧ gk = a ∧ Hid (SlA wr 7 B m d (gg.map Pt.cells)) ∧ Hid (Good gg) ∧ Hid (SmallG gg) ∧ a < m ∧ m ≤ 900 ∧ Hid (∀ x, TrimIs gg a x → TrimIs g at_ x) ∧ Below w.heap.size w wr)
 case atStart => exact ⟨A, n, c, at_, g, rfl, rfl, rfl, HA, HG, HS, hat, hn, Lib.hid (fun x h => h), Below.refl _ _⟩
 case round =>
   obtain ⟨B, m, d, a, gg, rfl, rfl, hgk, HA1, HG1, HS1, ham, hm, HT, hbw⟩ := hrel
   have HGK := Lib.hid hgk; clear hgk HA HG HS
   go_wp2_with fail
   refine (putAnew_any a B m d gg _ HA1.out HG1.out HS1.out ham hm).mono ?_
   rintro e w2 ⟨v2, gs, ts, t, rfl, hsl, htt, hta, htl, hg2, hs2, hl2, hb2⟩
   obtain ⟨B2, m2, d2, rfl, hA2⟩ := hsl
   have hgl : gs.length = m2 := by have := hA2.len; simpa using this
   have hc2 := hA2.cap
   have hm2 := hA2.max
   unfold maxLen at hm2
   have hlen := htt.len
   have HA2 := Lib.hid hA2; have HG2 := Lib.hid hg2; have HS2 := Lib.hid hs2; have HTT := Lib.hid htt; have HTA := Lib.hid hta
   have HB2 := Lib.hid (below_then hbw hb2)
   clear hA2 hg2 hs2 htt hta hb2 hbw
   by_cases hlast : t + 1 = m2
   · have hd : ((t : Int) == (m2 : Int) - 1) = true := by simp; omega
     have HL := Lib.hid hlast
     go_wp2
     go_ret
     exact ⟨_, gs, rfl, ⟨_, _, _, rfl, HA2.out⟩, HT.out gs (.done HTT.out HTA.out (by omega)), HG2.out, HS2.out, by omega, HB2.out⟩
   · have hd : ((t : Int) == (m2 : Int) - 1) = false := by simp; omega
     go_wp2
     go_roundg t
     case measure => have := HGK.out; omega
     case rel => exact ⟨B2, m2, d2, t, gs, rfl, rfl, rfl, HA2, HG2, HS2, by omega, by omega, Lib.hid (fun x h => HT.out x (.more HTT.out HTA.out (by omega) h)), HB2.out⟩
end Go.Proofs.YtdjgicapbpoigaaGreatDoor
