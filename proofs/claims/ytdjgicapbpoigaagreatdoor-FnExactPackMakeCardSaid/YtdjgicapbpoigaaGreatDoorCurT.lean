/- impl's cursor on a line that is one: a test. -/
import Derived.Test.YtdjgicapbpoigaaGreatDoorCurV
import Derived.Test.YtdjgicapbpoigaaGreatDoorRelA
namespace Go.Proofs.YtdjgicapbpoigaaGreatDoor
open Go.RowKit
set_option linter.unusedSimpArgs false
set_option linter.unusedVariables false

theorem sign_noDig {op : Int} {l : List UInt8} (h : 1 ≤ op ∧ op ≤ 3) : noDig (signNm op ++ l) := by
 obtain rfl | rfl | rfl : op = 1 ∨ op = 2 ∨ op = 3 := by omega
 all_goals exact noDig_cons (by decide)
def afterF (t : Ts) (r : List UInt8) : List UInt8 := maskText t.mask ++ (signNm t.op ++ (Lib.itoa t.value ++ r))
theorem test_split (t : Ts) (r : List UInt8) : testText t ++ r = [32, 97] ++ (Lib.itoa t.field ++ afterF t r) := by simp [testText, afterF]
theorem sign_other {op k : Int} {l : List UInt8} (h : 1 ≤ op ∧ op ≤ 3) (hk : 1 ≤ k ∧ k < op) : ¬ ∃ t, signNm op ++ l = signNm k ++ t := by
 rintro ⟨t, h⟩
 obtain rfl | rfl | rfl : op = 1 ∨ op = 2 ∨ op = 3 := by omega
 · omega
 · obtain rfl : k = 1 := by omega
   simp [signNm] at h
 · obtain rfl | rfl : k = 1 ∨ k = 2 := by omega
   all_goals simp [signNm] at h
abbrev TTest : TypeId := 99
structure TS (w wr : World) (g tb : Nat) (line : Int) (t : List UInt8) (a b c d : Int) : Prop where
 cur : Cur w wr g line t
 test : Blk wr tb TTest #[.int .i64 a, .int .i64 b, .int .i64 c, .int .i64 d]
 res : Blk wr w.heap.size TTest #[.int .i64 0, .int .i64 0, .int .i64 0, .int .i64 0]
 lt : g < w.heap.size
 after : w.heap.size < tb
theorem TS.to {w wr : World} {g tb : Nat} {line : Int} {t t' : List UInt8} {a b c d : Int} (h : TS w wr g tb line t a b c d) : TS w (wr.setCell ⟨g, 0, none⟩ (.string ⟨t'.toArray⟩)) g tb line t' a b c d :=
 ⟨h.cur.to, h.test.far (show tb ≠ g by have := h.lt; have := h.after; omega) _, h.res.far (show w.heap.size ≠ g by have := h.lt; omega) _, h.lt, h.after⟩
theorem TS.set {w wr : World} {g tb : Nat} {line : Int} {t : List UInt8} {a b c d : Int} (h : TS w wr g tb line t a b c d) (i : Nat) (x a' b' c' d' : Int) (e : (#[Value.int .i64 a, .int .i64 b, .int .i64 c, .int .i64 d]).setIfInBounds i (.int .i64 x) = #[.int .i64 a', .int .i64 b', .int .i64 c', .int .i64 d']) : TS w (wr.setCell ⟨tb, i, none⟩ (.int .i64 x)) g tb line t a' b' c' d' :=
 ⟨⟨h.cur.blk.far (show g ≠ tb by have := h.lt; have := h.after; omega) _, grown_new h.cur.grown (Nat.le_of_lt h.after) _⟩, by rw [← e]; exact h.test.set_ i _, h.res.far (show w.heap.size ≠ tb by have := h.after; omega) _, h.lt, h.after⟩
theorem TS.next {w wr w' : World} {g tb : Nat} {line : Int} {t : List UInt8} {a b c d : Int} (h : TS w wr g tb line t a b c d) (hb : Below wr.heap.size wr w') : TS w w' g tb line t a b c d :=
 ⟨h.cur.next hb, h.test.below hb h.test.lt, h.res.below hb h.res.lt, h.lt, h.after⟩
def signT (g : Nat) (k : Int) (b : Bool) : Nat → World → Value → Prop
 | 0, _, u => u = .pointer (some ⟨g, 0, none⟩)
 | 1, _, u => u = .pointer (some ⟨g, 0, none⟩)
 | 2, _, u => u = .pointer (some ⟨g, 0, none⟩)
 | 3, _, u => u = .int .i64 k
 | 4, _, u => u = .string ⟨(signNm k).toArray⟩
 | _, _, u => u = .bool b
theorem signT_keep {g : Nat} {k : Int} {b : Bool} (j : Nat) {w w' : World} {u : Value} (h : signT g k b j w u) : signT g k b j w' u := by
 match j, h with
 | 0, h => exact h
 | 1, h => exact h
 | 2, h => exact h
 | 3, h => exact h
 | 4, h => exact h
 | (n + 5), h => exact h
theorem Cur.result {w wr : World} {g rb : Nat} {line : Int} {t : List UInt8} (h : Cur w wr g line t) (hr : w.heap.size ≤ rb) (hg : g < w.heap.size) (i : Nat) (v : Value) : Cur w (wr.setCell ⟨rb, i, none⟩ v) g line t :=
 ⟨h.blk.far (show g ≠ rb by omega) _, grown_new h.grown hr _⟩
theorem putL_ne {L : Nat → Bool} {i j : Nat} (h : j ≠ i) : putL L i j = L j := by unfold putL; simp [h]
set_option maxHeartbeats 4000000 in
theorem test_yes (g : Nat) (line : Int) (t : Ts) (r : List UInt8) (w : World) (h : Blk w g TCur #[.string ⟨(testText t ++ r).toArray⟩, .int .i64 line]) (ht : testOkB t = true) (hr : noDig r) (hl : (testText t ++ r).length ≤ 2000) :
   Calls Tryz.prog 77 #[.pointer (some ⟨g, 0, none⟩)] w fun e w' => e = .returned (.agg #[.int .i64 t.field, .int .i64 t.mask, .int .i64 t.op, .int .i64 t.value]) ∧ Cur w w' g line r := by
 have HOK := Lib.hid ht
 obtain ⟨⟨f1, f2⟩, ⟨m1, m2⟩, ⟨v1, v2⟩, ⟨o1, o2⟩⟩ := testOkB_words ht
 rw [test_split] at h hl
 have HL := Lib.hid hl; have HR := Lib.hid hr
 have hglt := h.lt
 obtain ⟨W1, hW1⟩ : ∃ W, W = w.alloc (.cells #[.int .i64 0, .int .i64 0, .int .i64 0, .int .i64 0] TTest) := ⟨_, rfl⟩
 have bW : Hid (Below w.heap.size w W1) := by rw [hW1]; exact Lib.hid (by go_grown)
 have K1 : Hid (Blk W1 w.heap.size TTest #[.int .i64 0, .int .i64 0, .int .i64 0, .int .i64 0]) := by rw [hW1]; exact Lib.hid (Blk.new _ _ _)
 have HW1 := Lib.hid hW1
 have C0 := Lib.hid ((Cur.start h).next bW.out)
 have x0 := (show _ = some (Value.string ⟨([32, 97] ++ (Lib.itoa t.field ++ afterF t r)).toArray⟩) from C0.out.blk.cell 0); have z0 := C0.out.blk.frozen 0
 have HNF := Lib.hid (show NumAt 4294967295 (Lib.itoa t.field ++ afterF t r) t.field (afterF t r) from ⟨by omega, rfl, by
   unfold afterF maskText
   split
   · exact sign_noDig ⟨o1, o2⟩
   · exact noDig_cons (by decide)⟩)
 clear ht h hl hr hW1
 go_enter Tryz.func77, Tryz.ntmps77
 go_wp2_with fail
 rw [← HW1.out]
 refine (skip_yes ⟨([32, 97] ++ (Lib.itoa t.field ++ afterF t r)).toArray⟩ ⟨#[32, 97]⟩ (Lib.itoa t.field ++ afterF t r) g 0 W1 x0 z0 rfl).mono ?_; rintro e w1 ⟨rfl, rfl⟩
 have C1 := Lib.hid (C0.out.to (t' := Lib.itoa t.field ++ afterF t r))
 have K2 := Lib.hid (K1.out.far (p := ⟨g, 0, none⟩) (show w.heap.size ≠ g by omega) (.string ⟨(Lib.itoa t.field ++ afterF t r).toArray⟩))
 obtain ⟨W2, hW2⟩ : ∃ W, W = W1.setCell ⟨g, 0, none⟩ (.string ⟨(Lib.itoa t.field ++ afterF t r).toArray⟩) := ⟨_, rfl⟩
 rw [← hW2] at C1 K2 ⊢
 clear hW2 x0 z0
 go_wp2_with fail
 refine (need_yes _ _).mono ?_; rintro e w2 ⟨rfl, rfl⟩
 go_wp2_with fail
 refine (word_yes g line _ (afterF t r) t.field W2 C1.out.blk HNF.out (by have := HL.out; simp at this ⊢; omega)).mono ?_; rintro e w3 ⟨rfl, rfl⟩
 have C2 := Lib.hid (C1.out.to (t' := afterF t r))
 have K3 := Lib.hid (K2.out.far (p := ⟨g, 0, none⟩) (show w.heap.size ≠ g by omega) (.string ⟨(afterF t r).toArray⟩))
 obtain ⟨W3, hW3⟩ : ∃ W, W = W2.setCell ⟨g, 0, none⟩ (.string ⟨(afterF t r).toArray⟩) := ⟨_, rfl⟩
 rw [← hW3] at C2 K3 ⊢
 clear hW3 C0 C1 K1 K2 HNF
 go_wp2_with fail
 obtain ⟨W4, hW4⟩ : ∃ W, W = W3.alloc (.cells #[.int .i64 t.field, .int .i64 4294967295, .int .i64 0, .int .i64 0] TTest) := ⟨_, rfl⟩
 obtain ⟨tb, htb⟩ : ∃ tb, tb = W3.heap.size := ⟨_, rfl⟩
 have S4 : Hid (TS w W4 g tb line (afterF t r) t.field 4294967295 0 0) := by
   have b4 : Below W3.heap.size W3 W4 := by rw [hW4]; go_grown
   refine Lib.hid ⟨C2.out.next b4, by rw [hW4, htb]; exact Blk.new _ _ _, K3.out.below b4 K3.out.lt, hglt, by rw [htb]; exact K3.out.lt⟩
 rw [← htb]
 rw [← hW4]
 clear hW4 htb
 obtain ⟨fd, mk, op, vl⟩ := t
 simp only at f1 f2 m1 m2 v1 v2 o1 o2 HL HOK S4 ⊢
 obtain ⟨rest3, hrest3⟩ : ∃ l, l = signNm op ++ (Lib.itoa vl ++ r) := ⟨_, rfl⟩
 have HR3 := Lib.hid hrest3
 have HAF := Lib.hid (show afterF ⟨fd, mk, op, vl⟩ r = maskText mk ++ rest3 by rw [hrest3]; rfl)
 rw [HAF.out] at S4 HL
 have HLM := Lib.hid (show (maskText mk ++ rest3).length ≤ 2000 by have := HL.out; simp at this ⊢; omega)
 have HN3 := Lib.hid (show noDig rest3 by rw [hrest3]; exact sign_noDig ⟨o1, o2⟩)
 clear hrest3
 have x4 := (show _ = some (Value.string ⟨(maskText mk ++ rest3).toArray⟩) from S4.out.cur.blk.cell 0); have z4 := S4.out.cur.blk.frozen 0
 by_cases hm : mk = 4294967295
 case' pos =>
   subst hm
   have e3 : maskText 4294967295 ++ rest3 = rest3 := rfl
   rw [e3] at x4 S4
   refine (skip_no ⟨rest3.toArray⟩ ⟨#[38]⟩ g 0 W4 x4 z4 (by
     rintro ⟨l, hl⟩
     have hl' : rest3 = 38 :: l := hl
     rw [HR3.out] at hl'
     obtain rfl | rfl | rfl : op = 1 ∨ op = 2 ∨ op = 3 := by omega
     all_goals simp [signNm] at hl')).mono ?_; rintro e w5 ⟨rfl, rfl⟩
   have S5 := Lib.hid (S4.out.to (t' := rest3))
   obtain ⟨W5, hW5⟩ : ∃ W, W = W4.setCell ⟨g, 0, none⟩ (.string ⟨rest3.toArray⟩) := ⟨_, rfl⟩
   rw [← hW5] at S5 ⊢
   clear hW5 x4 z4 S4
   go_wp2_with fail
 case' neg =>
   have e3 : maskText mk ++ rest3 = 38 :: (Lib.itoa mk ++ rest3) := by unfold maskText; rw [if_neg hm]; rfl
   rw [e3] at x4 S4 HLM
   refine (skip_yes ⟨(38 :: (Lib.itoa mk ++ rest3)).toArray⟩ ⟨#[38]⟩ (Lib.itoa mk ++ rest3) g 0 W4 x4 z4 rfl).mono ?_; rintro e w5 ⟨rfl, rfl⟩
   have S4b := Lib.hid (S4.out.to (t' := Lib.itoa mk ++ rest3))
   obtain ⟨W4b, hW4b⟩ : ∃ W, W = W4.setCell ⟨g, 0, none⟩ (.string ⟨(Lib.itoa mk ++ rest3).toArray⟩) := ⟨_, rfl⟩
   rw [← hW4b] at S4b ⊢
   clear hW4b x4 z4 S4
   go_wp2_with fail
   refine (word_yes g line _ rest3 mk W4b S4b.out.cur.blk ⟨by omega, rfl, HN3.out⟩ (by have := HLM.out; simp at this ⊢; omega)).mono ?_; rintro e w6 ⟨rfl, rfl⟩
   have S4c := Lib.hid (S4b.out.to (t' := rest3))
   obtain ⟨W4c, hW4c⟩ : ∃ W, W = W4b.setCell ⟨g, 0, none⟩ (.string ⟨rest3.toArray⟩) := ⟨_, rfl⟩
   rw [← hW4c] at S4c ⊢
   clear hW4c
   have S5 := Lib.hid (S4c.out.set 1 mk fd mk 0 0 rfl)
   have y1 := (show _ = some (Value.int .i64 4294967295) from S4c.out.test.cell 1); have zz1 := S4c.out.test.frozen 1
   have hmd : (mk != 4294967295) = true := by simpa using hm
   go_wp2_with fail
   refine (need_yes _ _).mono ?_; rintro e w7 ⟨rfl, rfl⟩
   obtain ⟨W5, hW5⟩ : ∃ W, W = W4c.setCell ⟨tb, 1, none⟩ (.int .i64 mk) := ⟨_, rfl⟩
   rw [← hW5] at S5 ⊢
   clear hW5 S4b S4c y1 zz1 hmd e3
   go_wp2_with fail
 · have HL3 := Lib.hid (show rest3.length ≤ 2000 by have := HLM.out; simp at this ⊢; omega)
   go_loopw [4] (fun i wr => ∃ k : Int, 1 ≤ k ∧ k ≤ op ∧ i = .int .i64 k ∧ Hid (TS w wr g tb line rest3 fd mk 0 0)) (fun i _ => (op - intOf i).toNat)
   case atStart => exact ⟨1, by omega, by omega, rfl, S5⟩
   case round =>
     obtain ⟨k, hk1, hk2, rfl, HS⟩ := hrel
     have hk3 : k ≤ 3 := by omega
     have y0 := (show _ = some (Value.string ⟨rest3.toArray⟩) from HS.out.cur.blk.cell 0); have q0 := HS.out.cur.blk.frozen 0
     by_cases hko : k = op
     · subst hko
       go_wp2_with fail
       refine wp_region_rel (signT g k true) (fun _ => none) (fun L _ w' => (L 5 = false → TS w w' g tb line rest3 fd mk 0 0) ∧ (L 5 = true → TS w w' g tb line (Lib.itoa vl ++ r) fd mk 0 0)) (fun _ _ _ => True) (by kernel_rfl) (by kernel_rfl) ⟨fun _ => HS.out.next (Below.refl _ _).drew, fun h => by cases h⟩ (fun _ j _ _ _ _ _ _ _ hT => signT_keep j hT) ?_
       refine wpRel_step [] (by kernel_rfl) (fun L kk w9 vals hk hw hun hcl hdl hT => ?_) ?_
       · have HW := Lib.hid hw; have HUN := Lib.hid hun; have HCL := Lib.hid hcl
         clear hw hun hcl hdl hT
         simp only [fillR, Act.put, List.setIfInBounds_toArray, List.set_cons_succ, List.set_cons_zero]
         go_wp2
         exact ⟨_, rfl, rfl, ⟨fun h => HW.out.1 ((putL_ne (by decide)).symm.trans h), fun h => HW.out.2 ((putL_ne (by decide)).symm.trans h)⟩, trivial, fun _ => rfl⟩
       refine wpRel_step [30] (by kernel_rfl) (fun L kk w9 vals hk hw hun hcl hdl hT => ?_) ?_
       · have t0 := hT 0 30 (by kernel_rfl) (.inl rfl)
         have HW := Lib.hid hw; have HUN := Lib.hid hun; have HCL := Lib.hid hcl
         clear hw hun hcl hdl hT
         simp only [fillR, Act.put, List.setIfInBounds_toArray, List.set_cons_succ, List.set_cons_zero]
         rw [show vals 30 = Value.pointer (some ⟨g, 0, none⟩) from t0]
         clear t0
         go_wp2
         exact ⟨_, rfl, rfl, ⟨fun h => HW.out.1 ((putL_ne (by decide)).symm.trans h), fun h => HW.out.2 ((putL_ne (by decide)).symm.trans h)⟩, trivial, fun _ => rfl⟩
       refine wpRel_step [31] (by kernel_rfl) (fun L kk w9 vals hk hw hun hcl hdl hT => ?_) ?_
       · have t0 := hT 1 31 (by kernel_rfl) (.inl rfl)
         have HW := Lib.hid hw; have HUN := Lib.hid hun; have HCL := Lib.hid hcl
         clear hw hun hcl hdl hT
         simp only [fillR, Act.put, List.setIfInBounds_toArray, List.set_cons_succ, List.set_cons_zero]
         rw [show vals 31 = Value.pointer (some ⟨g, 0, none⟩) from t0]
         clear t0
         go_wp2
         exact ⟨_, rfl, rfl, ⟨fun h => HW.out.1 ((putL_ne (by decide)).symm.trans h), fun h => HW.out.2 ((putL_ne (by decide)).symm.trans h)⟩, trivial, fun _ => rfl⟩
       refine wpRel_step [] (by kernel_rfl) (fun L kk w9 vals hk hw hun hcl hdl hT => ?_) ?_
       · have HW := Lib.hid hw; have HUN := Lib.hid hun; have HCL := Lib.hid hcl
         clear hw hun hcl hdl hT
         simp only [fillR, Act.put, List.setIfInBounds_toArray, List.set_cons_succ, List.set_cons_zero]
         go_wp2
         exact ⟨_, rfl, rfl, ⟨fun h => HW.out.1 ((putL_ne (by decide)).symm.trans h), fun h => HW.out.2 ((putL_ne (by decide)).symm.trans h)⟩, trivial, fun _ => rfl⟩
       refine wpRel_step [33] (by kernel_rfl) (fun L kk w9 vals hk hw hun hcl hdl hT => ?_) ?_
       · have t0 := hT 3 33 (by kernel_rfl) (.inl rfl)
         have HW := Lib.hid hw; have HUN := Lib.hid hun; have HCL := Lib.hid hcl
         clear hw hun hcl hdl hT
         simp only [fillR, Act.put, List.setIfInBounds_toArray, List.set_cons_succ, List.set_cons_zero]
         rw [show vals 33 = Value.int .i64 k from t0]
         clear t0
         go_wp2_with (go_at_call 114; refine (sign_any k _).mono ?_; rintro e w8 ⟨rfl, rfl⟩)
         exact ⟨_, rfl, rfl, ⟨fun h => HW.out.1 ((putL_ne (by decide)).symm.trans h), fun h => HW.out.2 ((putL_ne (by decide)).symm.trans h)⟩, trivial, fun _ => rfl⟩
       refine wpRel_step [32, 34] (by kernel_rfl) (fun L kk w9 vals hk hw hun hcl hdl hT => ?_) ?_
       · have t0 := hT 2 32 (by kernel_rfl) (.inl rfl)
         have t1 := hT 4 34 (by kernel_rfl) (.inl rfl)
         have HW := Lib.hid hw; have HUN := Lib.hid hun; have HCL := Lib.hid hcl
         clear hw hun hcl hdl hT
         simp only [fillR, Act.put, List.setIfInBounds_toArray, List.set_cons_succ, List.set_cons_zero]
         rw [show vals 32 = Value.pointer (some ⟨g, 0, none⟩) from t0, show vals 34 = Value.string ⟨(signNm k).toArray⟩ from t1]
         clear t0
         clear t1
         have HT := Lib.hid (HW.out.1 HUN.out)
         have y0 := (show _ = some (Value.string ⟨rest3.toArray⟩) from HT.out.cur.blk.cell 0); have q0 := HT.out.cur.blk.frozen 0
         have HT2 := Lib.hid (HT.out.to (t' := (Lib.itoa vl ++ r)))
         go_wp2_with (go_at_call 75; refine (skip_yes ⟨rest3.toArray⟩ ⟨(signNm k).toArray⟩ (Lib.itoa vl ++ r) g 0 w9 y0 q0 HR3.out).mono ?_; rintro e w8 ⟨rfl, rfl⟩)
         exact ⟨_, rfl, rfl, ⟨fun h => by simp [putL] at h, fun _ => HT2.out⟩, trivial, fun _ => rfl⟩
       refine wpRel_end [30, 31, 32, 33, 34, 35] (by kernel_rfl) (fun L w9 vals hl hw hT => ?_)
       have t0 := hT 0 30 (by kernel_rfl) rfl; have t1 := hT 1 31 (by kernel_rfl) rfl; have t2 := hT 2 32 (by kernel_rfl) rfl; have t3 := hT 3 33 (by kernel_rfl) rfl; have t4 := hT 4 34 (by kernel_rfl) rfl; have t5 := hT 5 35 (by kernel_rfl) rfl
       have S6 := Lib.hid (hw.2 (hl 5 (by decide)))
       simp only [fillR, Act.put, List.setIfInBounds_toArray, List.set_cons_succ, List.set_cons_zero]
       rw [show vals 30 = Value.pointer (some ⟨g, 0, none⟩) from t0, show vals 31 = Value.pointer (some ⟨g, 0, none⟩) from t1, show vals 32 = Value.pointer (some ⟨g, 0, none⟩) from t2, show vals 33 = Value.int .i64 k from t3, show vals 34 = Value.string ⟨(signNm k).toArray⟩ from t4, show vals 35 = Value.bool true from t5]
       clear t0 t1 t2 t3 t4 t5 hl hw hT
       have S7 := Lib.hid (S6.out.set 2 k fd mk k 0 rfl)
       have y2 := (show _ = some (Value.int .i64 0) from S6.out.test.cell 2); have q2 := S6.out.test.frozen 2
       have hk0 : (k != 0) = true := by simp; omega
       obtain ⟨W6, hW6⟩ : ∃ W, W = w9.setCell ⟨tb, 2, none⟩ (.int .i64 k) := ⟨_, rfl⟩
       rw [← hW6] at S7
       have y3 := (show W6.cell? ⟨tb, 2, none⟩ = some (Value.int .i64 k) from S7.out.test.cell 2)
       have HW6 := Lib.hid hW6
       clear hW6
       go_wp2_with (rw [← HW6.out])
       refine (need_yes _ _).mono ?_; rintro e wn ⟨rfl, rfl⟩
       go_wp2_with fail
       refine (word_yes g line _ r vl W6 S7.out.cur.blk ⟨by omega, rfl, HR.out⟩ (by have := HL3.out; rw [HR3.out] at this; simp at this ⊢; omega)).mono ?_; rintro e wn ⟨rfl, rfl⟩
       have S8 := Lib.hid (S7.out.to (t' := r))
       obtain ⟨W7, hW7⟩ : ∃ W, W = W6.setCell ⟨g, 0, none⟩ (.string ⟨r.toArray⟩) := ⟨_, rfl⟩
       rw [← hW7] at S8 ⊢
       clear hW7 y2 q2 y3
       have S9 := Lib.hid (S8.out.set 3 vl fd mk k vl rfl)
       have y3 := (show _ = some (Value.int .i64 0) from S8.out.test.cell 3); have q3 := S8.out.test.frozen 3
       obtain ⟨W8, hW8⟩ : ∃ W, W = W7.setCell ⟨tb, 3, none⟩ (.int .i64 vl) := ⟨_, rfl⟩
       rw [← hW8] at S9
       have HW8 := Lib.hid hW8
       have t0 := (show W8.cell? ⟨tb, 0, none⟩ = some (Value.int .i64 fd) from S9.out.test.cell 0); have t1 := (show W8.cell? ⟨tb, 1, none⟩ = some (Value.int .i64 mk) from S9.out.test.cell 1); have t2 := (show W8.cell? ⟨tb, 2, none⟩ = some (Value.int .i64 k) from S9.out.test.cell 2); have t3 := (show W8.cell? ⟨tb, 3, none⟩ = some (Value.int .i64 vl) from S9.out.test.cell 3)
       clear hW8
       go_wp2_with (rw [← HW8.out])
       refine (testOk_any ⟨fd, mk, k, vl⟩ _).mono ?_; rintro e w12 ⟨rfl, hb12⟩
       rw [HOK.out]
       have S10 := Lib.hid (S9.out.next hb12)
       clear hb12 t0 t1 t2 t3 y3 q3
       have t0 := (show w12.cell? ⟨tb, 0, none⟩ = some (Value.int .i64 fd) from S10.out.test.cell 0); have t1 := (show w12.cell? ⟨tb, 1, none⟩ = some (Value.int .i64 mk) from S10.out.test.cell 1); have t2 := (show w12.cell? ⟨tb, 2, none⟩ = some (Value.int .i64 k) from S10.out.test.cell 2); have t3 := (show w12.cell? ⟨tb, 3, none⟩ = some (Value.int .i64 vl) from S10.out.test.cell 3)
       have r0 := (show w12.cell? ⟨w.heap.size, 0, none⟩ = some (Value.int .i64 0) from S10.out.res.cell 0); have r1 := (show w12.cell? ⟨w.heap.size, 1, none⟩ = some (Value.int .i64 0) from S10.out.res.cell 1); have r2 := (show w12.cell? ⟨w.heap.size, 2, none⟩ = some (Value.int .i64 0) from S10.out.res.cell 2); have r3 := (show w12.cell? ⟨w.heap.size, 3, none⟩ = some (Value.int .i64 0) from S10.out.res.cell 3)
       have rf0 := S10.out.res.frozen 0; have rf1 := S10.out.res.frozen 1; have rf2 := S10.out.res.frozen 2; have rf3 := S10.out.res.frozen 3
       have HFIN := Lib.hid ((((S10.out.cur.result (Nat.le_refl _) hglt 0 (.int .i64 fd)).result (Nat.le_refl _) hglt 1 (.int .i64 mk)).result (Nat.le_refl _) hglt 2 (.int .i64 k)).result (Nat.le_refl _) hglt 3 (.int .i64 vl))
       go_wp2_with fail
       refine (need_yes _ _).mono ?_; rintro e wn ⟨rfl, rfl⟩
       go_wp2
       exact bodyPost_ret (v := .agg #[.int .i64 fd, .int .i64 mk, .int .i64 k, .int .i64 vl]) (by simp [results, Tryz.results77, go_sem, r0, r1, r2, r3]) rfl ⟨rfl, HFIN.out⟩
     · go_wp2_with fail
       refine wp_region_rel (signT g k false) (fun _ => none) (fun L _ w' => (L 5 = false → TS w w' g tb line rest3 fd mk 0 0) ∧ (L 5 = true → TS w w' g tb line rest3 fd mk 0 0)) (fun _ _ _ => True) (by kernel_rfl) (by kernel_rfl) ⟨fun _ => HS.out.next (Below.refl _ _).drew, fun h => by cases h⟩ (fun _ j _ _ _ _ _ _ _ hT => signT_keep j hT) ?_
       refine wpRel_step [] (by kernel_rfl) (fun L kk w9 vals hk hw hun hcl hdl hT => ?_) ?_
       · have HW := Lib.hid hw; have HUN := Lib.hid hun; have HCL := Lib.hid hcl
         clear hw hun hcl hdl hT
         simp only [fillR, Act.put, List.setIfInBounds_toArray, List.set_cons_succ, List.set_cons_zero]
         go_wp2
         exact ⟨_, rfl, rfl, ⟨fun h => HW.out.1 ((putL_ne (by decide)).symm.trans h), fun h => HW.out.2 ((putL_ne (by decide)).symm.trans h)⟩, trivial, fun _ => rfl⟩
       refine wpRel_step [30] (by kernel_rfl) (fun L kk w9 vals hk hw hun hcl hdl hT => ?_) ?_
       · have t0 := hT 0 30 (by kernel_rfl) (.inl rfl)
         have HW := Lib.hid hw; have HUN := Lib.hid hun; have HCL := Lib.hid hcl
         clear hw hun hcl hdl hT
         simp only [fillR, Act.put, List.setIfInBounds_toArray, List.set_cons_succ, List.set_cons_zero]
         rw [show vals 30 = Value.pointer (some ⟨g, 0, none⟩) from t0]
         clear t0
         go_wp2
         exact ⟨_, rfl, rfl, ⟨fun h => HW.out.1 ((putL_ne (by decide)).symm.trans h), fun h => HW.out.2 ((putL_ne (by decide)).symm.trans h)⟩, trivial, fun _ => rfl⟩
       refine wpRel_step [31] (by kernel_rfl) (fun L kk w9 vals hk hw hun hcl hdl hT => ?_) ?_
       · have t0 := hT 1 31 (by kernel_rfl) (.inl rfl)
         have HW := Lib.hid hw; have HUN := Lib.hid hun; have HCL := Lib.hid hcl
         clear hw hun hcl hdl hT
         simp only [fillR, Act.put, List.setIfInBounds_toArray, List.set_cons_succ, List.set_cons_zero]
         rw [show vals 31 = Value.pointer (some ⟨g, 0, none⟩) from t0]
         clear t0
         go_wp2
         exact ⟨_, rfl, rfl, ⟨fun h => HW.out.1 ((putL_ne (by decide)).symm.trans h), fun h => HW.out.2 ((putL_ne (by decide)).symm.trans h)⟩, trivial, fun _ => rfl⟩
       refine wpRel_step [] (by kernel_rfl) (fun L kk w9 vals hk hw hun hcl hdl hT => ?_) ?_
       · have HW := Lib.hid hw; have HUN := Lib.hid hun; have HCL := Lib.hid hcl
         clear hw hun hcl hdl hT
         simp only [fillR, Act.put, List.setIfInBounds_toArray, List.set_cons_succ, List.set_cons_zero]
         go_wp2
         exact ⟨_, rfl, rfl, ⟨fun h => HW.out.1 ((putL_ne (by decide)).symm.trans h), fun h => HW.out.2 ((putL_ne (by decide)).symm.trans h)⟩, trivial, fun _ => rfl⟩
       refine wpRel_step [33] (by kernel_rfl) (fun L kk w9 vals hk hw hun hcl hdl hT => ?_) ?_
       · have t0 := hT 3 33 (by kernel_rfl) (.inl rfl)
         have HW := Lib.hid hw; have HUN := Lib.hid hun; have HCL := Lib.hid hcl
         clear hw hun hcl hdl hT
         simp only [fillR, Act.put, List.setIfInBounds_toArray, List.set_cons_succ, List.set_cons_zero]
         rw [show vals 33 = Value.int .i64 k from t0]
         clear t0
         go_wp2_with (go_at_call 114; refine (sign_any k _).mono ?_; rintro e w8 ⟨rfl, rfl⟩)
         exact ⟨_, rfl, rfl, ⟨fun h => HW.out.1 ((putL_ne (by decide)).symm.trans h), fun h => HW.out.2 ((putL_ne (by decide)).symm.trans h)⟩, trivial, fun _ => rfl⟩
       refine wpRel_step [32, 34] (by kernel_rfl) (fun L kk w9 vals hk hw hun hcl hdl hT => ?_) ?_
       · have t0 := hT 2 32 (by kernel_rfl) (.inl rfl)
         have t1 := hT 4 34 (by kernel_rfl) (.inl rfl)
         have HW := Lib.hid hw; have HUN := Lib.hid hun; have HCL := Lib.hid hcl
         clear hw hun hcl hdl hT
         simp only [fillR, Act.put, List.setIfInBounds_toArray, List.set_cons_succ, List.set_cons_zero]
         rw [show vals 32 = Value.pointer (some ⟨g, 0, none⟩) from t0, show vals 34 = Value.string ⟨(signNm k).toArray⟩ from t1]
         clear t0
         clear t1
         have HT := Lib.hid (HW.out.1 HUN.out)
         have y0 := (show _ = some (Value.string ⟨rest3.toArray⟩) from HT.out.cur.blk.cell 0); have q0 := HT.out.cur.blk.frozen 0
         have HT2 := Lib.hid (HT.out.to (t' := rest3))
         go_wp2_with (go_at_call 75; refine (skip_no ⟨rest3.toArray⟩ ⟨(signNm k).toArray⟩ g 0 w9 y0 q0 (by show ¬ ∃ t, rest3 = signNm k ++ t; rw [HR3.out]; exact sign_other ⟨o1, o2⟩ ⟨hk1, by omega⟩)).mono ?_; rintro e w8 ⟨rfl, rfl⟩)
         exact ⟨_, rfl, rfl, ⟨fun h => by simp [putL] at h, fun _ => HT2.out⟩, trivial, fun _ => rfl⟩
       refine wpRel_end [30, 31, 32, 33, 34, 35] (by kernel_rfl) (fun L w9 vals hl hw hT => ?_)
       have t0 := hT 0 30 (by kernel_rfl) rfl; have t1 := hT 1 31 (by kernel_rfl) rfl; have t2 := hT 2 32 (by kernel_rfl) rfl; have t3 := hT 3 33 (by kernel_rfl) rfl; have t4 := hT 4 34 (by kernel_rfl) rfl; have t5 := hT 5 35 (by kernel_rfl) rfl
       have S6 := Lib.hid (hw.2 (hl 5 (by decide)))
       simp only [fillR, Act.put, List.setIfInBounds_toArray, List.set_cons_succ, List.set_cons_zero]
       rw [show vals 30 = Value.pointer (some ⟨g, 0, none⟩) from t0, show vals 31 = Value.pointer (some ⟨g, 0, none⟩) from t1, show vals 32 = Value.pointer (some ⟨g, 0, none⟩) from t2, show vals 33 = Value.int .i64 k from t3, show vals 34 = Value.string ⟨(signNm k).toArray⟩ from t4, show vals 35 = Value.bool false from t5]
       clear t0 t1 t2 t3 t4 t5 hl hw hT
       clear S5
       go_wp2
       exact ⟨⟨k + 1, by omega, by omega, by go_num, S6⟩, by simp [intOf]; omega⟩
 · have HL3 := Lib.hid (show rest3.length ≤ 2000 by have := HLM.out; simp at this ⊢; omega)
   go_loopw [4] (fun i wr => ∃ k : Int, 1 ≤ k ∧ k ≤ op ∧ i = .int .i64 k ∧ Hid (TS w wr g tb line rest3 fd 4294967295 0 0)) (fun i _ => (op - intOf i).toNat)
   case atStart => exact ⟨1, by omega, by omega, rfl, S5⟩
   case round =>
     obtain ⟨k, hk1, hk2, rfl, HS⟩ := hrel
     have hk3 : k ≤ 3 := by omega
     have y0 := (show _ = some (Value.string ⟨rest3.toArray⟩) from HS.out.cur.blk.cell 0); have q0 := HS.out.cur.blk.frozen 0
     by_cases hko : k = op
     · subst hko
       go_wp2_with fail
       refine wp_region_rel (signT g k true) (fun _ => none) (fun L _ w' => (L 5 = false → TS w w' g tb line rest3 fd 4294967295 0 0) ∧ (L 5 = true → TS w w' g tb line (Lib.itoa vl ++ r) fd 4294967295 0 0)) (fun _ _ _ => True) (by kernel_rfl) (by kernel_rfl) ⟨fun _ => HS.out.next (Below.refl _ _).drew, fun h => by cases h⟩ (fun _ j _ _ _ _ _ _ _ hT => signT_keep j hT) ?_
       refine wpRel_step [] (by kernel_rfl) (fun L kk w9 vals hk hw hun hcl hdl hT => ?_) ?_
       · have HW := Lib.hid hw; have HUN := Lib.hid hun; have HCL := Lib.hid hcl
         clear hw hun hcl hdl hT
         simp only [fillR, Act.put, List.setIfInBounds_toArray, List.set_cons_succ, List.set_cons_zero]
         go_wp2
         exact ⟨_, rfl, rfl, ⟨fun h => HW.out.1 ((putL_ne (by decide)).symm.trans h), fun h => HW.out.2 ((putL_ne (by decide)).symm.trans h)⟩, trivial, fun _ => rfl⟩
       refine wpRel_step [30] (by kernel_rfl) (fun L kk w9 vals hk hw hun hcl hdl hT => ?_) ?_
       · have t0 := hT 0 30 (by kernel_rfl) (.inl rfl)
         have HW := Lib.hid hw; have HUN := Lib.hid hun; have HCL := Lib.hid hcl
         clear hw hun hcl hdl hT
         simp only [fillR, Act.put, List.setIfInBounds_toArray, List.set_cons_succ, List.set_cons_zero]
         rw [show vals 30 = Value.pointer (some ⟨g, 0, none⟩) from t0]
         clear t0
         go_wp2
         exact ⟨_, rfl, rfl, ⟨fun h => HW.out.1 ((putL_ne (by decide)).symm.trans h), fun h => HW.out.2 ((putL_ne (by decide)).symm.trans h)⟩, trivial, fun _ => rfl⟩
       refine wpRel_step [31] (by kernel_rfl) (fun L kk w9 vals hk hw hun hcl hdl hT => ?_) ?_
       · have t0 := hT 1 31 (by kernel_rfl) (.inl rfl)
         have HW := Lib.hid hw; have HUN := Lib.hid hun; have HCL := Lib.hid hcl
         clear hw hun hcl hdl hT
         simp only [fillR, Act.put, List.setIfInBounds_toArray, List.set_cons_succ, List.set_cons_zero]
         rw [show vals 31 = Value.pointer (some ⟨g, 0, none⟩) from t0]
         clear t0
         go_wp2
         exact ⟨_, rfl, rfl, ⟨fun h => HW.out.1 ((putL_ne (by decide)).symm.trans h), fun h => HW.out.2 ((putL_ne (by decide)).symm.trans h)⟩, trivial, fun _ => rfl⟩
       refine wpRel_step [] (by kernel_rfl) (fun L kk w9 vals hk hw hun hcl hdl hT => ?_) ?_
       · have HW := Lib.hid hw; have HUN := Lib.hid hun; have HCL := Lib.hid hcl
         clear hw hun hcl hdl hT
         simp only [fillR, Act.put, List.setIfInBounds_toArray, List.set_cons_succ, List.set_cons_zero]
         go_wp2
         exact ⟨_, rfl, rfl, ⟨fun h => HW.out.1 ((putL_ne (by decide)).symm.trans h), fun h => HW.out.2 ((putL_ne (by decide)).symm.trans h)⟩, trivial, fun _ => rfl⟩
       refine wpRel_step [33] (by kernel_rfl) (fun L kk w9 vals hk hw hun hcl hdl hT => ?_) ?_
       · have t0 := hT 3 33 (by kernel_rfl) (.inl rfl)
         have HW := Lib.hid hw; have HUN := Lib.hid hun; have HCL := Lib.hid hcl
         clear hw hun hcl hdl hT
         simp only [fillR, Act.put, List.setIfInBounds_toArray, List.set_cons_succ, List.set_cons_zero]
         rw [show vals 33 = Value.int .i64 k from t0]
         clear t0
         go_wp2_with (go_at_call 114; refine (sign_any k _).mono ?_; rintro e w8 ⟨rfl, rfl⟩)
         exact ⟨_, rfl, rfl, ⟨fun h => HW.out.1 ((putL_ne (by decide)).symm.trans h), fun h => HW.out.2 ((putL_ne (by decide)).symm.trans h)⟩, trivial, fun _ => rfl⟩
       refine wpRel_step [32, 34] (by kernel_rfl) (fun L kk w9 vals hk hw hun hcl hdl hT => ?_) ?_
       · have t0 := hT 2 32 (by kernel_rfl) (.inl rfl)
         have t1 := hT 4 34 (by kernel_rfl) (.inl rfl)
         have HW := Lib.hid hw; have HUN := Lib.hid hun; have HCL := Lib.hid hcl
         clear hw hun hcl hdl hT
         simp only [fillR, Act.put, List.setIfInBounds_toArray, List.set_cons_succ, List.set_cons_zero]
         rw [show vals 32 = Value.pointer (some ⟨g, 0, none⟩) from t0, show vals 34 = Value.string ⟨(signNm k).toArray⟩ from t1]
         clear t0
         clear t1
         have HT := Lib.hid (HW.out.1 HUN.out)
         have y0 := (show _ = some (Value.string ⟨rest3.toArray⟩) from HT.out.cur.blk.cell 0); have q0 := HT.out.cur.blk.frozen 0
         have HT2 := Lib.hid (HT.out.to (t' := (Lib.itoa vl ++ r)))
         go_wp2_with (go_at_call 75; refine (skip_yes ⟨rest3.toArray⟩ ⟨(signNm k).toArray⟩ (Lib.itoa vl ++ r) g 0 w9 y0 q0 HR3.out).mono ?_; rintro e w8 ⟨rfl, rfl⟩)
         exact ⟨_, rfl, rfl, ⟨fun h => by simp [putL] at h, fun _ => HT2.out⟩, trivial, fun _ => rfl⟩
       refine wpRel_end [30, 31, 32, 33, 34, 35] (by kernel_rfl) (fun L w9 vals hl hw hT => ?_)
       have t0 := hT 0 30 (by kernel_rfl) rfl; have t1 := hT 1 31 (by kernel_rfl) rfl; have t2 := hT 2 32 (by kernel_rfl) rfl; have t3 := hT 3 33 (by kernel_rfl) rfl; have t4 := hT 4 34 (by kernel_rfl) rfl; have t5 := hT 5 35 (by kernel_rfl) rfl
       have S6 := Lib.hid (hw.2 (hl 5 (by decide)))
       simp only [fillR, Act.put, List.setIfInBounds_toArray, List.set_cons_succ, List.set_cons_zero]
       rw [show vals 30 = Value.pointer (some ⟨g, 0, none⟩) from t0, show vals 31 = Value.pointer (some ⟨g, 0, none⟩) from t1, show vals 32 = Value.pointer (some ⟨g, 0, none⟩) from t2, show vals 33 = Value.int .i64 k from t3, show vals 34 = Value.string ⟨(signNm k).toArray⟩ from t4, show vals 35 = Value.bool true from t5]
       clear t0 t1 t2 t3 t4 t5 hl hw hT
       have S7 := Lib.hid (S6.out.set 2 k fd 4294967295 k 0 rfl)
       have y2 := (show _ = some (Value.int .i64 0) from S6.out.test.cell 2); have q2 := S6.out.test.frozen 2
       have hk0 : (k != 0) = true := by simp; omega
       obtain ⟨W6, hW6⟩ : ∃ W, W = w9.setCell ⟨tb, 2, none⟩ (.int .i64 k) := ⟨_, rfl⟩
       rw [← hW6] at S7
       have y3 := (show W6.cell? ⟨tb, 2, none⟩ = some (Value.int .i64 k) from S7.out.test.cell 2)
       have HW6 := Lib.hid hW6
       clear hW6
       go_wp2_with (rw [← HW6.out])
       refine (need_yes _ _).mono ?_; rintro e wn ⟨rfl, rfl⟩
       go_wp2_with fail
       refine (word_yes g line _ r vl W6 S7.out.cur.blk ⟨by omega, rfl, HR.out⟩ (by have := HL3.out; rw [HR3.out] at this; simp at this ⊢; omega)).mono ?_; rintro e wn ⟨rfl, rfl⟩
       have S8 := Lib.hid (S7.out.to (t' := r))
       obtain ⟨W7, hW7⟩ : ∃ W, W = W6.setCell ⟨g, 0, none⟩ (.string ⟨r.toArray⟩) := ⟨_, rfl⟩
       rw [← hW7] at S8 ⊢
       clear hW7 y2 q2 y3
       have S9 := Lib.hid (S8.out.set 3 vl fd 4294967295 k vl rfl)
       have y3 := (show _ = some (Value.int .i64 0) from S8.out.test.cell 3); have q3 := S8.out.test.frozen 3
       obtain ⟨W8, hW8⟩ : ∃ W, W = W7.setCell ⟨tb, 3, none⟩ (.int .i64 vl) := ⟨_, rfl⟩
       rw [← hW8] at S9
       have HW8 := Lib.hid hW8
       have t0 := (show W8.cell? ⟨tb, 0, none⟩ = some (Value.int .i64 fd) from S9.out.test.cell 0); have t1 := (show W8.cell? ⟨tb, 1, none⟩ = some (Value.int .i64 4294967295) from S9.out.test.cell 1); have t2 := (show W8.cell? ⟨tb, 2, none⟩ = some (Value.int .i64 k) from S9.out.test.cell 2); have t3 := (show W8.cell? ⟨tb, 3, none⟩ = some (Value.int .i64 vl) from S9.out.test.cell 3)
       clear hW8
       go_wp2_with (rw [← HW8.out])
       refine (testOk_any ⟨fd, 4294967295, k, vl⟩ _).mono ?_; rintro e w12 ⟨rfl, hb12⟩
       rw [HOK.out]
       have S10 := Lib.hid (S9.out.next hb12)
       clear hb12 t0 t1 t2 t3 y3 q3
       have t0 := (show w12.cell? ⟨tb, 0, none⟩ = some (Value.int .i64 fd) from S10.out.test.cell 0); have t1 := (show w12.cell? ⟨tb, 1, none⟩ = some (Value.int .i64 4294967295) from S10.out.test.cell 1); have t2 := (show w12.cell? ⟨tb, 2, none⟩ = some (Value.int .i64 k) from S10.out.test.cell 2); have t3 := (show w12.cell? ⟨tb, 3, none⟩ = some (Value.int .i64 vl) from S10.out.test.cell 3)
       have r0 := (show w12.cell? ⟨w.heap.size, 0, none⟩ = some (Value.int .i64 0) from S10.out.res.cell 0); have r1 := (show w12.cell? ⟨w.heap.size, 1, none⟩ = some (Value.int .i64 0) from S10.out.res.cell 1); have r2 := (show w12.cell? ⟨w.heap.size, 2, none⟩ = some (Value.int .i64 0) from S10.out.res.cell 2); have r3 := (show w12.cell? ⟨w.heap.size, 3, none⟩ = some (Value.int .i64 0) from S10.out.res.cell 3)
       have rf0 := S10.out.res.frozen 0; have rf1 := S10.out.res.frozen 1; have rf2 := S10.out.res.frozen 2; have rf3 := S10.out.res.frozen 3
       have HFIN := Lib.hid ((((S10.out.cur.result (Nat.le_refl _) hglt 0 (.int .i64 fd)).result (Nat.le_refl _) hglt 1 (.int .i64 4294967295)).result (Nat.le_refl _) hglt 2 (.int .i64 k)).result (Nat.le_refl _) hglt 3 (.int .i64 vl))
       go_wp2_with fail
       refine (need_yes _ _).mono ?_; rintro e wn ⟨rfl, rfl⟩
       go_wp2
       exact bodyPost_ret (v := .agg #[.int .i64 fd, .int .i64 4294967295, .int .i64 k, .int .i64 vl]) (by simp [results, Tryz.results77, go_sem, r0, r1, r2, r3]) rfl ⟨rfl, HFIN.out⟩
     · go_wp2_with fail
       refine wp_region_rel (signT g k false) (fun _ => none) (fun L _ w' => (L 5 = false → TS w w' g tb line rest3 fd 4294967295 0 0) ∧ (L 5 = true → TS w w' g tb line rest3 fd 4294967295 0 0)) (fun _ _ _ => True) (by kernel_rfl) (by kernel_rfl) ⟨fun _ => HS.out.next (Below.refl _ _).drew, fun h => by cases h⟩ (fun _ j _ _ _ _ _ _ _ hT => signT_keep j hT) ?_
       refine wpRel_step [] (by kernel_rfl) (fun L kk w9 vals hk hw hun hcl hdl hT => ?_) ?_
       · have HW := Lib.hid hw; have HUN := Lib.hid hun; have HCL := Lib.hid hcl
         clear hw hun hcl hdl hT
         simp only [fillR, Act.put, List.setIfInBounds_toArray, List.set_cons_succ, List.set_cons_zero]
         go_wp2
         exact ⟨_, rfl, rfl, ⟨fun h => HW.out.1 ((putL_ne (by decide)).symm.trans h), fun h => HW.out.2 ((putL_ne (by decide)).symm.trans h)⟩, trivial, fun _ => rfl⟩
       refine wpRel_step [30] (by kernel_rfl) (fun L kk w9 vals hk hw hun hcl hdl hT => ?_) ?_
       · have t0 := hT 0 30 (by kernel_rfl) (.inl rfl)
         have HW := Lib.hid hw; have HUN := Lib.hid hun; have HCL := Lib.hid hcl
         clear hw hun hcl hdl hT
         simp only [fillR, Act.put, List.setIfInBounds_toArray, List.set_cons_succ, List.set_cons_zero]
         rw [show vals 30 = Value.pointer (some ⟨g, 0, none⟩) from t0]
         clear t0
         go_wp2
         exact ⟨_, rfl, rfl, ⟨fun h => HW.out.1 ((putL_ne (by decide)).symm.trans h), fun h => HW.out.2 ((putL_ne (by decide)).symm.trans h)⟩, trivial, fun _ => rfl⟩
       refine wpRel_step [31] (by kernel_rfl) (fun L kk w9 vals hk hw hun hcl hdl hT => ?_) ?_
       · have t0 := hT 1 31 (by kernel_rfl) (.inl rfl)
         have HW := Lib.hid hw; have HUN := Lib.hid hun; have HCL := Lib.hid hcl
         clear hw hun hcl hdl hT
         simp only [fillR, Act.put, List.setIfInBounds_toArray, List.set_cons_succ, List.set_cons_zero]
         rw [show vals 31 = Value.pointer (some ⟨g, 0, none⟩) from t0]
         clear t0
         go_wp2
         exact ⟨_, rfl, rfl, ⟨fun h => HW.out.1 ((putL_ne (by decide)).symm.trans h), fun h => HW.out.2 ((putL_ne (by decide)).symm.trans h)⟩, trivial, fun _ => rfl⟩
       refine wpRel_step [] (by kernel_rfl) (fun L kk w9 vals hk hw hun hcl hdl hT => ?_) ?_
       · have HW := Lib.hid hw; have HUN := Lib.hid hun; have HCL := Lib.hid hcl
         clear hw hun hcl hdl hT
         simp only [fillR, Act.put, List.setIfInBounds_toArray, List.set_cons_succ, List.set_cons_zero]
         go_wp2
         exact ⟨_, rfl, rfl, ⟨fun h => HW.out.1 ((putL_ne (by decide)).symm.trans h), fun h => HW.out.2 ((putL_ne (by decide)).symm.trans h)⟩, trivial, fun _ => rfl⟩
       refine wpRel_step [33] (by kernel_rfl) (fun L kk w9 vals hk hw hun hcl hdl hT => ?_) ?_
       · have t0 := hT 3 33 (by kernel_rfl) (.inl rfl)
         have HW := Lib.hid hw; have HUN := Lib.hid hun; have HCL := Lib.hid hcl
         clear hw hun hcl hdl hT
         simp only [fillR, Act.put, List.setIfInBounds_toArray, List.set_cons_succ, List.set_cons_zero]
         rw [show vals 33 = Value.int .i64 k from t0]
         clear t0
         go_wp2_with (go_at_call 114; refine (sign_any k _).mono ?_; rintro e w8 ⟨rfl, rfl⟩)
         exact ⟨_, rfl, rfl, ⟨fun h => HW.out.1 ((putL_ne (by decide)).symm.trans h), fun h => HW.out.2 ((putL_ne (by decide)).symm.trans h)⟩, trivial, fun _ => rfl⟩
       refine wpRel_step [32, 34] (by kernel_rfl) (fun L kk w9 vals hk hw hun hcl hdl hT => ?_) ?_
       · have t0 := hT 2 32 (by kernel_rfl) (.inl rfl)
         have t1 := hT 4 34 (by kernel_rfl) (.inl rfl)
         have HW := Lib.hid hw; have HUN := Lib.hid hun; have HCL := Lib.hid hcl
         clear hw hun hcl hdl hT
         simp only [fillR, Act.put, List.setIfInBounds_toArray, List.set_cons_succ, List.set_cons_zero]
         rw [show vals 32 = Value.pointer (some ⟨g, 0, none⟩) from t0, show vals 34 = Value.string ⟨(signNm k).toArray⟩ from t1]
         clear t0
         clear t1
         have HT := Lib.hid (HW.out.1 HUN.out)
         have y0 := (show _ = some (Value.string ⟨rest3.toArray⟩) from HT.out.cur.blk.cell 0); have q0 := HT.out.cur.blk.frozen 0
         have HT2 := Lib.hid (HT.out.to (t' := rest3))
         go_wp2_with (go_at_call 75; refine (skip_no ⟨rest3.toArray⟩ ⟨(signNm k).toArray⟩ g 0 w9 y0 q0 (by show ¬ ∃ t, rest3 = signNm k ++ t; rw [HR3.out]; exact sign_other ⟨o1, o2⟩ ⟨hk1, by omega⟩)).mono ?_; rintro e w8 ⟨rfl, rfl⟩)
         exact ⟨_, rfl, rfl, ⟨fun h => by simp [putL] at h, fun _ => HT2.out⟩, trivial, fun _ => rfl⟩
       refine wpRel_end [30, 31, 32, 33, 34, 35] (by kernel_rfl) (fun L w9 vals hl hw hT => ?_)
       have t0 := hT 0 30 (by kernel_rfl) rfl; have t1 := hT 1 31 (by kernel_rfl) rfl; have t2 := hT 2 32 (by kernel_rfl) rfl; have t3 := hT 3 33 (by kernel_rfl) rfl; have t4 := hT 4 34 (by kernel_rfl) rfl; have t5 := hT 5 35 (by kernel_rfl) rfl
       have S6 := Lib.hid (hw.2 (hl 5 (by decide)))
       simp only [fillR, Act.put, List.setIfInBounds_toArray, List.set_cons_succ, List.set_cons_zero]
       rw [show vals 30 = Value.pointer (some ⟨g, 0, none⟩) from t0, show vals 31 = Value.pointer (some ⟨g, 0, none⟩) from t1, show vals 32 = Value.pointer (some ⟨g, 0, none⟩) from t2, show vals 33 = Value.int .i64 k from t3, show vals 34 = Value.string ⟨(signNm k).toArray⟩ from t4, show vals 35 = Value.bool false from t5]
       clear t0 t1 t2 t3 t4 t5 hl hw hT
       clear S5
       go_wp2
       exact ⟨⟨k + 1, by omega, by omega, by go_num, S6⟩, by simp [intOf]; omega⟩
end Go.Proofs.YtdjgicapbpoigaaGreatDoor
