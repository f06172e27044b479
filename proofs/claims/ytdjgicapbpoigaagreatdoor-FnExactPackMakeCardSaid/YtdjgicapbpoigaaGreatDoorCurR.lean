/- impl's cursor on a line that is one: a rule. -/
import Derived.Test.YtdjgicapbpoigaaGreatDoorCurT
import Derived.Test.YtdjgicapbpoigaaGreatDoorDrawPol2
namespace Go.Proofs.YtdjgicapbpoigaaGreatDoor
open Go.RowKit
set_option linter.unusedSimpArgs false
set_option linter.unusedVariables false

theorem doneC_any (s : ByteArray) (g o : Nat) (w : World) (hc : w.cell? ⟨g, o, none⟩ = some (.string s)) :
   Calls Tryz.prog 45 #[.pointer (some ⟨g, o, none⟩)] w fun e w' =>
     e = .returned (.bool s.data.toList.isEmpty) ∧ w = w' := by
 go_enter Tryz.func45, Tryz.ntmps45
 go_wp2
 go_ret
 exact ⟨by rw [← ByteArray.toList_eq]; rfl, rfl⟩
abbrev TRulC : TypeId := 58
structure RB (w wr : World) (g rb : Nat) (line : Int) (t : List UInt8) (vd lo hi : Int) (tv : Value) : Prop where
 cur : Cur w wr g line t
 rule : Blk wr rb TRulC #[.int .i64 vd, .int .i64 lo, .int .i64 hi, tv]
 res : Blk wr w.heap.size TRulC #[.int .i64 0, .int .i64 0, .int .i64 0, .slice none 0 0]
 lt : g < w.heap.size
 after : w.heap.size < rb
theorem RB.to {w wr : World} {g rb : Nat} {line : Int} {t t' : List UInt8} {a b c : Int} {tv : Value} (h : RB w wr g rb line t a b c tv) : RB w (wr.setCell ⟨g, 0, none⟩ (.string ⟨t'.toArray⟩)) g rb line t' a b c tv :=
 ⟨h.cur.to, h.rule.far (show rb ≠ g by have := h.lt; have := h.after; omega) _, h.res.far (show w.heap.size ≠ g by have := h.lt; omega) _, h.lt, h.after⟩
theorem RB.set {w wr : World} {g rb : Nat} {line : Int} {t : List UInt8} {a b c a' b' c' : Int} {tv tv' : Value} (h : RB w wr g rb line t a b c tv) (i : Nat) (x : Value) (e : (#[Value.int .i64 a, .int .i64 b, .int .i64 c, tv]).setIfInBounds i x = #[.int .i64 a', .int .i64 b', .int .i64 c', tv']) : RB w (wr.setCell ⟨rb, i, none⟩ x) g rb line t a' b' c' tv' :=
 ⟨⟨h.cur.blk.far (show g ≠ rb by have := h.lt; have := h.after; omega) _, grown_new h.cur.grown (Nat.le_of_lt h.after) _⟩, by rw [← e]; exact h.rule.set_ i _, h.res.far (show w.heap.size ≠ rb by have := h.after; omega) _, h.lt, h.after⟩
theorem RB.below {w wr w' : World} {g rb B : Nat} {line : Int} {t : List UInt8} {a b c : Int} {tv : Value} (h : RB w wr g rb line t a b c tv) (hb : Below B wr w') (hB : rb < B) : RB w w' g rb line t a b c tv :=
 ⟨⟨h.cur.blk.below hb (by have := h.lt; have := h.after; omega), grown_then h.cur.grown hb (by have := h.after; omega)⟩, h.rule.below hb hB, h.res.below hb (by have := h.after; omega), h.lt, h.after⟩
theorem RB.next {w wr w' : World} {g rb : Nat} {line : Int} {t : List UInt8} {a b c : Int} {tv : Value} (h : RB w wr g rb line t a b c tv) (hb : Below wr.heap.size wr w') : RB w w' g rb line t a b c tv := h.below hb h.rule.lt
theorem RB.call {w wr w' : World} {g rb : Nat} {line : Int} {t t' : List UInt8} {a b c : Int} {tv : Value} (h : RB w wr g rb line t a b c tv) (hc : Cur wr w' g line t') : RB w w' g rb line t' a b c tv :=
 ⟨h.cur.trans hc, h.rule.grown hc.grown (by have := h.lt; have := h.after; intro e; cases e; omega), h.res.grown hc.grown (by have := h.lt; intro e; cases e; omega), h.lt, h.after⟩
def tkR (ts : List Ts) (k : Nat) : List Value := (tsR (ts.take k)).flatten
def tcells (t : Ts) : List Value := [.int .i64 t.field, .int .i64 t.mask, .int .i64 t.op, .int .i64 t.value]
theorem tkR_next {ts : List Ts} {k : Nat} {t : Ts} (h : ts[k]? = some t) : tkR ts (k + 1) = tkR ts k ++ tcells t := by
 unfold tkR
 rw [List.take_add_one, h]
 simp [tsR, tcells]
 rfl
theorem tests_drop {ts : List Ts} {k : Nat} {t : Ts} (h : ts[k]? = some t) : testsText (ts.drop k) = testText t ++ testsText (ts.drop (k + 1)) := by
 rw [List.drop_eq_getElem_cons (List.getElem?_eq_some_iff.1 h).1, (List.getElem?_eq_some_iff.1 h).2]
 simp [testsText]
theorem tests_noDig (ts : List Ts) : noDig (testsText ts) := by
 cases ts with
 | nil => intro x hx; simp [testsText] at hx
 | cons t ts =>
   intro x hx
   simp [testsText, testText] at hx
   subst hx
   rfl
theorem tests_noMinus (ts : List Ts) : ¬ ∃ l, testsText ts = [45] ++ l := by
 rintro ⟨l, h⟩
 cases ts with
 | nil => simp [testsText] at h
 | cons t ts => simp [testsText, testText] at h
def ruleLine (r : Rl) : List UInt8 := headText r ++ testsText r.tests
theorem rule_line (r : Rl) : ruleText r = ruleLine r ++ [10] := rfl
theorem ruleLine_split (r : Rl) : ruleLine r = verdNm r.verdict ++ ([32] ++ (Lib.itoa r.low ++ (highText r.low r.high ++ testsText r.tests))) := by simp [ruleLine, headText]
def appTC (g rb k : Nat) (tv : Value) (t : Ts) (xs : List Value) : Nat → World → Value → Prop
 | 0, _, u => u = .pointer (some ⟨rb, 3, none⟩)
 | 1, _, u => u = tv
 | 2, _, u => u = .pointer (some ⟨g, 0, none⟩)
 | 3, _, u => u = .agg #[.int .i64 t.field, .int .i64 t.mask, .int .i64 t.op, .int .i64 t.value]
 | 4, w, u => ∃ b, u = .slice (some ⟨b, 0, none⟩) 1 1 ∧ Blk w b TTest (tcells t).toArray
 | 5, w, u => w.ownsRow (rb + 1) TTest 4 u (k + 1) (xs ++ tcells t)
 | 6, _, u => u = .pointer (some ⟨rb, 3, none⟩)
 | _, _, _ => True
def appRC (rb i : Nat) (w w' : World) : Prop := (i = 3 ∨ i = 5) ∨ Below w.heap.size w w' ∨ ∃ x cs, Blk w rb TRulC cs ∧ w' = w.setCell ⟨rb, 3, none⟩ x
theorem own_lowset {w : World} {base n size rb i : Nat} {e : TypeId} {v x : Value} {xs : List Value} (h : w.ownsRow base e size v n xs) (hb : rb < base) : (w.setCell ⟨rb, i, none⟩ x).ownsRow base e size v n xs :=
 h.kept (grown_set w rb i x) (by
   rcases ho : v.ownBlock with _ | b
   · exact .inl rfl
   · exact .inr (by have := (h.lt b ho).1; intro e; cases e; omega))
theorem own_cur {w w' : World} {base n size g : Nat} {e : TypeId} {v : Value} {xs : List Value} (h : w.ownsRow base e size v n xs) (hg : w.grownBy w' (some g)) (hb : g < base) : w'.ownsRow base e size v n xs :=
 h.kept hg (by
   rcases ho : v.ownBlock with _ | b
   · exact .inl rfl
   · exact .inr (by have := (h.lt b ho).1; intro e; cases e; omega))
theorem own_gbC {w w' : World} {base n : Nat} {e : TypeId} {size : Nat} {v : Value} {xs : List Value} (h : w.ownsRow base e size v n xs) (hg : w.grownBy w' v.ownBlock) (hb : base ≤ w.heap.size) : Below base w w' :=
 ⟨hg.os, hg.tape, hg.output, hg.size, fun k hk => hg.block k (by omega) (fun e => by have := (h.lt k e.symm).1; omega)⟩
theorem blk_flatC {w : World} {b : Nat} {t : TypeId} {l : List Value} (h : Blk w b t l.toArray) : ∀ (j : Nat) (u : Value), l[j]? = some u → w.cell? ((⟨b, 0, none⟩ : Addr).add j) = some u := fun j u hu => by
 rw [add_at, h.cell j]
 simpa using hu
theorem tcells_one (t : Ts) : ∀ u ∈ tcells t, u.oneCell' = true := by simp [tcells, Value.oneCell']

set_option maxHeartbeats 8000000 in
theorem rule_yes (g : Nat) (line : Int) (r : Rl) (w : World) (h : Blk w g TCur #[.string ⟨(ruleLine r).toArray⟩, .int .i64 line]) (hr : ruleOkB r = true) (hl : (ruleLine r).length ≤ 2000) :
   Calls Tryz.prog 43 #[.pointer (some ⟨g, 0, none⟩)] w fun e w' => ∃ tv, e = .returned (.agg #[.int .i64 r.verdict, .int .i64 r.low, .int .i64 r.high, tv]) ∧ Cur w w' g line [] ∧ w'.ownsRow w.heap.size TTest 4 tv r.tests.length (tsR r.tests).flatten := by
 obtain ⟨⟨v1, v2⟩, ⟨l1, l2⟩, hh, n4, hts⟩ := ruleOkB_words hr
 have HTS := Lib.hid hts
 have HLT : Hid ((testsText r.tests).length ≤ 2000) := Lib.hid (by have := hl; unfold ruleLine at this; rw [List.length_append] at this; omega)
 rw [ruleLine_split] at h hl
 obtain ⟨vd, lo, hi, ts⟩ := r
 simp only at v1 v2 l1 l2 hh n4 HTS HLT h hl ⊢
 obtain ⟨t1, ht1⟩ : ∃ l, l = highText lo hi ++ testsText ts := ⟨_, rfl⟩
 rw [← ht1] at h hl
 have HT1 := Lib.hid ht1
 have HN1 := Lib.hid (show noDig t1 by
   rw [ht1]
   unfold highText
   split
   · exact tests_noDig ts
   · exact noDig_cons (by decide))
 have HL := Lib.hid hl
 have hglt := h.lt
 obtain ⟨W1, hW1⟩ : ∃ W, W = w.alloc (.cells #[.int .i64 0, .int .i64 0, .int .i64 0, .slice none 0 0] TRulC) := ⟨_, rfl⟩
 have bW : Hid (Below w.heap.size w W1) := by rw [hW1]; exact Lib.hid (by go_grown)
 have K1 : Hid (Blk W1 w.heap.size TRulC #[.int .i64 0, .int .i64 0, .int .i64 0, .slice none 0 0]) := by rw [hW1]; exact Lib.hid (Blk.new _ _ _)
 have HW1 := Lib.hid hW1
 have C0 := Lib.hid ((Cur.start h).next bW.out)
 clear ht1 h hl hr hW1 hts
 go_enter Tryz.func43, Tryz.ntmps43
 go_wp2_with fail
 rw [← HW1.out]
 refine (verdict_yes g line vd ([32] ++ (Lib.itoa lo ++ t1)) W1 C0.out.blk ⟨v1, v2⟩).mono ?_; rintro e w2 ⟨rfl, hc2⟩
 have C2 := Lib.hid (C0.out.trans hc2)
 have K2 := Lib.hid (K1.out.grown hc2.grown (by intro e; cases e; omega))
 have x0 := (show w2.cell? ⟨g, 0, none⟩ = some (Value.string ⟨([32] ++ (Lib.itoa lo ++ t1) : List UInt8).toArray⟩) from hc2.blk.cell 0); have z0 := hc2.blk.frozen 0
 clear hc2
 go_wp2_with fail
 refine (skip_yes ⟨([32] ++ (Lib.itoa lo ++ t1)).toArray⟩ ⟨#[32]⟩ (Lib.itoa lo ++ t1) g 0 w2 x0 z0 rfl).mono ?_; rintro e w3 ⟨rfl, rfl⟩
 have C3 := Lib.hid (C2.out.to (t' := Lib.itoa lo ++ t1))
 have K3 := Lib.hid (K2.out.far (p := ⟨g, 0, none⟩) (show w.heap.size ≠ g by omega) (.string ⟨(Lib.itoa lo ++ t1).toArray⟩))
 obtain ⟨W3, hW3⟩ : ∃ W, W = w2.setCell ⟨g, 0, none⟩ (.string ⟨(Lib.itoa lo ++ t1).toArray⟩) := ⟨_, rfl⟩
 rw [← hW3] at C3 K3 ⊢
 clear hW3 x0 z0 C2 K2
 go_wp2_with fail
 refine (need_yes _ _).mono ?_; rintro e wn ⟨rfl, rfl⟩
 go_wp2_with fail
 refine (word_yes g line _ t1 lo W3 C3.out.blk ⟨by omega, rfl, HN1.out⟩ (by have := HL.out; simp at this ⊢; omega)).mono ?_; rintro e wn ⟨rfl, rfl⟩
 have C4 := Lib.hid (C3.out.to (t' := t1))
 have K4 := Lib.hid (K3.out.far (p := ⟨g, 0, none⟩) (show w.heap.size ≠ g by omega) (.string ⟨t1.toArray⟩))
 obtain ⟨W4, hW4⟩ : ∃ W, W = W3.setCell ⟨g, 0, none⟩ (.string ⟨t1.toArray⟩) := ⟨_, rfl⟩
 rw [← hW4] at C4 K4 ⊢
 clear hW4 C3 K3
 go_wp2_with fail
 obtain ⟨W5, hW5⟩ : ∃ W, W = W4.alloc (.cells #[.int .i64 vd, .int .i64 lo, .int .i64 lo, .slice none 0 0] TRulC) := ⟨_, rfl⟩
 obtain ⟨rb, hrb⟩ : ∃ rb, rb = W4.heap.size := ⟨_, rfl⟩
 have S5 : Hid (RB w W5 g rb line t1 vd lo lo (.slice none 0 0)) := by
   have b5 : Below W4.heap.size W4 W5 := by rw [hW5]; go_grown
   exact Lib.hid ⟨C4.out.next b5, by rw [hW5, hrb]; exact Blk.new _ _ _, K4.out.below b5 K4.out.lt, hglt, by rw [hrb]; exact K4.out.lt⟩
 rw [← hrb]
 rw [← hW5]
 have hZ5 : rb + 1 ≤ W5.heap.size := S5.out.rule.lt
 clear hW5 hrb C4 K4
 by_cases hm : hi = lo
 case' pos =>
   have e3 : t1 = testsText ts := by rw [HT1.out]; unfold highText; rw [if_pos hm]; rfl
   rw [e3] at S5
   have x5 := (show _ = some (Value.string ⟨(testsText ts).toArray⟩) from S5.out.cur.blk.cell 0); have z5 := S5.out.cur.blk.frozen 0
   refine (skip_no ⟨(testsText ts).toArray⟩ ⟨#[45]⟩ g 0 W5 x5 z5 (tests_noMinus ts)).mono ?_; rintro e w6 ⟨rfl, rfl⟩
   have S6 : Hid (RB w (W5.setCell ⟨g, 0, none⟩ (.string ⟨(testsText ts).toArray⟩)) g rb line (testsText ts) vd lo hi (.slice none 0 0)) := Lib.hid (by have h6 := S5.out.to (t' := testsText ts); rw [hm]; exact h6)
   obtain ⟨W6, hW6⟩ : ∃ W, W = W5.setCell ⟨g, 0, none⟩ (.string ⟨(testsText ts).toArray⟩) := ⟨_, rfl⟩
   have hZ6 : rb + 1 ≤ W6.heap.size := by rw [hW6]; simpa using hZ5
   rw [← hW6] at S6 ⊢
   clear hW6 x5 z5 S5 e3 hm
   go_wp2_with fail
 case' neg =>
   have e3 : t1 = 45 :: (Lib.itoa hi ++ testsText ts) := by rw [HT1.out]; unfold highText; rw [if_neg hm]; simp
   have HLM := Lib.hid (show (Lib.itoa hi ++ testsText ts).length ≤ 2000 by have := HL.out; rw [e3] at this; simp at this ⊢; omega)
   rw [e3] at S5
   have x5 := (show _ = some (Value.string ⟨(45 :: (Lib.itoa hi ++ testsText ts)).toArray⟩) from S5.out.cur.blk.cell 0); have z5 := S5.out.cur.blk.frozen 0
   refine (skip_yes ⟨(45 :: (Lib.itoa hi ++ testsText ts)).toArray⟩ ⟨#[45]⟩ (Lib.itoa hi ++ testsText ts) g 0 W5 x5 z5 rfl).mono ?_; rintro e w6 ⟨rfl, rfl⟩
   have S5b := Lib.hid (S5.out.to (t' := Lib.itoa hi ++ testsText ts))
   obtain ⟨W5b, hW5b⟩ : ∃ W, W = W5.setCell ⟨g, 0, none⟩ (.string ⟨(Lib.itoa hi ++ testsText ts).toArray⟩) := ⟨_, rfl⟩
   have hZ5b : rb + 1 ≤ W5b.heap.size := by rw [hW5b]; simpa using hZ5
   rw [← hW5b] at S5b ⊢
   clear hW5b x5 z5 S5
   go_wp2_with fail
   refine (word_yes g line _ (testsText ts) hi W5b S5b.out.cur.blk ⟨by omega, rfl, tests_noDig ts⟩ (by have := HLM.out; omega)).mono ?_; rintro e w7 ⟨rfl, rfl⟩
   have S5c := Lib.hid (S5b.out.to (t' := testsText ts))
   obtain ⟨W5c, hW5c⟩ : ∃ W, W = W5b.setCell ⟨g, 0, none⟩ (.string ⟨(testsText ts).toArray⟩) := ⟨_, rfl⟩
   have hZ5c : rb + 1 ≤ W5c.heap.size := by rw [hW5c]; simpa using hZ5b
   rw [← hW5c] at S5c ⊢
   clear hW5c
   have S6 := Lib.hid (S5c.out.set (a' := vd) (b' := lo) (c' := hi) (tv' := .slice none 0 0) 2 (.int .i64 hi) rfl)
   have y2 := (show _ = some (Value.int .i64 lo) from S5c.out.rule.cell 2); have q2 := S5c.out.rule.frozen 2
   obtain ⟨W6, hW6⟩ : ∃ W, W = W5c.setCell ⟨rb, 2, none⟩ (.int .i64 hi) := ⟨_, rfl⟩
   have hZ6 : rb + 1 ≤ W6.heap.size := by rw [hW6]; simpa using hZ5c
   rw [← hW6] at S6
   have HW6 := Lib.hid hW6
   have y1' := (show W6.cell? ⟨rb, 1, none⟩ = some (Value.int .i64 lo) from S6.out.rule.cell 1); have y2' := (show W6.cell? ⟨rb, 2, none⟩ = some (Value.int .i64 hi) from S6.out.rule.cell 2)
   have hgt : lo < hi := by omega
   clear hW6
   go_wp2_with (rw [← HW6.out])
   refine (need_yes _ _).mono ?_; rintro e w7 ⟨rfl, rfl⟩
   clear y1' y2' y2 q2 hgt S5b S5c e3
   go_wp2_with fail
 all_goals
   clear HW1 HT1 HN1 hZ5
   go_loopg [] (ts.length) (fun gk wr => ∃ (k : Nat) (tv : Value), gk = ts.length - k ∧ k ≤ ts.length ∧ rb + 1 ≤ wr.heap.size ∧ Hid (RB w wr g rb line (testsText (ts.drop k)) vd lo hi tv) ∧ Hid (wr.ownsRow (rb + 1) TTest 4 tv k (tkR ts k)))
   case atStart => exact ⟨0, _, rfl, by omega, hZ6, S6, Lib.hid (by have := World.ownsRow_nil W6 (rb + 1) TTest 4; simpa [tkR, tsR] using this)⟩
   case round =>
     obtain ⟨k, tv, hgk, hk, hZ, HS, HO⟩ := hrel
     have HGK := Lib.hid hgk
     clear hgk S6 hZ6
     have y0 := (show _ = some (Value.string ⟨(testsText (ts.drop k)).toArray⟩) from HS.out.cur.blk.cell 0)
     go_wp2_with fail
     refine (doneC_any ⟨(testsText (ts.drop k)).toArray⟩ g 0 wr y0).mono ?_; rintro e w8 ⟨rfl, rfl⟩
     obtain ⟨A, c, rfl⟩ : ∃ A c, tv = .slice A k c := by
       rcases HO.out.2 with ⟨rfl, h0⟩ | ⟨g', cap, cur, rfl, _⟩
       · exact ⟨none, 0, by rw [h0]⟩
       · exact ⟨_, _, rfl⟩
     by_cases hlt : k < ts.length
     · obtain ⟨t, htk⟩ : ∃ t, ts[k]? = some t := ⟨_, List.getElem?_eq_getElem hlt⟩
       have HTK := Lib.hid htk
       have htd := tests_drop htk
       rw [show (⟨(testsText (ts.drop k)).toArray⟩ : ByteArray).data.toList.isEmpty = false by rw [htd]; simp [testText]]
       rw [htd] at HS
       have HTL := Lib.hid (show (testText t ++ testsText (ts.drop (k + 1))).length ≤ 2000 by
         have h1 := HL.out
         have h2 : (testsText ts).length = (testsText (ts.take k)).length + (testsText (ts.drop k)).length := by
           rw [← List.length_append]
           congr 1
           unfold testsText
           rw [← List.flatten_append, ← List.map_append, List.take_append_drop]
         rw [htd] at h2
         have h3 : (testsText ts).length ≤ 2000 := HLT.out
         omega)
       clear htk y0 htd
       have y3 := (show _ = some (Value.slice A k c) from HS.out.rule.cell 3)
       have hk4 : (k : Int) < 4 := by omega
       go_wp2_with fail
       refine (need_yes _ _).mono ?_; rintro e w8 ⟨rfl, rfl⟩
       go_wp2_with fail
       clear y3
       refine wp_region_rel (appTC g rb k (.slice A k c) t (tkR ts k)) (fun j => if j = 4 then some 5 else none) (fun L _ w' => (L 3 = false → RB w w' g rb line (testText t ++ testsText (ts.drop (k + 1))) vd lo hi (.slice A k c)) ∧ (L 3 = true → L 7 = false → RB w w' g rb line (testsText (ts.drop (k + 1))) vd lo hi (.slice A k c)) ∧ (L 5 = false → w'.ownsRow (rb + 1) TTest 4 (.slice A k c) k (tkR ts k)) ∧ (L 7 = true → ∃ tv', RB w w' g rb line (testsText (ts.drop (k + 1))) vd lo hi tv' ∧ w'.ownsRow (rb + 1) TTest 4 tv' (k + 1) (tkR ts k ++ tcells t)) ∧ rb + 1 ≤ w'.heap.size) (fun i w w' => appRC rb i w w') (by kernel_rfl) (by kernel_rfl) ⟨fun _ => HS.out.next (Below.refl _ _).drew, fun h => (by cases h), fun _ => HO.out, fun h => (by cases h), hZ⟩ ?_ ?_
       · intro i j wa wb u hji hcj hwj hR hT
         match j, hji, hcj, hwj, hT with
         | 0, _, _, _, h => exact h
         | 1, _, _, _, h => exact h
         | 2, _, _, _, h => exact h
         | 3, _, _, _, h => exact h
         | 4, h1, h2, h3, h =>
           obtain ⟨b, e, hb⟩ := h
           rcases hR with (rfl | rfl) | hR | ⟨x, cs, hcs, rfl⟩
           · exact (Bool.false_ne_true (h3.symm.trans (by kernel_rfl))).elim
           · exact absurd rfl h2
           · exact ⟨b, e, hb.below hR hb.lt⟩
           · exact ⟨b, e, hb.far (show b ≠ rb by intro e2; subst e2; have := hb.symm.trans hcs; injection this with e3; injection e3 with e4 e5; exact absurd e5 (by decide)) _⟩
         | 5, h1, h2, h3, h =>
           rcases hR with (rfl | rfl) | hR | ⟨x, cs, hcs, rfl⟩
           · exact (Bool.false_ne_true (h3.symm.trans (by kernel_rfl))).elim
           · exact absurd rfl h1
           · exact own_below h hR
           · exact own_lowset h (Nat.lt_succ_self rb)
         | 6, _, _, _, h => exact h
         | (m + 7), _, _, _, h => exact trivial
       refine wpRel_step [] (by kernel_rfl) (fun L kk w9 vals hk hw hun hcl hdl hT => ?_) ?_
       · have HW := Lib.hid hw; have HUN := Lib.hid hun; have HCL := Lib.hid hcl; have HDL := Lib.hid hdl
         clear hw hun hcl hdl hT
         simp only [fillR, Act.put, List.setIfInBounds_toArray, List.set_cons_succ, List.set_cons_zero]
         go_wp2
         exact ⟨_, rfl, rfl, ⟨fun h => HW.out.1 ((putL_ne (by decide)).symm.trans h), fun h h' => HW.out.2.1 ((putL_ne (by decide)).symm.trans h) ((putL_ne (by decide)).symm.trans h'), fun h => HW.out.2.2.1 ((putL_ne (by decide)).symm.trans h), fun h => HW.out.2.2.2.1 ((putL_ne (by decide)).symm.trans h), HW.out.2.2.2.2⟩, .inr (.inl (Below.refl _ _)), fun _ => rfl⟩
       refine wpRel_step [54] (by kernel_rfl) (fun L kk w9 vals hk hw hun hcl hdl hT => ?_) ?_
       · have t0 := hT 0 54 (by kernel_rfl) (.inl rfl)
         have HW := Lib.hid hw; have HUN := Lib.hid hun; have HCL := Lib.hid hcl; have HDL := Lib.hid hdl
         clear hw hun hcl hdl hT
         simp only [fillR, Act.put, List.setIfInBounds_toArray, List.set_cons_succ, List.set_cons_zero]
         rw [show vals 54 = Value.pointer (some ⟨rb, 3, none⟩) from t0]
         clear t0
         have hrule : Blk w9 rb TRulC #[.int .i64 vd, .int .i64 lo, .int .i64 hi, .slice A k c] := by
           have h7 : L 7 = false := HCL.out 7 (by kernel_rfl)
           cases h3 : L 3 with
           | false => exact (HW.out.1 h3).rule
           | true => exact (HW.out.2.1 h3 h7).rule
         have y3 := (show _ = some (Value.slice A k c) from hrule.cell 3)
         clear hrule
         go_wp2
         exact ⟨_, rfl, rfl, ⟨fun h => HW.out.1 ((putL_ne (by decide)).symm.trans h), fun h h' => HW.out.2.1 ((putL_ne (by decide)).symm.trans h) ((putL_ne (by decide)).symm.trans h'), fun h => HW.out.2.2.1 ((putL_ne (by decide)).symm.trans h), fun h => HW.out.2.2.2.1 ((putL_ne (by decide)).symm.trans h), HW.out.2.2.2.2⟩, .inr (.inl (Below.refl _ _)), fun _ => rfl⟩
       refine wpRel_step [] (by kernel_rfl) (fun L kk w9 vals hk hw hun hcl hdl hT => ?_) ?_
       · have HW := Lib.hid hw; have HUN := Lib.hid hun; have HCL := Lib.hid hcl; have HDL := Lib.hid hdl
         clear hw hun hcl hdl hT
         simp only [fillR, Act.put, List.setIfInBounds_toArray, List.set_cons_succ, List.set_cons_zero]
         go_wp2
         exact ⟨_, rfl, rfl, ⟨fun h => HW.out.1 ((putL_ne (by decide)).symm.trans h), fun h h' => HW.out.2.1 ((putL_ne (by decide)).symm.trans h) ((putL_ne (by decide)).symm.trans h'), fun h => HW.out.2.2.1 ((putL_ne (by decide)).symm.trans h), fun h => HW.out.2.2.2.1 ((putL_ne (by decide)).symm.trans h), HW.out.2.2.2.2⟩, .inr (.inl (Below.refl _ _)), fun _ => rfl⟩
       refine wpRel_step [56] (by kernel_rfl) (fun L kk w9 vals hk hw hun hcl hdl hT => ?_) ?_
       · have t0 := hT 2 56 (by kernel_rfl) (.inl rfl)
         have HW := Lib.hid hw; have HUN := Lib.hid hun; have HCL := Lib.hid hcl; have HDL := Lib.hid hdl
         clear hw hun hcl hdl hT
         simp only [fillR, Act.put, List.setIfInBounds_toArray, List.set_cons_succ, List.set_cons_zero]
         rw [show vals 56 = Value.pointer (some ⟨g, 0, none⟩) from t0]
         clear t0
         have HR0 := Lib.hid (HW.out.1 HUN.out)
         have h5 : L 5 = false := HCL.out 5 (by kernel_rfl)
         have h7 : L 7 = false := HCL.out 7 (by kernel_rfl)
         have HO0 := Lib.hid (HW.out.2.2.1 h5)
         go_wp2_with fail
         refine (test_yes g line t (testsText (ts.drop (k + 1))) w9 HR0.out.cur.blk (HTS.out t (List.mem_of_getElem? HTK.out)) (tests_noDig _) HTL.out).mono ?_; rintro e w10 ⟨rfl, hc10⟩
         have HR1 := Lib.hid (HR0.out.call hc10); have HO1 := Lib.hid (own_cur HO0.out hc10.grown (by have := HR0.out.lt; have := HR0.out.after; omega))
         have hz10 := hc10.grown.size
         have hzz := HW.out.2.2.2.2
         clear hc10
         go_wp2
         exact ⟨_, rfl, rfl, ⟨fun h => (by simp [putL] at h), fun _ _ => HR1.out, fun _ => HO1.out, fun h => (by rw [putL_ne (by decide), h7] at h; cases h), by omega⟩, .inl (.inl rfl), fun _ => rfl⟩
       refine wpRel_step [57] (by kernel_rfl) (fun L kk w9 vals hk hw hun hcl hdl hT => ?_) ?_
       · have t0 := hT 3 57 (by kernel_rfl) (.inl rfl)
         have HW := Lib.hid hw; have HUN := Lib.hid hun; have HCL := Lib.hid hcl; have HDL := Lib.hid hdl
         clear hw hun hcl hdl hT
         simp only [fillR, Act.put, List.setIfInBounds_toArray, List.set_cons_succ, List.set_cons_zero]
         rw [show vals 57 = Value.agg #[.int .i64 t.field, .int .i64 t.mask, .int .i64 t.op, .int .i64 t.value] from t0]
         clear t0
         have h3 : L 3 = true := HDL.out 3 (by kernel_rfl)
         have h5 : L 5 = false := HCL.out 5 (by kernel_rfl)
         have h7 : L 7 = false := HCL.out 7 (by kernel_rfl)
         have HR1 := Lib.hid (HW.out.2.1 h3 h7); have HO1 := Lib.hid (HW.out.2.2.1 h5)
         have hzz := HW.out.2.2.2.2
         go_wp2
         have hb : Below w9.heap.size w9 (w9.alloc (.cells (tcells t).toArray TTest)) := by go_grown
         exact ⟨_, rfl, rfl, ⟨fun h => (by rw [putL_ne (by decide), h3] at h; cases h), fun _ _ => HR1.out.next hb, fun _ => HO1.out.alloc _, fun h => (by rw [putL_ne (by decide), h7] at h; cases h), Nat.le_trans hzz (by simp)⟩, .inr (.inl hb), fun _ => ⟨w9.heap.size, rfl, Blk.new _ _ _⟩⟩
       refine wpRel_step [55, 58] (by kernel_rfl) (fun L kk w9 vals hk hw hun hcl hdl hT => ?_) ?_
       · have t0 := hT 1 55 (by kernel_rfl) (.inl rfl)
         have t1 := hT 4 58 (by kernel_rfl) (.inr rfl)
         have HW := Lib.hid hw; have HUN := Lib.hid hun; have HCL := Lib.hid hcl; have HDL := Lib.hid hdl
         clear hw hun hcl hdl hT
         simp only [fillR, Act.put, List.setIfInBounds_toArray, List.set_cons_succ, List.set_cons_zero]
         obtain ⟨b4, e4, hb4⟩ := t1
         have HB4 := Lib.hid hb4
         clear hb4
         rw [e4]
         rw [show vals 55 = Value.slice A k c from t0]
         clear t0
         have h3 : L 3 = true := HDL.out 3 (by kernel_rfl)
         have h7 : L 7 = false := HCL.out 7 (by kernel_rfl)
         have HR1 := Lib.hid (HW.out.2.1 h3 h7); have HO1 := Lib.hid (HW.out.2.2.1 HUN.out)
         have hzz := HW.out.2.2.2.2
         obtain ⟨i0, hi0, hz0, hz1, hz2⟩ := info_parts info_TestM
         go_wp2_with (at_builtin; go_must (refine wpList_append_own _ rfl (.tmp 55) (.tmp 58) _ rfl (rb + 1) TTest i0 _ 4 32 Tryz.underlying56 hi0 hz0 hz1 hz2 rfl (by omega) (.slice A k c) k (tkR ts k) rfl HO1.out ⟨b4, 0, none⟩ 1 1 (tcells t) rfl rfl (blk_flatC HB4.out) (tcells_one t) (by unfold maxLen; omega) (by omega) (by omega) ?_); intro v7 w7 hown7 hg7 _; have HO7 := Lib.hid hown7; have HG7 := Lib.hid hg7; clear hown7 hg7)
         have hb7 := own_gbC HO1.out HG7.out hzz
         exact ⟨_, rfl, rfl, ⟨fun h => (by rw [putL_ne (by decide), h3] at h; cases h), fun _ _ => HR1.out.below hb7 (by omega), fun h => (by simp [putL] at h), fun h => (by rw [putL_ne (by decide), h7] at h; cases h), by have := HG7.out.size; omega⟩, .inl (.inr rfl), fun _ => HO7.out⟩
       refine wpRel_step [] (by kernel_rfl) (fun L kk w9 vals hk hw hun hcl hdl hT => ?_) ?_
       · have HW := Lib.hid hw; have HUN := Lib.hid hun; have HCL := Lib.hid hcl; have HDL := Lib.hid hdl
         clear hw hun hcl hdl hT
         simp only [fillR, Act.put, List.setIfInBounds_toArray, List.set_cons_succ, List.set_cons_zero]
         go_wp2
         exact ⟨_, rfl, rfl, ⟨fun h => HW.out.1 ((putL_ne (by decide)).symm.trans h), fun h h' => HW.out.2.1 ((putL_ne (by decide)).symm.trans h) ((putL_ne (by decide)).symm.trans h'), fun h => HW.out.2.2.1 ((putL_ne (by decide)).symm.trans h), fun h => HW.out.2.2.2.1 ((putL_ne (by decide)).symm.trans h), HW.out.2.2.2.2⟩, .inr (.inl (Below.refl _ _)), fun _ => rfl⟩
       refine wpRel_step [60, 59] (by kernel_rfl) (fun L kk w9 vals hk hw hun hcl hdl hT => ?_) ?_
       · have t0 := hT 6 60 (by kernel_rfl) (.inl rfl)
         have t1 := hT 5 59 (by kernel_rfl) (.inl rfl)
         have HW := Lib.hid hw; have HUN := Lib.hid hun; have HCL := Lib.hid hcl; have HDL := Lib.hid hdl
         clear hw hun hcl hdl hT
         simp only [fillR, Act.put, List.setIfInBounds_toArray, List.set_cons_succ, List.set_cons_zero]
         have HT5 := Lib.hid (show w9.ownsRow (rb + 1) TTest 4 (vals 59) (k + 1) (tkR ts k ++ tcells t) from t1)
         obtain ⟨u5, hu5⟩ : ∃ u, u = vals 59 := ⟨_, rfl⟩
         rw [← hu5] at HT5 ⊢
         clear hu5 t1
         obtain ⟨b5, c5, rfl, hb5, hb5'⟩ := HT5.out.form (by omega)
         rw [show vals 60 = Value.pointer (some ⟨rb, 3, none⟩) from t0]
         clear t0
         have h3 : L 3 = true := HDL.out 3 (by kernel_rfl)
         have HR1 := Lib.hid (HW.out.2.1 h3 HUN.out)
         have hzz := HW.out.2.2.2.2
         have y3 := (show _ = some (Value.slice A k c) from HR1.out.rule.cell 3); have q3 := HR1.out.rule.frozen 3
         have HR2 := Lib.hid (HR1.out.set (a' := vd) (b' := lo) (c' := hi) (tv' := .slice (some ⟨b5, 0, none⟩) (k + 1) c5) 3 (.slice (some ⟨b5, 0, none⟩) (k + 1) c5) rfl); have HO2 := Lib.hid (own_lowset (i := 3) (x := .slice (some ⟨b5, 0, none⟩) (k + 1) c5) HT5.out (Nat.lt_succ_self rb))
         go_wp2
         exact ⟨undef, rfl, rfl, ⟨fun h => (by rw [putL_ne (by decide), h3] at h; cases h), fun _ h => (by simp [putL] at h), fun h => (by rw [putL_ne (by decide), HDL.out 5 (by kernel_rfl)] at h; cases h), fun _ => ⟨_, HR2.out, HO2.out⟩, by simpa using hzz⟩, .inr (.inr ⟨_, _, HR1.out.rule, rfl⟩), fun h => absurd rfl h⟩
       refine wpRel_end [54, 55, 56, 57, 58, 59, 60] (by kernel_rfl) (fun L w9 vals hl hw hT => ?_)
       obtain ⟨tv', hS9, hO9⟩ := hw.2.2.2.1 (hl 7 (by decide))
       have hZ9 := hw.2.2.2.2
       rw [← tkR_next HTK.out] at hO9
       have HS9 := Lib.hid hS9; have HO9 := Lib.hid hO9
       clear hl hw hT hS9 hO9
       simp only [fillR, Act.put, List.setIfInBounds_toArray, List.set_cons_succ, List.set_cons_zero]
       go_wp2
       go_roundg (ts.length - (k + 1))
       case measure => have := HGK.out; omega
       case rel => exact ⟨k + 1, tv', rfl, by omega, hZ9, HS9, HO9⟩
     · obtain rfl : k = ts.length := by omega
       have hdr : testsText (ts.drop ts.length) = [] := by simp [testsText]
       rw [hdr]
       rw [hdr] at HS
       clear y0 hlt hdr
       have y0 := (show _ = some (Value.int .i64 vd) from HS.out.rule.cell 0); have y1 := (show _ = some (Value.int .i64 lo) from HS.out.rule.cell 1); have y2 := (show _ = some (Value.int .i64 hi) from HS.out.rule.cell 2); have y3 := (show _ = some (Value.slice A ts.length c) from HS.out.rule.cell 3)
       have r0 := (show wr.cell? ⟨w.heap.size, 0, none⟩ = some (Value.int .i64 0) from HS.out.res.cell 0); have r1 := (show wr.cell? ⟨w.heap.size, 1, none⟩ = some (Value.int .i64 0) from HS.out.res.cell 1); have r2 := (show wr.cell? ⟨w.heap.size, 2, none⟩ = some (Value.int .i64 0) from HS.out.res.cell 2); have r3 := (show wr.cell? ⟨w.heap.size, 3, none⟩ = some (Value.slice none 0 0) from HS.out.res.cell 3)
       have rf0 := HS.out.res.frozen 0; have rf1 := HS.out.res.frozen 1; have rf2 := HS.out.res.frozen 2; have rf3 := HS.out.res.frozen 3
       have HFIN := Lib.hid ((((HS.out.cur.result (Nat.le_refl _) hglt 0 (.int .i64 vd)).result (Nat.le_refl _) hglt 1 (.int .i64 lo)).result (Nat.le_refl _) hglt 2 (.int .i64 hi)).result (Nat.le_refl _) hglt 3 (.slice A ts.length c))
       have haft := HS.out.after
       have HOF := Lib.hid (own_lowset (i := 3) (x := .slice A ts.length c) (own_lowset (i := 2) (x := .int .i64 hi) (own_lowset (i := 1) (x := .int .i64 lo) (own_lowset (i := 0) (x := .int .i64 vd) HO.out (rb := w.heap.size) (by omega)) (rb := w.heap.size) (by omega)) (rb := w.heap.size) (by omega)) (rb := w.heap.size) (by omega))
       have htk : tkR ts ts.length = (tsR ts).flatten := by unfold tkR; rw [List.take_length]
       rw [htk] at HOF
       go_wp2
       exact bodyPost_ret (v := .agg #[.int .i64 vd, .int .i64 lo, .int .i64 hi, .slice A ts.length c]) (by simp [results, Tryz.results43, go_sem, r0, r1, r2, r3]) rfl ⟨_, rfl, HFIN.out, own_base HOF.out (by omega)⟩
end Go.Proofs.YtdjgicapbpoigaaGreatDoor
