/- spec's reader of policies on any text: a rule, and that a fine one's text is read. -/
import Derived.Test.YtdjgicapbpoigaaGreatDoorSrdA
import Derived.Test.YtdjgicapbpoigaaGreatDoorSrdW
namespace Go.Proofs.YtdjgicapbpoigaaGreatDoor
open Go.RowKit
set_option linter.unusedSimpArgs false
set_option linter.unusedVariables false

def TW (lk : List UInt8) (t : Ts) : Prop := ∀ t' : Ts, testOkB t' = true → lk = testWord t' → t = t'
def RW (l : List UInt8) (ts : List Ts) : Prop := ∀ r : Rl, ruleOkB r = true → l = headText r ++ testsText r.tests → ts = r.tests.take ts.length
theorem verd_one {a b : Int} (ha : 1 ≤ a ∧ a ≤ 4) (hb : 1 ≤ b ∧ b ≤ 4) (h : verdNm a = verdNm b) : a = b := by
 obtain rfl | rfl | rfl | rfl : a = 1 ∨ a = 2 ∨ a = 3 ∨ a = 4 := by omega
 all_goals obtain rfl | rfl | rfl | rfl : b = 1 ∨ b = 2 ∨ b = 3 ∨ b = 4 := by omega
 all_goals first | rfl | (exfalso; revert h; decide)
theorem line_of {r : Rl} {l : List UInt8} (h : ruleText r = l ++ [10]) : l = headText r ++ testsText r.tests := by
 unfold ruleText at h
 exact (List.append_cancel_right h).symm
theorem rule_pol {r : Rl} (h : ruleOkB r = true) : polOkB ⟨[r], 1⟩ = true := by
 have h1 := ruleText_len h
 have h2 : (polText ⟨[r], 1⟩).length ≤ 900 := by
   simp [polText, rulesText, verdNm]
   omega
 unfold polOkB polShapeB
 simp [h, h2, inB]
theorem rule_none {l : List UInt8} {ws : List (List UInt8)} (hws : ws = cut 32 l) (h : ws.length < 2) : ¬ ∃ r : Rl, ruleOkB r = true ∧ ruleText r = l ++ [10] := by
 rintro ⟨r, hr, ht⟩
 rw [line_of ht, rule_cut hr] at hws
 subst hws
 simp at h
 omega
theorem RW.start (l : List UInt8) : RW l [] := fun r _ _ => by simp
theorem RW.step {l : List UInt8} {ws : List (List UInt8)} {k : Nat} {ts : List Ts} {lk : List UInt8} {t : Ts} (h : RW l ts) (hws : ws = cut 32 l) (hk : ts.length + 2 = k) (hlk : ws[k]? = some lk) (ht : TW lk t) : RW l (ts ++ [t]) := fun r hr hl => by
 have h1 := h r hr hl
 rw [hl, rule_cut hr] at hws
 rw [hws, ← hk, List.getElem?_cons_succ, List.getElem?_cons_succ, List.getElem?_map] at hlk
 cases hx : r.tests[ts.length]? with
 | none => rw [hx] at hlk; simp at hlk
 | some t' =>
   rw [hx] at hlk
   have hx2 := ht t' ((ruleOkB_words hr).2.2.2.2 t' (List.mem_of_getElem? hx)) (Option.some.inj hlk).symm
   rw [List.length_append, List.length_singleton, List.take_add_one, hx, ← h1, hx2]
   rfl
theorem rule_is {l : List UInt8} {ws es : List (List UInt8)} {l0 l1 m0 mj : List UInt8} {vd lo hi : Int} {ts : List Ts} {j : Nat} (hws : ws = cut 32 l) (h0 : ws[0]? = some l0) (h1 : ws[1]? = some l1) (hvd : (0 ≤ vd ∧ vd ≤ 4) ∧ (vd ≠ 0 → verdNm vd = l0) ∧ (vd = 0 → ∀ j : Nat, 1 ≤ j → j ≤ 4 → verdNm j ≠ l0)) (hes : es = cut 45 l1) (hm0 : es[0]? = some m0) (hlo : lo = numOf m0) (hj : es.length = j + 1) (hmj : es[j]? = some mj) (hhi : hi = numOf mj) (hts : RW l ts) (hl : ts.length + 2 = ws.length) : ∀ r : Rl, ruleOkB r = true → ruleText r = l ++ [10] → (⟨vd, lo, hi, ts⟩ : Rl) = r := fun r hr ht => by
 have hln := line_of ht
 have hTS := hts r hr hln
 obtain ⟨⟨v1, v2⟩, ⟨a1, a2⟩, hh, n4, hq⟩ := ruleOkB_words hr
 rw [hln, rule_cut hr] at hws
 subst hws
 simp only [List.getElem?_cons_zero, List.getElem?_cons_succ, Option.some.injEq] at h0 h1
 have e1 : vd = r.verdict := by
   by_cases hz : vd = 0
   · exfalso
     have := hvd.2.2 hz r.verdict.toNat (by omega) (by omega)
     rw [show ((r.verdict.toNat : Nat) : Int) = r.verdict by omega] at this
     exact this h0
   · exact verd_one ⟨by omega, hvd.1.2⟩ ⟨v1, v2⟩ ((hvd.2.1 hz).trans h0.symm)
 have e4 : ts = r.tests := by
   simp at hl
   rw [hTS, hl, List.take_length]
 obtain ⟨es', he', hcase⟩ := nums_cut hr
 rw [h1] at he'
 rw [he'] at hes
 subst hes
 rcases hcase with ⟨rfl, he⟩ | rfl
 · obtain rfl : j = 0 := by simp at hj; omega
   simp only [List.getElem?_cons_zero, Option.some.injEq] at hm0 hmj
   have f1 : lo = r.low := by rw [hlo, ← hm0, numOf_itoa _ a1 (by omega)]
   have f2 : hi = r.high := by rw [hhi, ← hmj, numOf_itoa _ a1 (by omega)]; exact he.symm
   rw [f1, f2, e1, e4]
 · obtain rfl : j = 1 := by simp at hj; omega
   simp only [List.getElem?_cons_zero, List.getElem?_cons_succ, Option.some.injEq] at hm0 hmj
   rw [hlo, ← hm0, hhi, ← hmj, numOf_itoa _ a1 (by omega), numOf_itoa _ (by omega) hh, e1, e4]
theorem rule_no {l : List UInt8} {r : Rl} {ok eq : Bool} (hr : ∀ r' : Rl, ruleOkB r' = true → ruleText r' = l ++ [10] → r = r') (hok : polOkB ⟨[r], 1⟩ = ok) (heq : eq = (ruleText r == l ++ [10])) : (ok && eq) = false → ¬ ∃ r' : Rl, ruleOkB r' = true ∧ ruleText r' = l ++ [10] := by
 rintro h ⟨r', h1, h2⟩
 have e := hr r' h1 h2
 subst e
 rw [rule_pol h1] at hok
 rw [← hok, heq, h2] at h
 simp at h
def RdR (l : List UInt8) (w : World) (e : Ending) (w' : World) : Prop := ∃ (r : Rl) (tv : Value) (ok : Bool), e = .returned (.tuple #[.agg #[.int .i64 r.verdict, .int .i64 r.low, .int .i64 r.high, tv], .bool ok]) ∧ (ok = true → polOkB ⟨[r], 1⟩ = true ∧ ruleText r = l ++ [10]) ∧ (ok = false → ¬ ∃ r' : Rl, ruleOkB r' = true ∧ ruleText r' = l ++ [10]) ∧ w'.ownsRow w.heap.size TTestS 4 tv r.tests.length (tsR r.tests).flatten ∧ Below w.heap.size w w'
theorem rule_fin2 {w w' : World} {l : List UInt8} {r : Rl} {tv : Value} {ok : Bool} (h : ok = true → polOkB ⟨[r], 1⟩ = true ∧ ruleText r = l ++ [10]) (h' : ok = false → ¬ ∃ r' : Rl, ruleOkB r' = true ∧ ruleText r' = l ++ [10]) (h2 : w'.ownsRow w.heap.size TTestS 4 tv r.tests.length (tsR r.tests).flatten) (h3 : Below w.heap.size w w') : ∀ (e : Ending) (w2 : World), w2 = w' → e = .returned (.tuple #[.agg #[.int .i64 r.verdict, .int .i64 r.low, .int .i64 r.high, tv], .bool ok]) → RdR l w e w2 := by
 rintro e w2 rfl rfl
 exact ⟨r, tv, ok, rfl, h, h', h2, h3⟩
def sruX (rb b1 o1 n1 c1 k m : Nat) (tv : Value) (lk : List UInt8) (xs : List Value) : Nat → World → Value → Prop
 | 0, _, u => u = .pointer (some ⟨rb, 3, none⟩)
 | 1, _, u => u = tv
 | 2, _, u => u = .slice (some ⟨b1, o1, none⟩) n1 c1
 | 3, _, u => u = .int .i64 k
 | 4, _, u => u = .pointer (some ⟨b1, o1 + k, none⟩)
 | 5, _, u => u = .string ⟨lk.toArray⟩
 | 6, _, u => ∃ t : Ts, u = .agg #[.int .i64 t.field, .int .i64 t.mask, .int .i64 t.op, .int .i64 t.value] ∧ TW lk t
 | 7, w, u => ∃ (b : Nat) (t : Ts), u = .slice (some ⟨b, 0, none⟩) 1 1 ∧ Blk w b TTestS (tcS t).toArray ∧ TW lk t
 | 8, w, u => ∃ t : Ts, w.ownsRow (rb + 1) TTestS 4 u (m + 1) (xs ++ tcS t) ∧ TW lk t
 | 9, _, u => u = .pointer (some ⟨rb, 3, none⟩)
 | _, _, _ => True
set_option maxHeartbeats 8000000 in
theorem rdRule_all (l : List UInt8) (w : World) (hs : l.length ≤ 1048576) :
   Calls Tryz.prog 25 #[.string ⟨l.toArray⟩] w (RdR l w) := by
 obtain ⟨W1, hW1⟩ : ∃ W, W = w.alloc (.cells #[.int .i64 0, .int .i64 0, .int .i64 0, .slice none 0 0] TRulS) := ⟨_, rfl⟩
 have bW : Hid (Below w.heap.size w W1) := by rw [hW1]; exact Lib.hid (by go_grown)
 have KR : Hid (Blk W1 w.heap.size TRulS #[.int .i64 0, .int .i64 0, .int .i64 0, .slice none 0 0]) := by rw [hW1]; exact Lib.hid (Blk.new _ _ _)
 have HW1 := Lib.hid hW1
 clear hW1
 have hcl := cut_len 32 l
 obtain ⟨ws, hws⟩ : ∃ ws, ws = cut 32 l := ⟨_, rfl⟩
 have HPL := Lib.hid (show ∀ x ∈ ws, x.length ≤ 1048576 from fun x hx => Nat.le_trans (piece_len 32 l x (by rw [← hws]; exact hx)) hs)
 have HCUT := Lib.hid (show ∀ W : World, Calls Tryz.prog 24 #[.string ⟨l.toArray⟩, .int .u8 32] W fun e w' => ∃ v, e = .returned v ∧ w'.ownsRow W.heap.size 9 1 v ws.length (strs ws).flatten ∧ Below W.heap.size W w' from fun W => by rw [hws]; exact l2Cut_any ⟨l.toArray⟩ 32 W (by show l.toArray.size ≤ _; simp; omega))
 rw [← hws] at hcl
 have HWS := Lib.hid hws
 clear hws
 go_enter Tryz.func25, Tryz.ntmps25
 go_wp2_with fail
 rw [← HW1.out]
 refine (HCUT.out W1).mono ?_; rintro e w1 ⟨v1, rfl, ho1, hb1⟩
 obtain ⟨A1, n1, c1, rfl, hA1⟩ := SlA.of_own ho1 (strs_len ws) (strs_rows ws)
 obtain rfl : n1 = ws.length := by have := hA1.len; rw [strs_len] at this; exact this.symm
 have hc1 := hA1.cap
 have hm1 := hA1.max
 unfold maxLen at hm1
 have KR1 := Lib.hid (KR.out.below hb1 KR.out.lt)
 have HB1 := Lib.hid (below_then bW.out hb1)
 have HA1 := Lib.hid hA1
 clear ho1 hb1 hA1
 by_cases h2 : ws.length < 2
 · have h2i : (ws.length : Int) < 2 := by omega
   have r0 := (show w1.cell? ⟨w.heap.size, 0, none⟩ = some (Value.int .i64 0) from KR1.out.cell 0); have r1 := (show w1.cell? ⟨w.heap.size, 1, none⟩ = some (Value.int .i64 0) from KR1.out.cell 1); have r2 := (show w1.cell? ⟨w.heap.size, 2, none⟩ = some (Value.int .i64 0) from KR1.out.cell 2); have r3 := (show w1.cell? ⟨w.heap.size, 3, none⟩ = some (Value.slice none 0 0) from KR1.out.cell 3)
   have rf0 := KR1.out.frozen 0; have rf1 := KR1.out.frozen 1; have rf2 := KR1.out.frozen 2; have rf3 := KR1.out.frozen 3
   have HFIN := Lib.hid ((((HB1.out.setCell (p := ⟨w.heap.size, 0, none⟩) (Nat.le_refl _) (.int .i64 0)).setCell (p := ⟨w.heap.size, 1, none⟩) (Nat.le_refl _) (.int .i64 0)).setCell (p := ⟨w.heap.size, 2, none⟩) (Nat.le_refl _) (.int .i64 0)).setCell (p := ⟨w.heap.size, 3, none⟩) (Nat.le_refl _) (.slice none 0 0))
   go_wp2
   exact bodyPost_ret (v := .tuple #[.agg #[.int .i64 0, .int .i64 0, .int .i64 0, .slice none 0 0], .bool false]) (by simp [results, Tryz.results25, go_sem, r0, r1, r2, r3]) rfl ⟨⟨0, 0, 0, []⟩, .slice none 0 0, false, rfl, fun h => absurd h Bool.false_ne_true, fun _ => rule_none HWS.out h2, World.ownsRow_nil _ _ _ _, HFIN.out⟩
 · have h2i : ¬ (ws.length : Int) < 2 := by omega
   obtain ⟨b1, o1, l0, rfl, hbl1, hl0, hcell0⟩ := strs_get HA1.out (k := 0) (by omega)
   have k0 := hcell0 w1 _ (Below.refl _ _) hbl1
   rw [Nat.add_zero] at k0
   obtain ⟨b1', o1', l1, e1', hbl1', hl1, hcell1⟩ := strs_get HA1.out (k := 1) (by omega)
   obtain ⟨rfl, rfl⟩ : b1 = b1' ∧ o1 = o1' := by simpa using e1'
   have HC1 := Lib.hid hcell1
   have HL1 := Lib.hid (HPL.out l1 (List.mem_of_getElem? hl1))
   have hw1 : w.heap.size < w1.heap.size := KR1.out.lt
   clear hcell0 hcell1 e1' hbl1'
   go_wp2_with fail
   refine (rdVerdict_all l0 w1).mono ?_; rintro e w2 ⟨vd, rfl, hvd, hb2⟩
   have HVD := Lib.hid hvd
   clear hvd
   have HL0 := Lib.hid hl0; have HL1' := Lib.hid hl1
   obtain ⟨rb, hrb⟩ : ∃ rb, rb = w2.heap.size := ⟨_, rfl⟩
   obtain ⟨W2, hW2⟩ : ∃ W, W = w2.alloc (.cells #[.int .i64 vd, .int .i64 0, .int .i64 0, .slice none 0 0] TRulS) := ⟨_, rfl⟩
   have b2 : Below w2.heap.size w2 W2 := by rw [hW2]; go_grown
   have Q2 : Hid (RQ w w1 W2 rb vd 0 0 (.slice none 0 0)) := Lib.hid ⟨by rw [hW2, hrb]; exact Blk.new _ _ _, (KR1.out.below hb2 KR1.out.lt).below b2 (Nat.lt_of_lt_of_le hw1 hb2.size), below_then hb2 b2, HB1.out, hw1, by rw [hrb]; exact hb2.size⟩
   have k1 := HC1.out W2 _ Q2.out.low hbl1
   have HW2 := Lib.hid hW2
   have HRB := Lib.hid hrb
   clear hW2 hrb b2 hb2 k0
   go_wp2_with (first | rw [← HW2.out, ← HRB.out] | rw [← HW2.out])
   refine (show Calls Tryz.prog 24 #[.string ⟨l1.toArray⟩, .int .u8 45] W2 _ from (l2Cut_any ⟨l1.toArray⟩ 45 W2 (by show l1.toArray.size ≤ _; have := HL1.out; simp; omega))).mono ?_; rintro e w3 ⟨v3, rfl, ho3, hb3⟩
   obtain ⟨es, hes⟩ : ∃ es, es = cut 45 (⟨l1.toArray⟩ : ByteArray).data.toList := ⟨_, rfl⟩
   have hene : es ≠ [] := by rw [hes]; exact cut_ne _ _
   rw [← hes] at ho3
   have HES : Hid (es = cut 45 l1) := Lib.hid hes
   clear hes k1
   have hepos : 0 < es.length := List.length_pos_iff.2 hene
   obtain ⟨A3, n3, c3, rfl, hA3⟩ := SlA.of_own ho3 (strs_len es) (strs_rows es)
   obtain rfl : n3 = es.length := by have := hA3.len; rw [strs_len] at this; exact this.symm
   have hc3 := hA3.cap
   have hm3 := hA3.max
   unfold maxLen at hm3
   have Q3 := Lib.hid (Q2.out.next hb3)
   obtain ⟨b3, o3, m0, rfl, hbl3, hm0, hcell3⟩ := strs_get hA3 (k := 0) hepos
   have k3 := hcell3 w3 _ (Below.refl _ _) hbl3
   rw [Nat.add_zero] at k3
   have HO3 := Lib.hid ho3
   have hrbW : rb < W2.heap.size := Q2.out.rule.lt
   clear hcell3 hA3 ho3 hb3
   go_wp2_with fail
   refine (l2Num_any _ w3).mono ?_; rintro e wn ⟨rfl, rfl⟩
   obtain ⟨lo, hlo⟩ : ∃ lo, lo = numOf (⟨m0.toArray⟩ : ByteArray).data.toList := ⟨_, rfl⟩
   rw [← hlo]
   have HLO : Hid (lo = numOf m0) := Lib.hid hlo
   have HM0 := Lib.hid hm0
   clear hlo k3
   have y1 := (show _ = some (Value.int .i64 0) from Q3.out.rule.cell 1); have q1 := Q3.out.rule.frozen 1
   have Q4 := Lib.hid (Q3.out.set (a' := vd) (b' := lo) (c' := 0) (tv' := .slice none 0 0) 1 (.int .i64 lo) rfl)
   obtain ⟨W4, hW4⟩ : ∃ W, W = w3.setCell ⟨rb, 1, none⟩ (.int .i64 lo) := ⟨_, rfl⟩
   have HO4 : Hid (W4.ownsRow W2.heap.size 9 1 (.slice (some ⟨b3, o3, none⟩) es.length c3) es.length (strs es).flatten) := by rw [hW4]; exact Lib.hid (own_lowsetS HO3.out hrbW)
   rw [← hW4] at Q4
   have HW4 := Lib.hid hW4
   clear hW4
   go_upto_region 7 with (fail)
   rw [← HW4.out]
   clear y1 q1
   obtain ⟨j, hj⟩ : ∃ j, es.length = j + 1 := ⟨es.length - 1, by omega⟩
   have hji : (es.length : Int) - 1 = (j : Int) := by omega
   have hjl : (j : Int) < es.length := by omega
   obtain ⟨A5, n5, c5, e5, hA5⟩ := SlA.of_own HO4.out (strs_len es) (strs_rows es)
   obtain ⟨rfl, rfl, rfl⟩ : some (⟨b3, o3, none⟩ : Addr) = A5 ∧ es.length = n5 ∧ c3 = c5 := by simpa using e5
   obtain ⟨b5, o5, mj, e6, hbl5, hmj, hcell5⟩ := strs_get hA5 (k := j) (by omega)
   obtain ⟨rfl, rfl⟩ : b3 = b5 ∧ o3 = o5 := by simpa using e6
   have k5 := hcell5 W4 _ (Below.refl _ _) hbl5
   clear hcell5 hA5 e5 e6
   go_wp2_with fail
   refine (l2Num_any _ W4).mono ?_; rintro e wn ⟨rfl, rfl⟩
   obtain ⟨hi, hhi⟩ : ∃ hi, hi = numOf (⟨mj.toArray⟩ : ByteArray).data.toList := ⟨_, rfl⟩
   rw [← hhi]
   have HHI : Hid (hi = numOf mj) := Lib.hid hhi
   have HMJ := Lib.hid hmj; have HJ := Lib.hid hj
   clear hhi k5
   have y2 := (show _ = some (Value.int .i64 0) from Q4.out.rule.cell 2); have q2 := Q4.out.rule.frozen 2
   have Q5 := Lib.hid (Q4.out.set (a' := vd) (b' := lo) (c' := hi) (tv' := .slice none 0 0) 2 (.int .i64 hi) rfl)
   obtain ⟨W5, hW5⟩ : ∃ W, W = W4.setCell ⟨rb, 2, none⟩ (.int .i64 hi) := ⟨_, rfl⟩
   rw [← hW5] at Q5
   have HW5 := Lib.hid hW5
   clear hW5
   go_upto_region 8 with (fail)
   rw [← HW5.out]
   clear y2 q2 HO3 HO4 Q2 Q3 Q4 HW2 HW4 HC1 HL1
   have HRBZ := Lib.hid (show rb + 1 ≤ W5.heap.size from Q5.out.rule.lt)
   go_wp2_with fail
   go_loopw [7] (fun i wr => ∃ (k : Nat) (ts : List Ts) (tv : Value), i = .int .i64 k ∧ 2 ≤ k ∧ k ≤ ws.length ∧ ts.length + 2 = k ∧ Hid (RQ w w1 wr rb vd lo hi tv) ∧ Hid (wr.ownsRow (rb + 1) TTestS 4 tv ts.length (tsR ts).flatten) ∧ rb + 1 ≤ wr.heap.size ∧ Hid (RW l ts)) (fun i _ => ws.length - (intOf i).toNat)
   case atStart => exact ⟨2, [], .slice none 0 0, rfl, by omega, by omega, rfl, Q5, Lib.hid (World.ownsRow_nil _ _ _ _), HRBZ.out, Lib.hid (RW.start l)⟩
   case round =>
     obtain ⟨k, ts, tv, rfl, hk2, hk, hts, HQ, HO, hZ, HRW⟩ := hrel
     have HTSL := Lib.hid hts
     by_cases hlt : k < ws.length
     · have hki : (k : Int) < ws.length := by omega
       obtain ⟨A, c, rfl⟩ : ∃ A c, tv = .slice A ts.length c := by
         rcases HO.out.2 with ⟨rfl, h0⟩ | ⟨g', cap, cur, rfl, _⟩
         · exact ⟨none, 0, by rw [h0]⟩
         · exact ⟨_, _, rfl⟩
       obtain ⟨b6, o6, lk, e6, hbl6, hlk, hcell6⟩ := strs_get HA1.out (k := k) hlt
       obtain ⟨rfl, rfl⟩ : b1 = b6 ∧ o1 = o6 := by simpa using e6
       have HLK := Lib.hid (HPL.out lk (List.mem_of_getElem? hlk))
       have HCK := Lib.hid hcell6
       have HW1L := Lib.hid hbl6
       clear hcell6 e6 Q5
       go_wp2_with fail
       refine wp_region_rel (sruX rb b1 o1 ws.length c1 k ts.length (Value.slice A ts.length c) lk (tsR ts).flatten) (fun j => if j = 7 then some 8 else none) (fun L _ w' => (L 10 = false → RQ w w1 w' rb vd lo hi (Value.slice A ts.length c)) ∧ (L 8 = false → w'.ownsRow (rb + 1) TTestS 4 (Value.slice A ts.length c) ts.length (tsR ts).flatten) ∧ (L 10 = true → ∃ (tv' : Value) (t : Ts), RQ w w1 w' rb vd lo hi tv' ∧ w'.ownsRow (rb + 1) TTestS 4 tv' (ts.length + 1) ((tsR ts).flatten ++ tcS t) ∧ TW lk t) ∧ rb + 1 ≤ w'.heap.size) (fun i w w' => sruR rb i w w') (by kernel_rfl) (by kernel_rfl) ⟨fun _ => HQ.out.next (Below.refl _ _).drew, fun _ => HO.out, fun h => (by cases h), hZ⟩ ?_ ?_
       · intro i j wa wb u hji hcj hwj hR hT
         match j, hji, hcj, hwj, hT with
         | 0, _, _, _, h => exact h
         | 1, _, _, _, h => exact h
         | 2, _, _, _, h => exact h
         | 3, _, _, _, h => exact h
         | 4, _, _, _, h => exact h
         | 5, _, _, _, h => exact h
         | 6, _, _, _, h => exact h
         | 7, h1, h2, h3, h =>
           obtain ⟨b, t, e, hb, htw⟩ := h
           rcases hR with rfl | hR | ⟨x, cs, hcs, rfl⟩
           · exact absurd rfl h2
           · exact ⟨b, t, e, hb.below hR hb.lt, htw⟩
           · exact ⟨b, t, e, hb.far (show b ≠ rb by intro e2; subst e2; have := hb.symm.trans hcs; injection this with e3; injection e3 with e4 e5; exact absurd e5 (by decide)) _, htw⟩
         | 8, h1, h2, h3, h =>
           obtain ⟨t, h, htw⟩ := h
           rcases hR with rfl | hR | ⟨x, cs, hcs, rfl⟩
           · exact absurd rfl h1
           · exact ⟨t, own_below h hR, htw⟩
           · exact ⟨t, own_lowsetS h (Nat.lt_succ_self rb), htw⟩
         | 9, _, _, _, h => exact h
         | (m + 10), _, _, _, h => exact trivial
       refine wpRel_step [] (by kernel_rfl) (fun L kk w9 vals hk hw hun hcl hdl hT => ?_) ?_
       · have HW := Lib.hid hw; have HUN := Lib.hid hun; have HCL := Lib.hid hcl; have HDL := Lib.hid hdl
         clear hw hun hcl hdl hT
         simp only [fillR, Act.put, List.setIfInBounds_toArray, List.set_cons_succ, List.set_cons_zero]
         go_wp2
         exact ⟨_, rfl, rfl, ⟨fun h => HW.out.1 ((putL_neS (by decide)).symm.trans h), fun h => HW.out.2.1 ((putL_neS (by decide)).symm.trans h), fun h => HW.out.2.2.1 ((putL_neS (by decide)).symm.trans h), HW.out.2.2.2⟩, .inr (.inl (Below.refl _ _)), fun _ => rfl⟩
       refine wpRel_step [43] (by kernel_rfl) (fun L kk w9 vals hk hw hun hcl hdl hT => ?_) ?_
       · have t0 := hT 0 43 (by kernel_rfl) (.inl rfl)
         have HW := Lib.hid hw; have HUN := Lib.hid hun; have HCL := Lib.hid hcl; have HDL := Lib.hid hdl
         clear hw hun hcl hdl hT
         simp only [fillR, Act.put, List.setIfInBounds_toArray, List.set_cons_succ, List.set_cons_zero]
         rw [show vals 43 = Value.pointer (some ⟨rb, 3, none⟩) from t0]
         clear t0
         have y3 := (show _ = some (Value.slice A ts.length c) from (HW.out.1 (HCL.out 10 (by kernel_rfl))).rule.cell 3)
         go_wp2
         exact ⟨_, rfl, rfl, ⟨fun h => HW.out.1 ((putL_neS (by decide)).symm.trans h), fun h => HW.out.2.1 ((putL_neS (by decide)).symm.trans h), fun h => HW.out.2.2.1 ((putL_neS (by decide)).symm.trans h), HW.out.2.2.2⟩, .inr (.inl (Below.refl _ _)), fun _ => rfl⟩
       refine wpRel_step [] (by kernel_rfl) (fun L kk w9 vals hk hw hun hcl hdl hT => ?_) ?_
       · have HW := Lib.hid hw; have HUN := Lib.hid hun; have HCL := Lib.hid hcl; have HDL := Lib.hid hdl
         clear hw hun hcl hdl hT
         simp only [fillR, Act.put, List.setIfInBounds_toArray, List.set_cons_succ, List.set_cons_zero]
         go_wp2
         exact ⟨_, rfl, rfl, ⟨fun h => HW.out.1 ((putL_neS (by decide)).symm.trans h), fun h => HW.out.2.1 ((putL_neS (by decide)).symm.trans h), fun h => HW.out.2.2.1 ((putL_neS (by decide)).symm.trans h), HW.out.2.2.2⟩, .inr (.inl (Below.refl _ _)), fun _ => rfl⟩
       refine wpRel_step [] (by kernel_rfl) (fun L kk w9 vals hk hw hun hcl hdl hT => ?_) ?_
       · have HW := Lib.hid hw; have HUN := Lib.hid hun; have HCL := Lib.hid hcl; have HDL := Lib.hid hdl
         clear hw hun hcl hdl hT
         simp only [fillR, Act.put, List.setIfInBounds_toArray, List.set_cons_succ, List.set_cons_zero]
         go_wp2
         exact ⟨_, rfl, rfl, ⟨fun h => HW.out.1 ((putL_neS (by decide)).symm.trans h), fun h => HW.out.2.1 ((putL_neS (by decide)).symm.trans h), fun h => HW.out.2.2.1 ((putL_neS (by decide)).symm.trans h), HW.out.2.2.2⟩, .inr (.inl (Below.refl _ _)), fun _ => rfl⟩
       refine wpRel_step [45, 46] (by kernel_rfl) (fun L kk w9 vals hk hw hun hcl hdl hT => ?_) ?_
       · have t0 := hT 2 45 (by kernel_rfl) (.inl rfl)
         have t1 := hT 3 46 (by kernel_rfl) (.inl rfl)
         have HW := Lib.hid hw; have HUN := Lib.hid hun; have HCL := Lib.hid hcl; have HDL := Lib.hid hdl
         clear hw hun hcl hdl hT
         simp only [fillR, Act.put, List.setIfInBounds_toArray, List.set_cons_succ, List.set_cons_zero]
         rw [show vals 45 = Value.slice (some ⟨b1, o1, none⟩) ws.length c1 from t0]
         rw [show vals 46 = Value.int .i64 k from t1]
         clear t0 t1
         go_wp2
         exact ⟨_, rfl, rfl, ⟨fun h => HW.out.1 ((putL_neS (by decide)).symm.trans h), fun h => HW.out.2.1 ((putL_neS (by decide)).symm.trans h), fun h => HW.out.2.2.1 ((putL_neS (by decide)).symm.trans h), HW.out.2.2.2⟩, .inr (.inl (Below.refl _ _)), fun _ => rfl⟩
       refine wpRel_step [47] (by kernel_rfl) (fun L kk w9 vals hk hw hun hcl hdl hT => ?_) ?_
       · have t0 := hT 4 47 (by kernel_rfl) (.inl rfl)
         have HW := Lib.hid hw; have HUN := Lib.hid hun; have HCL := Lib.hid hcl; have HDL := Lib.hid hdl
         clear hw hun hcl hdl hT
         simp only [fillR, Act.put, List.setIfInBounds_toArray, List.set_cons_succ, List.set_cons_zero]
         rw [show vals 47 = Value.pointer (some ⟨b1, o1 + k, none⟩) from t0]
         clear t0
         have k6 := HCK.out w9 _ (HW.out.1 (HCL.out 10 (by kernel_rfl))).low HW1L.out
         go_wp2
         exact ⟨_, rfl, rfl, ⟨fun h => HW.out.1 ((putL_neS (by decide)).symm.trans h), fun h => HW.out.2.1 ((putL_neS (by decide)).symm.trans h), fun h => HW.out.2.2.1 ((putL_neS (by decide)).symm.trans h), HW.out.2.2.2⟩, .inr (.inl (Below.refl _ _)), fun _ => rfl⟩
       refine wpRel_step [48] (by kernel_rfl) (fun L kk w9 vals hk hw hun hcl hdl hT => ?_) ?_
       · have t0 := hT 5 48 (by kernel_rfl) (.inl rfl)
         have HW := Lib.hid hw; have HUN := Lib.hid hun; have HCL := Lib.hid hcl; have HDL := Lib.hid hdl
         clear hw hun hcl hdl hT
         simp only [fillR, Act.put, List.setIfInBounds_toArray, List.set_cons_succ, List.set_cons_zero]
         rw [show vals 48 = Value.string ⟨lk.toArray⟩ from t0]
         clear t0
         go_wp2_with fail
         refine (rdTest_all lk w9 HLK.out).mono ?_; rintro e w10 ⟨t, rfl, htw, hb10⟩
         have HTW : Hid (TW lk t) := Lib.hid htw
         clear htw
         have h8 : L 8 = false := HCL.out 8 (by kernel_rfl)
         have h10 : L 10 = false := HCL.out 10 (by kernel_rfl)
         have HQ1 := Lib.hid ((HW.out.1 h10).next hb10); have HO1 := Lib.hid (own_below (HW.out.2.1 h8) hb10)
         have hz := HW.out.2.2.2; have hz2 := hb10.size
         have HB10 := Lib.hid hb10
         clear hb10
         go_wp2
         exact ⟨_, rfl, rfl, ⟨fun _ => HQ1.out, fun _ => HO1.out, fun h => (by rw [putL_neS (by decide), h10] at h; cases h), by omega⟩, .inr (.inl HB10.out), fun _ => ⟨t, rfl, HTW.out⟩⟩
       refine wpRel_step [49] (by kernel_rfl) (fun L kk w9 vals hk hw hun hcl hdl hT => ?_) ?_
       · have t0 := hT 6 49 (by kernel_rfl) (.inl rfl)
         have HW := Lib.hid hw; have HUN := Lib.hid hun; have HCL := Lib.hid hcl; have HDL := Lib.hid hdl
         clear hw hun hcl hdl hT
         simp only [fillR, Act.put, List.setIfInBounds_toArray, List.set_cons_succ, List.set_cons_zero]
         obtain ⟨t, ht, htw⟩ := t0
         rw [ht]
         have HTW := Lib.hid htw
         clear ht htw
         have h8 : L 8 = false := HCL.out 8 (by kernel_rfl)
         have h10 : L 10 = false := HCL.out 10 (by kernel_rfl)
         have hzz := HW.out.2.2.2
         go_wp2
         have hb : Below w9.heap.size w9 (w9.alloc (.cells (tcS t).toArray TTestS)) := by go_grown
         exact ⟨_, rfl, rfl, ⟨fun _ => (HW.out.1 h10).next hb, fun _ => own_below (HW.out.2.1 h8) hb, fun h => (by rw [putL_neS (by decide), h10] at h; cases h), Nat.le_trans hzz (by simp)⟩, .inr (.inl hb), fun _ => ⟨w9.heap.size, t, rfl, Blk.new _ _ _, HTW.out⟩⟩
       refine wpRel_step [44, 50] (by kernel_rfl) (fun L kk w9 vals hk hw hun hcl hdl hT => ?_) ?_
       · have t0 := hT 1 44 (by kernel_rfl) (.inl rfl)
         have t1 := hT 7 50 (by kernel_rfl) (.inr rfl)
         have HW := Lib.hid hw; have HUN := Lib.hid hun; have HCL := Lib.hid hcl; have HDL := Lib.hid hdl
         clear hw hun hcl hdl hT
         simp only [fillR, Act.put, List.setIfInBounds_toArray, List.set_cons_succ, List.set_cons_zero]
         obtain ⟨b4, t, e4, hb4, htw⟩ := t1
         have HB4 := Lib.hid hb4; have HTW := Lib.hid htw
         clear hb4 htw
         rw [e4]
         rw [show vals 44 = Value.slice A ts.length c from t0]
         clear t0
         have h10 : L 10 = false := HCL.out 10 (by kernel_rfl)
         have HR1 := Lib.hid (HW.out.1 h10); have HO1 := Lib.hid (HW.out.2.1 HUN.out)
         have hzz := HW.out.2.2.2
         obtain ⟨i0, hi0, hz0, hz1, hz2⟩ := info_parts info_TestM
         go_wp2_with (at_builtin; go_must (refine wpList_append_own _ rfl (.tmp 44) (.tmp 50) _ rfl (rb + 1) TTestS i0 _ 4 32 Tryz.underlying56 hi0 hz0 hz1 hz2 rfl (by omega) (Value.slice A ts.length c) ts.length (tsR ts).flatten rfl HO1.out ⟨b4, 0, none⟩ 1 1 (tcS t) rfl rfl (blk_flatS HB4.out) (tcS_one t) (by unfold maxLen; omega) (by omega) (by omega) ?_); intro v7 w7 hown7 hg7 _; have HO7 := Lib.hid hown7; have HG7 := Lib.hid hg7; clear hown7 hg7)
         have hb7 := own_gbS HO1.out HG7.out hzz
         exact ⟨_, rfl, rfl, ⟨fun _ => HR1.out.below hb7 (by omega), fun h => (by simp [putL] at h), fun h => (by rw [putL_neS (by decide), h10] at h; cases h), by have := HG7.out.size; omega⟩, .inl rfl, fun _ => ⟨t, HO7.out, HTW.out⟩⟩
       refine wpRel_step [] (by kernel_rfl) (fun L kk w9 vals hk hw hun hcl hdl hT => ?_) ?_
       · have HW := Lib.hid hw; have HUN := Lib.hid hun; have HCL := Lib.hid hcl; have HDL := Lib.hid hdl
         clear hw hun hcl hdl hT
         simp only [fillR, Act.put, List.setIfInBounds_toArray, List.set_cons_succ, List.set_cons_zero]
         go_wp2
         exact ⟨_, rfl, rfl, ⟨fun h => HW.out.1 ((putL_neS (by decide)).symm.trans h), fun h => HW.out.2.1 ((putL_neS (by decide)).symm.trans h), fun h => HW.out.2.2.1 ((putL_neS (by decide)).symm.trans h), HW.out.2.2.2⟩, .inr (.inl (Below.refl _ _)), fun _ => rfl⟩
       refine wpRel_step [52, 51] (by kernel_rfl) (fun L kk w9 vals hk hw hun hcl hdl hT => ?_) ?_
       · have t0 := hT 9 52 (by kernel_rfl) (.inl rfl)
         have t1 := hT 8 51 (by kernel_rfl) (.inl rfl)
         have HW := Lib.hid hw; have HUN := Lib.hid hun; have HCL := Lib.hid hcl; have HDL := Lib.hid hdl
         clear hw hun hcl hdl hT
         simp only [fillR, Act.put, List.setIfInBounds_toArray, List.set_cons_succ, List.set_cons_zero]
         have HT5 := Lib.hid (show ∃ t : Ts, w9.ownsRow (rb + 1) TTestS 4 (vals 51) (ts.length + 1) ((tsR ts).flatten ++ tcS t) ∧ TW lk t from t1)
         obtain ⟨u5, hu5⟩ : ∃ u, u = vals 51 := ⟨_, rfl⟩
         rw [← hu5] at HT5 ⊢
         clear hu5 t1
         rw [show vals 52 = Value.pointer (some ⟨rb, 3, none⟩) from t0]
         clear t0
         obtain ⟨t, HT6, HTW⟩ : ∃ t : Ts, Hid (w9.ownsRow (rb + 1) TTestS 4 u5 (ts.length + 1) ((tsR ts).flatten ++ tcS t)) ∧ Hid (TW lk t) := by obtain ⟨t, h, h'⟩ := HT5.out; exact ⟨t, Lib.hid h, Lib.hid h'⟩
         clear HT5
         obtain ⟨b5, c5, rfl, hb5, hb5'⟩ := HT6.out.form (by omega)
         have HR1 := Lib.hid (HW.out.1 HUN.out)
         have hzz := HW.out.2.2.2
         have y3 := (show _ = some (Value.slice A ts.length c) from HR1.out.rule.cell 3); have q3 := HR1.out.rule.frozen 3
         have HR2 := Lib.hid (HR1.out.set (a' := vd) (b' := lo) (c' := hi) (tv' := .slice (some ⟨b5, 0, none⟩) (ts.length + 1) c5) 3 (.slice (some ⟨b5, 0, none⟩) (ts.length + 1) c5) rfl); have HO2 := Lib.hid (own_lowsetS (i := 3) (x := .slice (some ⟨b5, 0, none⟩) (ts.length + 1) c5) HT6.out (Nat.lt_succ_self rb))
         go_wp2
         exact ⟨undef, rfl, rfl, ⟨fun h => (by simp [putL] at h), fun h => (by rw [putL_neS (by decide), HDL.out 8 (by kernel_rfl)] at h; cases h), fun _ => ⟨_, t, HR2.out, HO2.out, HTW.out⟩, by simpa using hzz⟩, .inr (.inr ⟨_, _, HR1.out.rule, rfl⟩), fun h => absurd rfl h⟩
       refine wpRel_end [43, 44, 45, 46, 47, 48, 49, 50, 51, 52] (by kernel_rfl) (fun L w9 vals hl hw hT => ?_)
       obtain ⟨tv', t, hS9, hO9, hTW⟩ := hw.2.2.1 (hl 10 (by decide))
       have hZ9 := hw.2.2.2
       rw [← tsR_snoc] at hO9
       have HS9 := Lib.hid hS9; have HO9 := Lib.hid hO9; have HRN := Lib.hid (HRW.out.step HWS.out HTSL.out hlk hTW)
       clear hl hw hT hS9 hO9 hTW
       simp only [fillR, Act.put, List.setIfInBounds_toArray, List.set_cons_succ, List.set_cons_zero]
       go_wp2
       exact ⟨⟨k + 1, ts ++ [t], tv', by go_num, by omega, by omega, by simp; omega, HS9, Lib.hid (by simpa using HO9.out), hZ9, HRN⟩, by simp [intOf]; omega⟩
     · have hki : ¬ (k : Int) < ws.length := by omega
       obtain rfl : k = ws.length := by omega
       clear Q5
       have y0 := (show _ = some (Value.int .i64 vd) from HQ.out.rule.cell 0); have y1 := (show _ = some (Value.int .i64 lo) from HQ.out.rule.cell 1); have y2 := (show _ = some (Value.int .i64 hi) from HQ.out.rule.cell 2); have y3 := (show _ = some tv from HQ.out.rule.cell 3)
       go_upto_region 13 with (fail)
       obtain ⟨r, hr⟩ : ∃ r : Rl, r = ⟨vd, lo, hi, ts⟩ := ⟨_, rfl⟩
       obtain ⟨qb, hqb⟩ : ∃ qb, qb = wr.heap.size := ⟨_, rfl⟩
       obtain ⟨pb, hpb⟩ : ∃ pb, pb = wr.heap.size + 1 := ⟨_, rfl⟩
       obtain ⟨W13, hW13⟩ : ∃ W, W = (wr.alloc (.cells #[.int .i64 vd, .int .i64 lo, .int .i64 hi, tv] TRulS)).alloc (.cells #[.slice (some ⟨wr.heap.size, 0, none⟩) 1 1, .int .i64 1] 35) := ⟨_, rfl⟩
       have HZ13 : Hid (RZ w W13 rb qb pb r tv (rzRes false r tv)) := by
         rw [hW13, hr, hqb, hpb]
         have hp := Blk.new (wr.alloc (.cells #[.int .i64 vd, .int .i64 lo, .int .i64 hi, tv] TRulS)) 35 #[.slice (some ⟨wr.heap.size, 0, none⟩) 1 1, .int .i64 1]
         have h1 := HQ.out.more; have h2 := HQ.out.after
         exact Lib.hid ⟨(HQ.out.rule.alloc _).alloc _, (Blk.new _ _ _).alloc _, by simpa using hp, (HO.out.alloc _).alloc _, (HQ.out.res.alloc _).alloc _, HQ.out.all.trans (by go_grown), by omega, by omega, by omega⟩
       have HW13 := Lib.hid hW13
       have HPB := Lib.hid hpb
       obtain ⟨eq, heq⟩ : ∃ eq, eq = (ruleText r == l ++ [10]) := ⟨_, rfl⟩
       have HEQ := Lib.hid heq
       have HRI : Hid (∀ r' : Rl, ruleOkB r' = true → ruleText r' = l ++ [10] → r = r') := Lib.hid (by rw [hr]; exact rule_is HWS.out HL0.out HL1'.out HVD.out HES.out HM0.out HLO.out HJ.out HMJ.out HHI.out HRW.out HTSL.out)
       have HRR := Lib.hid hr
       have HTV : Hid (∃ A c, tv = .slice A ts.length c) := Lib.hid (by
         rcases HO.out.2 with ⟨rfl, h0⟩ | ⟨g', cap, cur, rfl, _⟩
         · exact ⟨none, 0, by rw [h0]⟩
         · exact ⟨_, _, rfl⟩)
       clear hr hqb hpb hW13 heq y0 y1 y2 y3
       rw [← HW13.out, ← HPB.out]
       cases hok : polOkB ⟨[r], 1⟩ with
       | true =>
         have HOK := Lib.hid hok
         have HRO : Hid (ruleOkB r = true) := Lib.hid (by
           unfold polOkB polShapeB at hok
           simp at hok
           exact hok.1.2)
         clear hok
         refine wp_region_rel (rzT qb l r tv true eq) (fun _ => none) (fun L _ w' => RZ w w' rb qb pb r tv (rzRes (L 10) r tv)) (fun _ _ _ => True) (by kernel_rfl) (by kernel_rfl) (show RZ w _ rb qb pb r tv (rzRes false r tv) from HZ13.out.next (Below.refl _ _).drew) (fun i j wa wb u _ _ _ _ h => rzT_any h) ?_
         refine wpRel_step [] (by kernel_rfl) (fun L kk w9 vals hk hw hun hcl hdl hT => ?_) ?_
         · have HZ := Lib.hid hw; have HUN := Lib.hid hun
           clear hw hun hcl hdl hT
           simp only [fillR, Act.put, List.setIfInBounds_toArray, List.set_cons_succ, List.set_cons_zero]
           have y0 := (show w9.cell? ⟨rb, 0, none⟩ = some (Value.int .i64 r.verdict) from HZ.out.rule.cell 0); have y1 := (show w9.cell? ⟨rb, 1, none⟩ = some (Value.int .i64 r.low) from HZ.out.rule.cell 1); have y2 := (show w9.cell? ⟨rb, 2, none⟩ = some (Value.int .i64 r.high) from HZ.out.rule.cell 2); have y3 := (show w9.cell? ⟨rb, 3, none⟩ = some tv from HZ.out.rule.cell 3)
           go_wp2
           exact ⟨_, rfl, rfl, (show RZ w _ rb qb pb _ tv (rzRes _ _ tv) from by rw [putL_neS (by decide)]; exact HZ.out), trivial, fun _ => rfl⟩
         refine wpRel_step [] (by kernel_rfl) (fun L kk w9 vals hk hw hun hcl hdl hT => ?_) ?_
         · have HZ := Lib.hid hw; have HUN := Lib.hid hun
           clear hw hun hcl hdl hT
           simp only [fillR, Act.put, List.setIfInBounds_toArray, List.set_cons_succ, List.set_cons_zero]
           have y0 := (show w9.cell? ⟨pb, 0, none⟩ = some (Value.slice (some ⟨qb, 0, none⟩) 1 1) from HZ.out.pol.cell 0); have y1 := (show w9.cell? ⟨pb, 1, none⟩ = some (Value.int .i64 1) from HZ.out.pol.cell 1)
           go_wp2
           exact ⟨_, rfl, rfl, (show RZ w _ rb qb pb _ tv (rzRes _ _ tv) from by rw [putL_neS (by decide)]; exact HZ.out), trivial, fun _ => rfl⟩
         refine wpRel_step [57] (by kernel_rfl) (fun L kk w9 vals hk hw hun hcl hdl hT => ?_) ?_
         · have t1 := hT 1 57 (by kernel_rfl) (.inl rfl)
           have HZ := Lib.hid hw; have HUN := Lib.hid hun
           clear hw hun hcl hdl hT
           simp only [fillR, Act.put, List.setIfInBounds_toArray, List.set_cons_succ, List.set_cons_zero]
           rw [show vals 57 = Value.agg #[.slice (some ⟨qb, 0, none⟩) 1 1, .int .i64 1] from t1]
           clear t1
           go_wp2_with fail
           refine (PolicyOk_any ⟨[r], 1⟩ _ w9 HZ.out.polIs).mono ?_; rintro e w10 ⟨rfl, hb10⟩
           rw [HOK.out]
           have HZ1 := Lib.hid (HZ.out.next hb10)
           clear hb10
           go_wp2
           exact ⟨_, rfl, rfl, (show RZ w _ rb qb pb _ tv (rzRes _ _ tv) from by rw [putL_neS (by decide)]; exact HZ1.out), trivial, fun _ => rfl⟩
         refine wpRel_step [58] (by kernel_rfl) (fun L kk w9 vals hk hw hun hcl hdl hT => ?_) ?_
         · have t2 := hT 2 58 (by kernel_rfl) (.inl rfl)
           have HZ := Lib.hid hw; have HUN := Lib.hid hun
           clear hw hun hcl hdl hT
           simp only [fillR, Act.put, List.setIfInBounds_toArray, List.set_cons_succ, List.set_cons_zero]
           rw [show vals 58 = Value.bool true from t2]
           clear t2
           go_wp2
           exact ⟨_, rfl, rfl, (show RZ w _ rb qb pb _ tv (rzRes _ _ tv) from by rw [putL_neS (by decide)]; exact HZ.out), trivial, fun _ => rfl⟩
         refine wpRel_step [59] (by kernel_rfl) (fun L kk w9 vals hk hw hun hcl hdl hT => ?_) ?_
         · have t3 := hT 3 59 (by kernel_rfl) (.inl rfl)
           have HZ := Lib.hid hw; have HUN := Lib.hid hun
           clear hw hun hcl hdl hT
           simp only [fillR, Act.put, List.setIfInBounds_toArray, List.set_cons_succ, List.set_cons_zero]
           rw [show vals 59 = Value.bool true from t3]
           clear t3
           have y0 := (show w9.cell? ⟨rb, 0, none⟩ = some (Value.int .i64 r.verdict) from HZ.out.rule.cell 0); have y1 := (show w9.cell? ⟨rb, 1, none⟩ = some (Value.int .i64 r.low) from HZ.out.rule.cell 1); have y2 := (show w9.cell? ⟨rb, 2, none⟩ = some (Value.int .i64 r.high) from HZ.out.rule.cell 2); have y3 := (show w9.cell? ⟨rb, 3, none⟩ = some tv from HZ.out.rule.cell 3)
           go_wp2
           exact ⟨_, rfl, rfl, (show RZ w _ rb qb pb _ tv (rzRes _ _ tv) from by rw [putL_neS (by decide)]; exact HZ.out), trivial, fun _ => fun _ => rfl⟩
         refine wpRel_step [60, 59] (by kernel_rfl) (fun L kk w9 vals hk hw hun hcl hdl hT => ?_) ?_
         · have t3 := hT 3 59 (by kernel_rfl) (.inl rfl)
           have t4 := hT 4 60 (by kernel_rfl) (.inl rfl) rfl
           have HZ := Lib.hid hw; have HUN := Lib.hid hun
           clear hw hun hcl hdl hT
           simp only [fillR, Act.put, List.setIfInBounds_toArray, List.set_cons_succ, List.set_cons_zero]
           rw [show vals 59 = Value.bool true from t3]
           clear t3
           rw [show vals 60 = Value.agg #[.int .i64 r.verdict, .int .i64 r.low, .int .i64 r.high, tv] from t4]
           clear t4
           go_wp2_with fail
           refine (l2Line_any r tv w9 HZ.out.tests HRO.out).mono ?_; rintro e w10 ⟨rfl, hb10⟩
           have HZ1 := Lib.hid (HZ.out.next hb10)
           clear hb10
           go_wp2
           exact ⟨_, rfl, rfl, (show RZ w _ rb qb pb _ tv (rzRes _ _ tv) from by rw [putL_neS (by decide)]; exact HZ1.out), trivial, fun _ => fun _ => rfl⟩
         refine wpRel_step [59] (by kernel_rfl) (fun L kk w9 vals hk hw hun hcl hdl hT => ?_) ?_
         · have t3 := hT 3 59 (by kernel_rfl) (.inl rfl)
           have HZ := Lib.hid hw; have HUN := Lib.hid hun
           clear hw hun hcl hdl hT
           simp only [fillR, Act.put, List.setIfInBounds_toArray, List.set_cons_succ, List.set_cons_zero]
           rw [show vals 59 = Value.bool true from t3]
           clear t3
           go_wp2
           exact ⟨_, rfl, rfl, (show RZ w _ rb qb pb _ tv (rzRes _ _ tv) from by rw [putL_neS (by decide)]; exact HZ.out), trivial, fun _ => fun _ => rfl⟩
         refine wpRel_step [62, 59] (by kernel_rfl) (fun L kk w9 vals hk hw hun hcl hdl hT => ?_) ?_
         · have t3 := hT 3 59 (by kernel_rfl) (.inl rfl)
           have t6 := hT 6 62 (by kernel_rfl) (.inl rfl) rfl
           have HZ := Lib.hid hw; have HUN := Lib.hid hun
           clear hw hun hcl hdl hT
           simp only [fillR, Act.put, List.setIfInBounds_toArray, List.set_cons_succ, List.set_cons_zero]
           rw [show vals 59 = Value.bool true from t3]
           clear t3
           rw [show vals 62 = Value.string ⟨l.toArray⟩ from t6]
           clear t6
           go_wp2
           exact ⟨_, rfl, rfl, (show RZ w _ rb qb pb _ tv (rzRes _ _ tv) from by rw [putL_neS (by decide)]; exact HZ.out), trivial, fun _ => fun _ => (congrArg Value.string (ByteArray.ext (by simp)))⟩
         refine wpRel_step [61, 63, 59] (by kernel_rfl) (fun L kk w9 vals hk hw hun hcl hdl hT => ?_) ?_
         · have t3 := hT 3 59 (by kernel_rfl) (.inl rfl)
           have t5 := hT 5 61 (by kernel_rfl) (.inl rfl) rfl
           have t7 := hT 7 63 (by kernel_rfl) (.inl rfl) rfl
           have HZ := Lib.hid hw; have HUN := Lib.hid hun
           clear hw hun hcl hdl hT
           simp only [fillR, Act.put, List.setIfInBounds_toArray, List.set_cons_succ, List.set_cons_zero]
           rw [show vals 59 = Value.bool true from t3]
           clear t3
           rw [show vals 61 = Value.string ⟨(ruleText r).toArray⟩ from t5]
           rw [show vals 63 = Value.string ⟨(l ++ [10]).toArray⟩ from t7]
           clear t5 t7
           go_wp2
           exact ⟨_, rfl, rfl, (show RZ w _ rb qb pb _ tv (rzRes _ _ tv) from by rw [putL_neS (by decide)]; exact HZ.out), trivial, fun _ => fun _ => (by rw [HEQ.out])⟩
         refine wpRel_step [59, 64] (by kernel_rfl) (fun L kk w9 vals hk hw hun hcl hdl hT => ?_) ?_
         · have t3 := hT 3 59 (by kernel_rfl) (.inl rfl)
           have t8 := hT 8 64 (by kernel_rfl) (.inl rfl) rfl
           have HZ := Lib.hid hw; have HUN := Lib.hid hun
           clear hw hun hcl hdl hT
           simp only [fillR, Act.put, List.setIfInBounds_toArray, List.set_cons_succ, List.set_cons_zero]
           rw [show vals 59 = Value.bool true from t3]
           clear t3
           rw [show vals 64 = Value.bool eq from t8]
           clear t8
           go_wp2
           exact ⟨_, rfl, rfl, (show RZ w _ rb qb pb _ tv (rzRes _ _ tv) from by rw [putL_neS (by decide)]; exact HZ.out), trivial, fun _ => rfl⟩
         refine wpRel_step [56] (by kernel_rfl) (fun L kk w9 vals hk hw hun hcl hdl hT => ?_) ?_
         · have t0 := hT 0 56 (by kernel_rfl) (.inl rfl)
           have HZ := Lib.hid hw; have HUN := Lib.hid hun
           clear hw hun hcl hdl hT
           simp only [fillR, Act.put, List.setIfInBounds_toArray, List.set_cons_succ, List.set_cons_zero]
           rw [show vals 56 = Value.agg #[.int .i64 r.verdict, .int .i64 r.low, .int .i64 r.high, tv] from t0]
           clear t0
           obtain ⟨A, c, rfl⟩ := HTV.out
           rw [HUN.out] at HZ
           have r0 := (show w9.cell? ⟨w.heap.size, 0, none⟩ = some (Value.int .i64 0) from HZ.out.res.cell 0); have r1 := (show w9.cell? ⟨w.heap.size, 1, none⟩ = some (Value.int .i64 0) from HZ.out.res.cell 1); have r2 := (show w9.cell? ⟨w.heap.size, 2, none⟩ = some (Value.int .i64 0) from HZ.out.res.cell 2); have r3 := (show w9.cell? ⟨w.heap.size, 3, none⟩ = some (Value.slice none 0 0) from HZ.out.res.cell 3)
           have rf0 := HZ.out.res.frozen 0; have rf1 := HZ.out.res.frozen 1; have rf2 := HZ.out.res.frozen 2; have rf3 := HZ.out.res.frozen 3
           go_wp2
           exact ⟨undef, rfl, rfl, (show RZ w _ rb qb pb r _ (rzRes true r _) from (((HZ.out.set 0 (.int .i64 r.verdict)).set 1 (.int .i64 r.low)).set 2 (.int .i64 r.high)).set 3 (.slice A ts.length c)), trivial, fun h => absurd rfl h⟩
         refine wpRel_step [65] (by kernel_rfl) (fun L kk w9 vals hk hw hun hcl hdl hT => ?_) ?_
         · have t9 := hT 9 65 (by kernel_rfl) (.inl rfl)
           have HZ := Lib.hid hw; have HUN := Lib.hid hun
           clear hw hun hcl hdl hT
           simp only [fillR, Act.put, List.setIfInBounds_toArray, List.set_cons_succ, List.set_cons_zero]
           rw [show vals 65 = Value.bool (true && eq) from t9]
           clear t9
           go_wp2
           exact ⟨_, rfl, rfl, (show RZ w _ rb qb pb _ tv (rzRes _ _ tv) from by rw [putL_neS (by decide)]; exact HZ.out), trivial, fun _ => rfl⟩
         refine wpRel_end [56, 57, 58, 59, 60, 61, 62, 63, 64, 65, 3] (by kernel_rfl) (fun L w9 vals hl hw hT => ?_)
         have t11 := hT 11 3 (by kernel_rfl) rfl
         rw [hl 10 (by decide)] at hw
         have HZ := Lib.hid hw
         clear hl hw hT
         simp only [fillR, Act.put, List.setIfInBounds_toArray, List.set_cons_succ, List.set_cons_zero]
         rw [show vals 3 = Value.bool (true && eq) from t11]
         clear t11
         have r0 := (show w9.cell? ⟨w.heap.size, 0, none⟩ = some (Value.int .i64 r.verdict) from HZ.out.res.cell 0); have r1 := (show w9.cell? ⟨w.heap.size, 1, none⟩ = some (Value.int .i64 r.low) from HZ.out.res.cell 1); have r2 := (show w9.cell? ⟨w.heap.size, 2, none⟩ = some (Value.int .i64 r.high) from HZ.out.res.cell 2); have r3 := (show w9.cell? ⟨w.heap.size, 3, none⟩ = some tv from HZ.out.res.cell 3)
         have HOF := Lib.hid (own_base HZ.out.own (show w.heap.size ≤ rb + 1 by have := HZ.out.rlow; omega))
         have FIN := Lib.hid (rule_fin2 (w := w) (w' := w9) (l := l) (r := r) (tv := tv) (ok := true && eq) (fun h => ⟨HOK.out, by have h2 : eq = true := (by simpa using h); rw [HEQ.out] at h2; exact eq_of_beq h2⟩) (rule_no HRI.out HOK.out HEQ.out) HOF.out HZ.out.below)
         go_wp2
         exact bodyPost_ret (v := .tuple #[.agg #[.int .i64 r.verdict, .int .i64 r.low, .int .i64 r.high, tv], .bool (true && eq)]) (by simp [results, Tryz.results25, go_sem, r0, r1, r2, r3]) rfl (FIN.out _ _ rfl rfl)
       | false =>
         have HOK := Lib.hid hok
         clear hok
         refine wp_region_rel (rzT qb l r tv false eq) (fun _ => none) (fun L _ w' => RZ w w' rb qb pb r tv (rzRes (L 10) r tv)) (fun _ _ _ => True) (by kernel_rfl) (by kernel_rfl) (show RZ w _ rb qb pb r tv (rzRes false r tv) from HZ13.out.next (Below.refl _ _).drew) (fun i j wa wb u _ _ _ _ h => rzT_any h) ?_
         refine wpRel_step [] (by kernel_rfl) (fun L kk w9 vals hk hw hun hcl hdl hT => ?_) ?_
         · have HZ := Lib.hid hw; have HUN := Lib.hid hun
           clear hw hun hcl hdl hT
           simp only [fillR, Act.put, List.setIfInBounds_toArray, List.set_cons_succ, List.set_cons_zero]
           have y0 := (show w9.cell? ⟨rb, 0, none⟩ = some (Value.int .i64 r.verdict) from HZ.out.rule.cell 0); have y1 := (show w9.cell? ⟨rb, 1, none⟩ = some (Value.int .i64 r.low) from HZ.out.rule.cell 1); have y2 := (show w9.cell? ⟨rb, 2, none⟩ = some (Value.int .i64 r.high) from HZ.out.rule.cell 2); have y3 := (show w9.cell? ⟨rb, 3, none⟩ = some tv from HZ.out.rule.cell 3)
           go_wp2
           exact ⟨_, rfl, rfl, (show RZ w _ rb qb pb _ tv (rzRes _ _ tv) from by rw [putL_neS (by decide)]; exact HZ.out), trivial, fun _ => rfl⟩
         refine wpRel_step [] (by kernel_rfl) (fun L kk w9 vals hk hw hun hcl hdl hT => ?_) ?_
         · have HZ := Lib.hid hw; have HUN := Lib.hid hun
           clear hw hun hcl hdl hT
           simp only [fillR, Act.put, List.setIfInBounds_toArray, List.set_cons_succ, List.set_cons_zero]
           have y0 := (show w9.cell? ⟨pb, 0, none⟩ = some (Value.slice (some ⟨qb, 0, none⟩) 1 1) from HZ.out.pol.cell 0); have y1 := (show w9.cell? ⟨pb, 1, none⟩ = some (Value.int .i64 1) from HZ.out.pol.cell 1)
           go_wp2
           exact ⟨_, rfl, rfl, (show RZ w _ rb qb pb _ tv (rzRes _ _ tv) from by rw [putL_neS (by decide)]; exact HZ.out), trivial, fun _ => rfl⟩
         refine wpRel_step [57] (by kernel_rfl) (fun L kk w9 vals hk hw hun hcl hdl hT => ?_) ?_
         · have t1 := hT 1 57 (by kernel_rfl) (.inl rfl)
           have HZ := Lib.hid hw; have HUN := Lib.hid hun
           clear hw hun hcl hdl hT
           simp only [fillR, Act.put, List.setIfInBounds_toArray, List.set_cons_succ, List.set_cons_zero]
           rw [show vals 57 = Value.agg #[.slice (some ⟨qb, 0, none⟩) 1 1, .int .i64 1] from t1]
           clear t1
           go_wp2_with fail
           refine (PolicyOk_any ⟨[r], 1⟩ _ w9 HZ.out.polIs).mono ?_; rintro e w10 ⟨rfl, hb10⟩
           rw [HOK.out]
           have HZ1 := Lib.hid (HZ.out.next hb10)
           clear hb10
           go_wp2
           exact ⟨_, rfl, rfl, (show RZ w _ rb qb pb _ tv (rzRes _ _ tv) from by rw [putL_neS (by decide)]; exact HZ1.out), trivial, fun _ => rfl⟩
         refine wpRel_step [58] (by kernel_rfl) (fun L kk w9 vals hk hw hun hcl hdl hT => ?_) ?_
         · have t2 := hT 2 58 (by kernel_rfl) (.inl rfl)
           have HZ := Lib.hid hw; have HUN := Lib.hid hun
           clear hw hun hcl hdl hT
           simp only [fillR, Act.put, List.setIfInBounds_toArray, List.set_cons_succ, List.set_cons_zero]
           rw [show vals 58 = Value.bool false from t2]
           clear t2
           go_wp2
           exact ⟨_, rfl, rfl, (show RZ w _ rb qb pb _ tv (rzRes _ _ tv) from by rw [putL_neS (by decide)]; exact HZ.out), trivial, fun _ => rfl⟩
         refine wpRel_step [59] (by kernel_rfl) (fun L kk w9 vals hk hw hun hcl hdl hT => ?_) ?_
         · have t3 := hT 3 59 (by kernel_rfl) (.inl rfl)
           have HZ := Lib.hid hw; have HUN := Lib.hid hun
           clear hw hun hcl hdl hT
           simp only [fillR, Act.put, List.setIfInBounds_toArray, List.set_cons_succ, List.set_cons_zero]
           rw [show vals 59 = Value.bool false from t3]
           clear t3
           go_wp2
           exact ⟨_, rfl, rfl, (show RZ w _ rb qb pb _ tv (rzRes _ _ tv) from by rw [putL_neS (by decide)]; exact HZ.out), trivial, fun _ => fun h => absurd h Bool.false_ne_true⟩
         refine wpRel_step [60, 59] (by kernel_rfl) (fun L kk w9 vals hk hw hun hcl hdl hT => ?_) ?_
         · have t3 := hT 3 59 (by kernel_rfl) (.inl rfl)
           have HZ := Lib.hid hw; have HUN := Lib.hid hun
           clear hw hun hcl hdl hT
           simp only [fillR, Act.put, List.setIfInBounds_toArray, List.set_cons_succ, List.set_cons_zero]
           rw [show vals 59 = Value.bool false from t3]
           clear t3
           go_wp2
           exact ⟨_, rfl, rfl, (show RZ w _ rb qb pb _ tv (rzRes _ _ tv) from by rw [putL_neS (by decide)]; exact HZ.out), trivial, fun _ => fun h => absurd h Bool.false_ne_true⟩
         refine wpRel_step [59] (by kernel_rfl) (fun L kk w9 vals hk hw hun hcl hdl hT => ?_) ?_
         · have t3 := hT 3 59 (by kernel_rfl) (.inl rfl)
           have HZ := Lib.hid hw; have HUN := Lib.hid hun
           clear hw hun hcl hdl hT
           simp only [fillR, Act.put, List.setIfInBounds_toArray, List.set_cons_succ, List.set_cons_zero]
           rw [show vals 59 = Value.bool false from t3]
           clear t3
           go_wp2
           exact ⟨_, rfl, rfl, (show RZ w _ rb qb pb _ tv (rzRes _ _ tv) from by rw [putL_neS (by decide)]; exact HZ.out), trivial, fun _ => fun h => absurd h Bool.false_ne_true⟩
         refine wpRel_step [62, 59] (by kernel_rfl) (fun L kk w9 vals hk hw hun hcl hdl hT => ?_) ?_
         · have t3 := hT 3 59 (by kernel_rfl) (.inl rfl)
           have HZ := Lib.hid hw; have HUN := Lib.hid hun
           clear hw hun hcl hdl hT
           simp only [fillR, Act.put, List.setIfInBounds_toArray, List.set_cons_succ, List.set_cons_zero]
           rw [show vals 59 = Value.bool false from t3]
           clear t3
           go_wp2
           exact ⟨_, rfl, rfl, (show RZ w _ rb qb pb _ tv (rzRes _ _ tv) from by rw [putL_neS (by decide)]; exact HZ.out), trivial, fun _ => fun h => absurd h Bool.false_ne_true⟩
         refine wpRel_step [61, 63, 59] (by kernel_rfl) (fun L kk w9 vals hk hw hun hcl hdl hT => ?_) ?_
         · have t3 := hT 3 59 (by kernel_rfl) (.inl rfl)
           have HZ := Lib.hid hw; have HUN := Lib.hid hun
           clear hw hun hcl hdl hT
           simp only [fillR, Act.put, List.setIfInBounds_toArray, List.set_cons_succ, List.set_cons_zero]
           rw [show vals 59 = Value.bool false from t3]
           clear t3
           go_wp2
           exact ⟨_, rfl, rfl, (show RZ w _ rb qb pb _ tv (rzRes _ _ tv) from by rw [putL_neS (by decide)]; exact HZ.out), trivial, fun _ => fun h => absurd h Bool.false_ne_true⟩
         refine wpRel_step [59, 64] (by kernel_rfl) (fun L kk w9 vals hk hw hun hcl hdl hT => ?_) ?_
         · have t3 := hT 3 59 (by kernel_rfl) (.inl rfl)
           have HZ := Lib.hid hw; have HUN := Lib.hid hun
           clear hw hun hcl hdl hT
           simp only [fillR, Act.put, List.setIfInBounds_toArray, List.set_cons_succ, List.set_cons_zero]
           rw [show vals 59 = Value.bool false from t3]
           clear t3
           go_wp2
           exact ⟨_, rfl, rfl, (show RZ w _ rb qb pb _ tv (rzRes _ _ tv) from by rw [putL_neS (by decide)]; exact HZ.out), trivial, fun _ => rfl⟩
         refine wpRel_step [56] (by kernel_rfl) (fun L kk w9 vals hk hw hun hcl hdl hT => ?_) ?_
         · have t0 := hT 0 56 (by kernel_rfl) (.inl rfl)
           have HZ := Lib.hid hw; have HUN := Lib.hid hun
           clear hw hun hcl hdl hT
           simp only [fillR, Act.put, List.setIfInBounds_toArray, List.set_cons_succ, List.set_cons_zero]
           rw [show vals 56 = Value.agg #[.int .i64 r.verdict, .int .i64 r.low, .int .i64 r.high, tv] from t0]
           clear t0
           obtain ⟨A, c, rfl⟩ := HTV.out
           rw [HUN.out] at HZ
           have r0 := (show w9.cell? ⟨w.heap.size, 0, none⟩ = some (Value.int .i64 0) from HZ.out.res.cell 0); have r1 := (show w9.cell? ⟨w.heap.size, 1, none⟩ = some (Value.int .i64 0) from HZ.out.res.cell 1); have r2 := (show w9.cell? ⟨w.heap.size, 2, none⟩ = some (Value.int .i64 0) from HZ.out.res.cell 2); have r3 := (show w9.cell? ⟨w.heap.size, 3, none⟩ = some (Value.slice none 0 0) from HZ.out.res.cell 3)
           have rf0 := HZ.out.res.frozen 0; have rf1 := HZ.out.res.frozen 1; have rf2 := HZ.out.res.frozen 2; have rf3 := HZ.out.res.frozen 3
           go_wp2
           exact ⟨undef, rfl, rfl, (show RZ w _ rb qb pb r _ (rzRes true r _) from (((HZ.out.set 0 (.int .i64 r.verdict)).set 1 (.int .i64 r.low)).set 2 (.int .i64 r.high)).set 3 (.slice A ts.length c)), trivial, fun h => absurd rfl h⟩
         refine wpRel_step [65] (by kernel_rfl) (fun L kk w9 vals hk hw hun hcl hdl hT => ?_) ?_
         · have t9 := hT 9 65 (by kernel_rfl) (.inl rfl)
           have HZ := Lib.hid hw; have HUN := Lib.hid hun
           clear hw hun hcl hdl hT
           simp only [fillR, Act.put, List.setIfInBounds_toArray, List.set_cons_succ, List.set_cons_zero]
           rw [show vals 65 = Value.bool (false && eq) from t9]
           clear t9
           go_wp2
           exact ⟨_, rfl, rfl, (show RZ w _ rb qb pb _ tv (rzRes _ _ tv) from by rw [putL_neS (by decide)]; exact HZ.out), trivial, fun _ => rfl⟩
         refine wpRel_end [56, 57, 58, 59, 60, 61, 62, 63, 64, 65, 3] (by kernel_rfl) (fun L w9 vals hl hw hT => ?_)
         have t11 := hT 11 3 (by kernel_rfl) rfl
         rw [hl 10 (by decide)] at hw
         have HZ := Lib.hid hw
         clear hl hw hT
         simp only [fillR, Act.put, List.setIfInBounds_toArray, List.set_cons_succ, List.set_cons_zero]
         rw [show vals 3 = Value.bool (false && eq) from t11]
         clear t11
         have r0 := (show w9.cell? ⟨w.heap.size, 0, none⟩ = some (Value.int .i64 r.verdict) from HZ.out.res.cell 0); have r1 := (show w9.cell? ⟨w.heap.size, 1, none⟩ = some (Value.int .i64 r.low) from HZ.out.res.cell 1); have r2 := (show w9.cell? ⟨w.heap.size, 2, none⟩ = some (Value.int .i64 r.high) from HZ.out.res.cell 2); have r3 := (show w9.cell? ⟨w.heap.size, 3, none⟩ = some tv from HZ.out.res.cell 3)
         have HOF := Lib.hid (own_base HZ.out.own (show w.heap.size ≤ rb + 1 by have := HZ.out.rlow; omega))
         have FIN := Lib.hid (rule_fin2 (w := w) (w' := w9) (l := l) (r := r) (tv := tv) (ok := false && eq) (fun h => absurd h (by simp)) (rule_no HRI.out HOK.out HEQ.out) HOF.out HZ.out.below)
         go_wp2
         exact bodyPost_ret (v := .tuple #[.agg #[.int .i64 r.verdict, .int .i64 r.low, .int .i64 r.high, tv], .bool (false && eq)]) (by simp [results, Tryz.results25, go_sem, r0, r1, r2, r3]) rfl (FIN.out _ _ rfl rfl)
end Go.Proofs.YtdjgicapbpoigaaGreatDoor
