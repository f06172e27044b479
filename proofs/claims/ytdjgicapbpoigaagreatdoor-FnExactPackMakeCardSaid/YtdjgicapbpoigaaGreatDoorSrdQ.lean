/- A rule's text taken apart by spec's reader, in plain Lean: its words, and what is found in a test's. No program in sight. -/
import Derived.Test.YtdjgicapbpoigaaGreatDoorTxt
namespace Go.Proofs.YtdjgicapbpoigaaGreatDoor
open Go.RowKit
set_option linter.unusedSimpArgs false
set_option linter.unusedVariables false

def testField (t : Ts) : List UInt8 := Lib.itoa t.field ++ maskText t.mask
def testWord (t : Ts) : List UInt8 := 97 :: (testField t ++ (signNm t.op ++ Lib.itoa t.value))
theorem testText_word (t : Ts) : testText t = 32 :: testWord t := by simp [testText, testWord, testField]
def numsText (r : Rl) : List UInt8 := Lib.itoa r.low ++ highText r.low r.high
def posT (t : Ts) : Nat := 1 + (testField t).length
theorem itoa_not {n : Int} (h : 0 ≤ n) {b : UInt8} (hb : isDig b = false) : ∀ x ∈ Lib.itoa n, x ≠ b := fun x hx e => by
 have := itoa_digits n h x hx
 rw [e, hb] at this
 cases this
theorem field_not {t : Ts} (h : testOkB t = true) {b : UInt8} (hb : isDig b = false) (h38 : b ≠ 38) : ∀ x ∈ testField t, x ≠ b := fun x hx => by
 obtain ⟨⟨f1, f2⟩, ⟨m1, m2⟩, ⟨v1, v2⟩, ⟨o1, o2⟩⟩ := testOkB_words h
 unfold testField maskText at hx
 rcases List.mem_append.1 hx with hx | hx
 · exact itoa_not (by omega) hb x hx
 · split at hx
   · simp at hx
   · rcases List.mem_cons.1 hx with rfl | hx
     · exact fun e => h38 e.symm
     · exact itoa_not (by omega) hb x hx
theorem word_not {t : Ts} (h : testOkB t = true) : ∀ x ∈ testWord t, x ≠ 32 := fun x hx => by
 obtain ⟨⟨f1, f2⟩, ⟨m1, m2⟩, ⟨v1, v2⟩, ⟨o1, o2⟩⟩ := testOkB_words h
 unfold testWord at hx
 rcases List.mem_cons.1 hx with rfl | hx
 · decide
 rcases List.mem_append.1 hx with hx | hx
 · exact field_not h (by decide) (by decide) x hx
 rcases List.mem_append.1 hx with hx | hx
 · obtain h | h | h : t.op = 1 ∨ t.op = 2 ∨ t.op = 3 := by omega
   all_goals
     rw [h] at hx
     simp [signNm] at hx
     rw [hx]
     decide
 · exact itoa_not v1 (by decide) x hx
theorem verd_not (v : Int) : ∀ x ∈ verdNm v, x ≠ 32 := by
 unfold verdNm
 split
 · decide
 split
 · decide
 split
 · decide
 split
 · decide
 · simp
theorem nums_not {r : Rl} (h : ruleOkB r = true) : ∀ x ∈ numsText r, x ≠ 32 := fun x hx => by
 obtain ⟨⟨v1, v2⟩, ⟨l1, l2⟩, hh, n4, hts⟩ := ruleOkB_words h
 unfold numsText highText at hx
 rcases List.mem_append.1 hx with hx | hx
 · exact itoa_not (by omega) (by decide) x hx
 · split at hx
   · simp at hx
   · rcases List.mem_cons.1 hx with rfl | hx
     · decide
     · exact itoa_not (by omega) (by decide) x hx
theorem tests_cut : ∀ (ts : List Ts) (cur : List UInt8), (∀ t ∈ ts, testOkB t = true) → (∀ x ∈ cur, x ≠ 32) → cut 32 (cur ++ testsText ts) = cur :: ts.map testWord
 | [], cur, _, hc => by
   rw [show testsText [] = [] from rfl, List.append_nil]
   exact cut_last hc
 | t :: ts, cur, h, hc => by
   have e : testsText (t :: ts) = 32 :: (testWord t ++ testsText ts) := by simp [testsText, testText_word]
   rw [e, cut_word hc, tests_cut ts (testWord t) (fun x hx => h x (by simp [hx])) (word_not (h t (by simp)))]
   rfl
theorem rule_cut {r : Rl} (h : ruleOkB r = true) : cut 32 (headText r ++ testsText r.tests) = verdNm r.verdict :: numsText r :: r.tests.map testWord := by
 have e : headText r ++ testsText r.tests = verdNm r.verdict ++ 32 :: (numsText r ++ testsText r.tests) := by simp [headText, numsText]
 rw [e, cut_word (verd_not _), tests_cut r.tests _ (ruleOkB_words h).2.2.2.2 (nums_not h)]
theorem nums_cut {r : Rl} (h : ruleOkB r = true) : ∃ es : List (List UInt8), cut 45 (numsText r) = es ∧ (es = [Lib.itoa r.low] ∧ r.high = r.low ∨ es = [Lib.itoa r.low, Lib.itoa r.high]) := by
 obtain ⟨⟨v1, v2⟩, ⟨l1, l2⟩, hh, n4, hts⟩ := ruleOkB_words h
 refine ⟨_, rfl, ?_⟩
 unfold numsText highText
 split
 · left
   rename_i e
   rw [List.append_nil, cut_last (itoa_not l1 (by decide))]
   exact ⟨rfl, e⟩
 · right
   rw [cut_word (itoa_not l1 (by decide)), cut_last (itoa_not (by omega) (by decide))]
theorem field_cut {t : Ts} (h : testOkB t = true) : cut 38 (testField t) = [Lib.itoa t.field] ∧ t.mask = 4294967295 ∨ cut 38 (testField t) = [Lib.itoa t.field, Lib.itoa t.mask] := by
 obtain ⟨⟨f1, f2⟩, ⟨m1, m2⟩, ⟨v1, v2⟩, ⟨o1, o2⟩⟩ := testOkB_words h
 unfold testField maskText
 split
 · left
   rename_i e
   rw [List.append_nil, cut_last (itoa_not (by omega) (by decide))]
   exact ⟨rfl, e⟩
 · right
   rw [cut_word (itoa_not (by omega) (by decide)), cut_last (itoa_not (by omega) (by decide))]
theorem word_at {t : Ts} (h : testOkB t = true) {i : Nat} {x : UInt8} (hi : i < posT t) (hx : (testWord t)[i]? = some x) : x ≠ 61 ∧ x ≠ 60 ∧ x ≠ 62 := by
 unfold posT at hi
 unfold testWord at hx
 cases i with
 | zero => simp at hx; subst hx; decide
 | succ i =>
   rw [List.getElem?_cons_succ, List.getElem?_append_left (by omega)] at hx
   have hm := List.mem_of_getElem? hx
   exact ⟨field_not h (by decide) (by decide) x hm, field_not h (by decide) (by decide) x hm, field_not h (by decide) (by decide) x hm⟩
def signB (k : Nat) : UInt8 := if k = 1 then 61 else if k = 2 then 60 else 62
theorem sign_b {t : Ts} (h : testOkB t = true) : ∃ k : Nat, t.op = k ∧ (1 ≤ k ∧ k ≤ 3) ∧ signNm t.op = [signB k] := by
 obtain ⟨_, _, _, ⟨o1, o2⟩⟩ := testOkB_words h
 obtain e | e | e : t.op = 1 ∨ t.op = 2 ∨ t.op = 3 := by omega
 · exact ⟨1, by omega, by omega, by rw [e]; rfl⟩
 · exact ⟨2, by omega, by omega, by rw [e]; rfl⟩
 · exact ⟨3, by omega, by omega, by rw [e]; rfl⟩
theorem word_sign {t : Ts} (h : testOkB t = true) : ∃ k : Nat, t.op = k ∧ (1 ≤ k ∧ k ≤ 3) ∧ (testWord t)[posT t]? = some (signB k) := by
 obtain ⟨k, h1, h2, h3⟩ := sign_b h
 refine ⟨k, h1, h2, ?_⟩
 unfold testWord posT
 rw [Nat.add_comm, List.getElem?_cons_succ, List.getElem?_append_right (Nat.le_refl _), Nat.sub_self, h3]
 rfl
theorem pos_lt (t : Ts) (h : testOkB t = true) : posT t < (testWord t).length := by
 obtain ⟨k, _, _, h3⟩ := word_sign h
 exact (List.getElem?_eq_some_iff.1 h3).1
theorem signB_inj {j k : Nat} (hj : 1 ≤ j ∧ j ≤ 3) (hk : 1 ≤ k ∧ k ≤ 3) (h : signB j = signB k) : j = k := by
 obtain rfl | rfl | rfl : j = 1 ∨ j = 2 ∨ j = 3 := by omega
 all_goals obtain rfl | rfl | rfl : k = 1 ∨ k = 2 ∨ k = 3 := by omega
 all_goals first | rfl | (exfalso; revert h; decide)
theorem signB_no {k : Nat} {x : UInt8} (h : x ≠ 61 ∧ x ≠ 60 ∧ x ≠ 62) : x ≠ signB k := by
 unfold signB
 split
 · exact h.1
 split
 · exact h.2.1
 · exact h.2.2
def WishO (l : List UInt8) (k av : Nat) (op : Int) : Prop := ∀ t : Ts, testOkB t = true → l = testWord t → (k ≤ posT t ∧ av = 0 ∧ op = 0) ∨ (k = posT t + 1 ∧ av = posT t ∧ op = t.op)
def WishI (l : List UInt8) (k kv av : Nat) (op : Int) : Prop := ∀ t : Ts, testOkB t = true → l = testWord t → (k ≤ posT t ∧ av = 0 ∧ op = 0 ∧ (k = posT t → (kv : Int) ≤ t.op)) ∨ (k = posT t ∧ av = posT t ∧ op = t.op ∧ t.op < (kv : Int))
theorem WishO.start (l : List UInt8) : WishO l 0 0 0 := fun t _ _ => .inl ⟨Nat.zero_le _, rfl, rfl⟩
theorem WishO.inner {l : List UInt8} {k : Nat} {op : Int} (h : WishO l k 0 op) : WishI l k 1 0 op := fun t ht hl => by
 obtain ⟨_, _, _, ⟨o1, o2⟩⟩ := testOkB_words ht
 rcases h t ht hl with ⟨h1, h2, h3⟩ | ⟨h1, h2, h3⟩
 · exact .inl ⟨h1, rfl, h3, fun _ => by omega⟩
 · unfold posT at h2; omega
theorem WishI.hit {l : List UInt8} {k kv av : Nat} {op : Int} (hk : 1 ≤ kv ∧ kv ≤ 3) (hy : l[k]? = some (signB kv)) (h : WishI l k kv av op) : WishI l k (kv + 1) k (kv : Int) := fun t ht hl => by
 obtain ⟨j, hj, hj3, hs⟩ := word_sign ht
 rw [← hl] at hs
 have hkp : k = posT t := by
   have hle : k ≤ posT t := by rcases h t ht hl with h | h <;> omega
   rcases Nat.lt_or_ge k (posT t) with h0 | h0
   · rw [hl] at hy
     exact absurd rfl (signB_no (k := kv) (word_at ht h0 hy))
   · omega
 rw [← hkp, hy] at hs
 have hjk := signB_inj hk hj3 (Option.some.inj hs)
 exact .inr ⟨hkp, hkp, by omega, by omega⟩
theorem WishI.miss {l : List UInt8} {k kv av : Nat} {op : Int} (hy : l[k]? ≠ some (signB kv)) (h : WishI l k kv av op) : WishI l k (kv + 1) av op := fun t ht hl => by
 obtain ⟨j, hj, hj3, hs⟩ := word_sign ht
 rcases h t ht hl with ⟨h1, h2, h3, h4⟩ | ⟨h1, h2, h3, h4⟩
 · refine .inl ⟨h1, h2, h3, fun hp => ?_⟩
   have := h4 hp
   by_cases e : t.op = kv
   · exfalso
     rw [← hl] at hs
     rw [hp, hs] at hy
     exact hy (by rw [show j = kv by omega])
   · omega
 · exact .inr ⟨h1, h2, h3, by omega⟩
theorem WishI.outer {l : List UInt8} {k av : Nat} {op : Int} (h : WishI l k 4 av op) : WishO l (k + 1) av op := fun t ht hl => by
 obtain ⟨_, _, _, ⟨o1, o2⟩⟩ := testOkB_words ht
 rcases h t ht hl with ⟨h1, h2, h3, h4⟩ | ⟨h1, h2, h3, h4⟩
 · refine .inl ⟨?_, h2, h3⟩
   rcases Nat.lt_or_ge k (posT t) with h0 | h0
   · exact h0
   · have := h4 (by omega); omega
 · exact .inr ⟨by omega, h2, h3⟩
theorem WishO.none {l : List UInt8} {k : Nat} {op : Int} (h : WishO l k 0 op) (hk : l.length ≤ k) : ∀ t : Ts, testOkB t = true → l = testWord t → False := fun t ht hl => by
 have := pos_lt t ht
 rw [← hl] at this
 rcases h t ht hl with ⟨h1, _⟩ | ⟨_, h2, _⟩
 · omega
 · unfold posT at h2; omega
theorem WishO.found {l : List UInt8} {k av : Nat} {op : Int} (h : WishO l k av op) (ha : av ≠ 0) : ∀ t : Ts, testOkB t = true → l = testWord t → av = posT t ∧ op = t.op ∧ l.drop (av + 1) = Lib.itoa t.value ∧ (l.drop 1).take (av - 1) = testField t := fun t ht hl => by
 rcases h t ht hl with ⟨_, h2, _⟩ | ⟨_, h2, h3⟩
 · exact absurd h2 ha
 · obtain ⟨j, hj, hj3, hs⟩ := sign_b ht
   refine ⟨h2, h3, ?_, ?_⟩
   · rw [hl, h2]
     unfold testWord posT
     rw [show 1 + (testField t).length + 1 = ((testField t).length + 1) + 1 from by omega, List.drop_succ_cons, hs]
     rw [show (testField t).length + 1 = (testField t).length + [signB j].length from rfl, ← List.append_assoc, ← List.length_append, List.drop_left]
   · rw [hl, h2]
     unfold testWord posT
     rw [show 1 + (testField t).length - 1 = (testField t).length from by omega, List.drop_succ_cons, List.drop_zero, List.take_left]
theorem WishO.one {l : List UInt8} {k av : Nat} {op n0 n3 : Int} {ws : List (List UInt8)} {l0 : List UInt8} (h : WishO l k av op) (ha : av ≠ 0) (hws : ws = cut 38 ((l.drop 1).take (av - 1))) (h0 : ws[0]? = some l0) (hn0 : n0 = numOf l0) (hn3 : n3 = numOf (l.drop (av + 1))) (hl2 : ws.length ≠ 2) : ∀ t : Ts, testOkB t = true → l = testWord t → (⟨n0, 4294967295, op, n3⟩ : Ts) = t := fun t ht hl => by
 obtain ⟨h1, h2, h3, h4⟩ := h.found ha t ht hl
 obtain ⟨⟨f1, f2⟩, ⟨m1, m2⟩, ⟨v1, v2⟩, ⟨o1, o2⟩⟩ := testOkB_words ht
 rw [h4] at hws
 rcases field_cut ht with ⟨e, em⟩ | e
 · rw [e] at hws
   subst hws
   simp only [List.getElem?_cons_zero, Option.some.injEq] at h0
   rw [hn0, ← h0, hn3, h3, numOf_itoa _ (by omega) (by omega), numOf_itoa _ v1 v2, h2, ← em]
 · rw [e] at hws
   subst hws
   exact absurd rfl hl2
theorem WishO.two {l : List UInt8} {k av : Nat} {op n0 n1 n3 : Int} {ws : List (List UInt8)} {l0 l1 : List UInt8} (h : WishO l k av op) (ha : av ≠ 0) (hws : ws = cut 38 ((l.drop 1).take (av - 1))) (h0 : ws[0]? = some l0) (hn0 : n0 = numOf l0) (h1' : ws[1]? = some l1) (hn1 : n1 = numOf l1) (hn3 : n3 = numOf (l.drop (av + 1))) (hl2 : ws.length = 2) : ∀ t : Ts, testOkB t = true → l = testWord t → (⟨n0, n1, op, n3⟩ : Ts) = t := fun t ht hl => by
 obtain ⟨h1, h2, h3, h4⟩ := h.found ha t ht hl
 obtain ⟨⟨f1, f2⟩, ⟨m1, m2⟩, ⟨v1, v2⟩, ⟨o1, o2⟩⟩ := testOkB_words ht
 rw [h4] at hws
 rcases field_cut ht with ⟨e, em⟩ | e
 · rw [e] at hws
   subst hws
   simp at hl2
 · rw [e] at hws
   subst hws
   simp only [List.getElem?_cons_zero, List.getElem?_cons_succ, Option.some.injEq] at h0 h1'
   rw [hn0, ← h0, hn1, ← h1', hn3, h3, numOf_itoa _ (by omega) (by omega), numOf_itoa _ (by omega) m2, numOf_itoa _ v1 v2, h2]
theorem word_head {l : List UInt8} {t : Ts} {c : UInt8} {l' : List UInt8} (h : l = testWord t) (hl : l = c :: l') : c = 97 := by
 rw [hl] at h
 unfold testWord at h
 exact (List.cons.inj h).1
end Go.Proofs.YtdjgicapbpoigaaGreatDoor
