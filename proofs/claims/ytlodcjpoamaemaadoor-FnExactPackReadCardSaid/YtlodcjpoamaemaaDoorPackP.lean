/- Packs' texts, in plain Lean: what is written is read again, and by both readers alike. No program in sight. -/
import Derived.Test.YtlodcjpoamaemaaDoorTxt
import Derived.Test.YtlodcjpoamaemaaDoorHashA
namespace Go.Proofs.YtlodcjpoamaemaaDoor
open Go.RowKit
set_option linter.unusedSimpArgs false
set_option linter.unusedVariables false

/-- A key's pad, and the tag of a text by a key. -/
def keyOf (key : List UInt8) : List UInt8 := if 64 < key.length then sumOf key else key
def padK (k : List UInt8) (b : UInt8) : List UInt8 := (List.range 64).map fun i => k.getD i 0 ^^^ b
theorem padK_len (k : List UInt8) (b : UInt8) : (padK k b).length = 64 := by simp [padK]
def macT (key text : List UInt8) : List UInt8 := hexOf (sumOf (padK (keyOf key) 0x5c ++ sumOf (padK (keyOf key) 0x36 ++ text)))
theorem macT_len (key text : List UInt8) : (macT key text).length = 64 := by unfold macT; rw [hexOf_len, sumOf_len]

structure Pk where
  e : Int
  r : List UInt8
  c : List UInt8
def cnt10 (l : List UInt8) : Nat := l.count 10
theorem cnt10_append (a b : List UInt8) : cnt10 (a ++ b) = cnt10 a + cnt10 b := List.count_append
theorem cnt10_le (l : List UInt8) : cnt10 l ≤ l.length := List.count_le_length
/-- Whole lines, one at least. -/
def wholeT (most : Nat) (l : List UInt8) : Prop := l.length ≤ most ∧ l.getLast? = some 10
def Pk.whole (p : Pk) : Prop := (1 ≤ p.e ∧ p.e ≤ 99) ∧ wholeT 900 p.r ∧ wholeT 2600 p.c
def Pk.head (p : Pk) : List UInt8 := [112, 97, 99, 107] ++ 32 :: (Lib.itoa p.e ++ 32 :: (Lib.itoa (cnt10 p.r) ++ 32 :: Lib.itoa (cnt10 p.c)))
def Pk.body (p : Pk) : List UInt8 := p.head ++ 10 :: (p.r ++ p.c)
def Pk.tail (key : List UInt8) (p : Pk) : List UInt8 := [116, 97, 103, 32] ++ macT key p.body ++ [10]
def Pk.text (key : List UInt8) (p : Pk) : List UInt8 := p.body ++ p.tail key
noncomputable def Pk.written (key : List UInt8) (p : Pk) : List UInt8 := @ite _ p.whole (Classical.propDecidable _) (p.text key) []
theorem written_yes {key : List UInt8} {p : Pk} (h : p.whole) : p.written key = p.text key := by unfold Pk.written; rw [if_pos h]
theorem written_no {key : List UInt8} {p : Pk} (h : ¬ p.whole) : p.written key = [] := by unfold Pk.written; rw [if_neg h]
def isPack (key text : List UInt8) (p : Pk) : Prop := p.whole ∧ text = p.text key
theorem isPack_of {key text : List UInt8} {p : Pk} (h : p.written key = text) (hne : text ≠ []) : isPack key text p := by
  by_cases hw : p.whole
  · exact ⟨hw, by rw [← h, written_yes hw]⟩
  · rw [written_no hw] at h; exact absurd h.symm hne

theorem last_app (a : List UInt8) {b : List UInt8} (h : b ≠ []) : (a ++ b).getLast? = b.getLast? := by
  rw [List.getLast?_append]
  cases hb : b.getLast? with
  | none => exact absurd (List.getLast?_eq_none_iff.1 hb) h
  | some x => rfl
/-- Lines, each with its end. -/
def joinL (R : List (List UInt8)) : List UInt8 := R.flatMap fun x => x ++ [10]
theorem joinL_cons (x : List UInt8) (R : List (List UInt8)) : joinL (x :: R) = x ++ 10 :: joinL R := by simp [joinL]
theorem cnt10_no {a : List UInt8} (h : ∀ x ∈ a, x ≠ 10) : cnt10 a = 0 := List.count_eq_zero.2 fun hm => h 10 hm rfl
theorem first10 : ∀ (l : List UInt8), (∀ x ∈ l, x ≠ 10) ∨ ∃ a b, l = a ++ 10 :: b ∧ ∀ x ∈ a, x ≠ 10
  | [] => .inl (by simp)
  | x :: l => by
    by_cases hx : x = 10
    · exact .inr ⟨[], l, by rw [hx]; rfl, by simp⟩
    · rcases first10 l with h | ⟨a, b, rfl, h⟩
      · exact .inl fun y hy => by
          rcases List.mem_cons.1 hy with rfl | hy
          · exact hx
          · exact h y hy
      · exact .inr ⟨x :: a, b, rfl, fun y hy => by
          rcases List.mem_cons.1 hy with rfl | hy
          · exact hx
          · exact h y hy⟩
theorem lines_of (n : Nat) : ∀ (l : List UInt8), l.length ≤ n → (l = [] ∨ l.getLast? = some 10) → ∃ R, l = joinL R ∧ R.length = cnt10 l ∧ ∀ a ∈ R, ∀ x ∈ a, x ≠ 10 := by
  induction n with
  | zero => intro l h _; rw [List.length_eq_zero_iff.1 (Nat.le_zero.1 h)]; exact ⟨[], rfl, rfl, by simp⟩
  | succ n ih =>
    intro l hl h
    rcases h with rfl | h
    · exact ⟨[], rfl, rfl, by simp⟩
    · rcases first10 l with h0 | ⟨a, b, rfl, ha⟩
      · exact absurd rfl (h0 10 (List.mem_of_getLast? h))
      · have hb : b = [] ∨ b.getLast? = some 10 := by
          cases b with
          | nil => exact .inl rfl
          | cons y b =>
            right
            rw [last_app _ (by simp), List.getLast?_cons_cons] at h
            exact h
        obtain ⟨R, e, hR, hR2⟩ := ih b (by simp at hl; omega) hb
        refine ⟨a :: R, by rw [joinL_cons, ← e], ?_, fun x hx => ?_⟩
        · rw [cnt10_append, cnt10_no ha, List.length_cons, hR]
          simp [cnt10]
        · rcases List.mem_cons.1 hx with rfl | hx
          · exact ha
          · exact hR2 x hx
theorem cut_joinL : ∀ (R : List (List UInt8)) (rest : List UInt8), (∀ a ∈ R, ∀ x ∈ a, x ≠ 10) → cut 10 (joinL R ++ rest) = R ++ cut 10 rest
  | [], rest, _ => rfl
  | a :: R, rest, h => by
    rw [joinL_cons, List.append_assoc, List.cons_append, cut_word (h a (by simp)), cut_joinL R rest fun x hx => h x (by simp [hx])]
    rfl

theorem cutGo_count : ∀ (l cur : List UInt8), (cutGo 10 cur l).length = cnt10 l + 1
  | [], cur => rfl
  | x :: l, cur => by
    unfold cutGo cnt10
    rw [List.count_cons]
    by_cases h : x = 10
    · rw [if_pos h, List.length_cons, cutGo_count l []]
      simp [h, cnt10]
    · rw [if_neg h, cutGo_count l _]
      simp [h, cnt10]
theorem cut_count (l : List UInt8) : (cut 10 l).length = cnt10 l + 1 := cutGo_count l []

/-! The program's way: what a reader takes. -/
def TakeL (n : Nat) (l r s : List UInt8) : Prop := l = r ++ s ∧ cnt10 r = n ∧ (r = [] ∨ r.getLast? = some 10)
theorem take_pre {r r' s s' : List UInt8} (h : r ++ s = r' ++ s') (hc : cnt10 r = cnt10 r') (hr' : r' = [] ∨ r'.getLast? = some 10) (hl : r.length ≤ r'.length) : r = r' ∧ s = s' := by
  obtain ⟨d, rfl⟩ : ∃ d, r' = r ++ d := ⟨r'.drop r.length, by
    have e := congrArg (List.take r.length) h
    rw [List.take_left, List.take_append_of_le_length hl] at e
    have := List.take_append_drop r.length r'
    rw [← e] at this
    exact this.symm⟩
  have hd : cnt10 d = 0 := by rw [cnt10_append] at hc; omega
  have hd0 : d = [] := by
    cases d with
    | nil => rfl
    | cons y d =>
      rcases hr' with h0 | h0
      · simp at h0
      · rw [last_app _ (by simp)] at h0
        exact absurd (List.mem_of_getLast? h0) (List.count_eq_zero.1 hd)
  subst hd0
  rw [List.append_nil] at h ⊢
  exact ⟨rfl, List.append_cancel_left h⟩
theorem TakeL.unique {n : Nat} {l r r' s s' : List UInt8} (h : TakeL n l r s) (h' : TakeL n l r' s') : r = r' ∧ s = s' := by
  obtain ⟨e, hn, hl⟩ := h
  obtain ⟨e', hn', hl'⟩ := h'
  by_cases hle : r.length ≤ r'.length
  · exact take_pre (e.symm.trans e') (hn.trans hn'.symm) hl' hle
  · obtain ⟨a, b⟩ := take_pre (e'.symm.trans e) (hn'.trans hn.symm) hl (by omega)
    exact ⟨a.symm, b.symm⟩
/-- A text taken apart, whatever its tag is. -/
def SplitTo (text : List UInt8) (p : Pk) : Prop :=
  ∃ (A B C D E F : List UInt8) (n m : Int), text = [112, 97, 99, 107, 32] ++ A ∧ NumAt 99 A p.e (32 :: B) ∧ NumAt 900 B n (32 :: C) ∧ NumAt 2600 C m (10 :: D) ∧ TakeL n.toNat D p.r E ∧ TakeL m.toNat E p.c F
theorem SplitTo.unique {text : List UInt8} {p q : Pk} (h : SplitTo text p) (h' : SplitTo text q) : p = q := by
  obtain ⟨A, B, C, D, E, F, n, m, e0, e1, e2, e3, e4, e5⟩ := h
  obtain ⟨A', B', C', D', E', F', n', m', f0, f1, f2, f3, f4, f5⟩ := h'
  obtain rfl := List.append_cancel_left (e0.symm.trans f0)
  obtain ⟨g1, k1⟩ := e1.unique f1
  simp only [List.cons.injEq, true_and] at k1
  subst k1
  obtain ⟨rfl, k2⟩ := e2.unique f2
  simp only [List.cons.injEq, true_and] at k2
  subst k2
  obtain ⟨rfl, k3⟩ := e3.unique f3
  simp only [List.cons.injEq, true_and] at k3
  subst k3
  obtain ⟨g2, rfl⟩ := e4.unique f4
  obtain ⟨g3, rfl⟩ := e5.unique f5
  cases p; cases q
  simp_all
theorem noDig_hd {x : UInt8} {l : List UInt8} (h : isDig x = false) : noDig (x :: l) := fun y hy => by simp at hy; subst hy; exact h
theorem isPack.split {key text : List UInt8} {p : Pk} (h : isPack key text p) : SplitTo text p := by
  obtain ⟨⟨⟨e1, e2⟩, ⟨r1, r2⟩, ⟨c1, c2⟩⟩, rfl⟩ := h
  have hr := cnt10_le p.r
  have hc := cnt10_le p.c
  refine ⟨_, _, _, p.r ++ (p.c ++ p.tail key), p.c ++ p.tail key, p.tail key, cnt10 p.r, cnt10 p.c, ?_, ⟨⟨by omega, e2⟩, rfl, noDig_hd rfl⟩, ⟨⟨by omega, by omega⟩, rfl, noDig_hd rfl⟩, ⟨⟨by omega, by omega⟩, rfl, noDig_hd rfl⟩, ⟨rfl, by simp, .inr r2⟩, ⟨rfl, by simp, .inr c2⟩⟩
  unfold Pk.text Pk.body Pk.head
  simp
theorem split_ne {text : List UInt8} {p : Pk} (h : SplitTo text p) : text ≠ [] := by
  obtain ⟨A, B, C, D, E, F, n, m, e0, _⟩ := h
  rw [e0]; simp
theorem isPack.unique {key text : List UInt8} {p q : Pk} (h : isPack key text p) (h' : isPack key text q) : p = q := h.split.unique h'.split

/-! The reference's way: lines and words. -/
def linesTo (ls : List (List UInt8)) (a b : Nat) : List UInt8 := joinL ((ls.take b).drop a)
theorem isPack.lines {key text : List UInt8} {p : Pk} (h : isPack key text p) : ∃ rest : List (List UInt8), cut 10 text = p.head :: rest ∧ linesTo (cut 10 text) 1 (cnt10 p.r + 1) = p.r ∧ linesTo (cut 10 text) (cnt10 p.r + 1) (cnt10 p.r + cnt10 p.c + 1) = p.c := by
  obtain ⟨⟨⟨e1, e2⟩, ⟨r1, r2⟩, ⟨c1, c2⟩⟩, rfl⟩ := h
  obtain ⟨R, hR, hRl, hR10⟩ := lines_of _ p.r (Nat.le_refl _) (.inr r2)
  obtain ⟨C, hC, hCl, hC10⟩ := lines_of _ p.c (Nat.le_refl _) (.inr c2)
  have no10 : ∀ n : Int, 0 ≤ n → ∀ x ∈ Lib.itoa n, x ≠ 10 := fun n h0 x hx e => by
    have := itoa_digits n h0 x hx
    rw [e] at this; cases this
  have hh : ∀ x ∈ p.head, x ≠ 10 := by
    intro x hx
    unfold Pk.head at hx
    simp only [List.mem_append, List.mem_cons, List.not_mem_nil, or_false] at hx
    rcases hx with (rfl | rfl | rfl | rfl) | rfl | hx | rfl | hx | rfl | hx
    · decide
    · decide
    · decide
    · decide
    · decide
    · exact no10 _ (by omega) x hx
    · decide
    · exact no10 _ (by omega) x hx
    · decide
    · exact no10 _ (by omega) x hx
  have hcut : cut 10 (p.text key) = p.head :: (R ++ (C ++ cut 10 (p.tail key))) := by
    unfold Pk.text Pk.body
    rw [List.append_assoc, List.cons_append, cut_word hh, List.append_assoc, hR, cut_joinL R _ hR10, hC, cut_joinL C _ hC10]
  refine ⟨_, hcut, ?_, ?_⟩
  · rw [hcut, ← hRl]
    unfold linesTo
    rw [List.take_succ_cons, List.drop_succ_cons, List.drop_zero, List.take_left]
    exact hR.symm
  · rw [hcut, ← hRl, ← hCl]
    unfold linesTo
    rw [List.take_succ_cons, List.drop_succ_cons, ← List.append_assoc, List.take_append_of_le_length (by simp), List.take_of_length_le (by simp), List.drop_left]
    exact hC.symm
theorem head_words (p : Pk) (h : p.whole) : cut 32 p.head = [[112, 97, 99, 107], Lib.itoa p.e, Lib.itoa (cnt10 p.r), Lib.itoa (cnt10 p.c)] := by
  have h0 : 0 ≤ p.e := by have := h.1.1; omega
  unfold Pk.head
  rw [cut_word (by decide), cut_word (itoa_no32 _ h0), cut_word (itoa_no32 _ (by omega)), cut_last (itoa_no32 _ (by omega))]
end Go.Proofs.YtlodcjpoamaemaaDoor
