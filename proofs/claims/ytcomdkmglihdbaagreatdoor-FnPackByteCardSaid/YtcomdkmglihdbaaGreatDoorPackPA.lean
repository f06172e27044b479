/- Joined texts: PackP PackV PackI PackI2 ReaderN PackM. -/
import Derived.Test.YtcomdkmglihdbaaGreatDoorTxt
import Derived.Test.YtcomdkmglihdbaaGreatDoorHashA
import Derived.Test.YtcomdkmglihdbaaGreatDoorShelf
import Derived.Lib.IndexLaws
import Derived.Deep.DeepFit
-- Packs' texts, in plain Lean: what is written is read again, and by both readers alike. No program in sight.
namespace Go.Proofs.YtcomdkmglihdbaaGreatDoor
open Go.RowKit
set_option linter.unusedSimpArgs false
set_option linter.unusedVariables false

/-- A key's pad, and the tag of a text by a key. -/
def keyOf (key : List UInt8) : List UInt8 := if 64 < key.length then sumOf key else key
def padK (k : List UInt8) (b : UInt8) : List UInt8 := (List.range 64).map fun i => k.getD i 0 ^^^ b
theorem padK_len (k : List UInt8) (b : UInt8) : (padK k b).length = 64 := by simp [padK]
def macT (key text : List UInt8) : List UInt8 := hexOf (sumOf (padK (keyOf key) 0x5c ++ sumOf (padK (keyOf key) 0x36 ++ text)))
theorem macT_len (key text : List UInt8) : (macT key text).length = 64 := by unfold macT; rw [hexOf_len, sumOf_len]

structure Pk where
  e : Int
  r : List UInt8
  c : List UInt8
def cnt10 (l : List UInt8) : Nat := l.count 10
theorem cnt10_append (a b : List UInt8) : cnt10 (a ++ b) = cnt10 a + cnt10 b := List.count_append
theorem cnt10_le (l : List UInt8) : cnt10 l ≤ l.length := List.count_le_length
/-- Whole lines, one at least. -/
def wholeT (most : Nat) (l : List UInt8) : Prop := l.length ≤ most ∧ l.getLast? = some 10
def Pk.whole (p : Pk) : Prop := (1 ≤ p.e ∧ p.e ≤ 99) ∧ wholeT 900 p.r ∧ wholeT 2600 p.c
def Pk.head (p : Pk) : List UInt8 := [112, 97, 99, 107] ++ 32 :: (Lib.itoa p.e ++ 32 :: (Lib.itoa (cnt10 p.r) ++ 32 :: Lib.itoa (cnt10 p.c)))
def Pk.body (p : Pk) : List UInt8 := p.head ++ 10 :: (p.r ++ p.c)
def Pk.tail (key : List UInt8) (p : Pk) : List UInt8 := [116, 97, 103, 32] ++ macT key p.body ++ [10]
def Pk.text (key : List UInt8) (p : Pk) : List UInt8 := p.body ++ p.tail key
noncomputable def Pk.written (key : List UInt8) (p : Pk) : List UInt8 := @ite _ p.whole (Classical.propDecidable _) (p.text key) []
theorem written_yes {key : List UInt8} {p : Pk} (h : p.whole) : p.written key = p.text key := by unfold Pk.written; rw [if_pos h]
theorem written_no {key : List UInt8} {p : Pk} (h : ¬ p.whole) : p.written key = [] := by unfold Pk.written; rw [if_neg h]
def isPack (key text : List UInt8) (p : Pk) : Prop := p.whole ∧ text = p.text key
theorem isPack_of {key text : List UInt8} {p : Pk} (h : p.written key = text) (hne : text ≠ []) : isPack key text p := by
  by_cases hw : p.whole
  · exact ⟨hw, by rw [← h, written_yes hw]⟩
  · rw [written_no hw] at h; exact absurd h.symm hne

theorem last_app (a : List UInt8) {b : List UInt8} (h : b ≠ []) : (a ++ b).getLast? = b.getLast? := by
  rw [List.getLast?_append]
  cases hb : b.getLast? with
  | none => exact absurd (List.getLast?_eq_none_iff.1 hb) h
  | some x => rfl
/-- Lines, each with its end. -/
def joinL (R : List (List UInt8)) : List UInt8 := R.flatMap fun x => x ++ [10]
theorem joinL_cons (x : List UInt8) (R : List (List UInt8)) : joinL (x :: R) = x ++ 10 :: joinL R := by simp [joinL]
theorem cnt10_no {a : List UInt8} (h : ∀ x ∈ a, x ≠ 10) : cnt10 a = 0 := List.count_eq_zero.2 fun hm => h 10 hm rfl
theorem first10 : ∀ (l : List UInt8), (∀ x ∈ l, x ≠ 10) ∨ ∃ a b, l = a ++ 10 :: b ∧ ∀ x ∈ a, x ≠ 10
  | [] => .inl (by simp)
  | x :: l => by
    by_cases hx : x = 10
    · exact .inr ⟨[], l, by rw [hx]; rfl, by simp⟩
    · rcases first10 l with h | ⟨a, b, rfl, h⟩
      · exact .inl fun y hy => by
          rcases List.mem_cons.1 hy with rfl | hy
          · exact hx
          · exact h y hy
      · exact .inr ⟨x :: a, b, rfl, fun y hy => by
          rcases List.mem_cons.1 hy with rfl | hy
          · exact hx
          · exact h y hy⟩
theorem lines_of (n : Nat) : ∀ (l : List UInt8), l.length ≤ n → (l = [] ∨ l.getLast? = some 10) → ∃ R, l = joinL R ∧ R.length = cnt10 l ∧ ∀ a ∈ R, ∀ x ∈ a, x ≠ 10 := by
  induction n with
  | zero => intro l h _; rw [List.length_eq_zero_iff.1 (Nat.le_zero.1 h)]; exact ⟨[], rfl, rfl, by simp⟩
  | succ n ih =>
    intro l hl h
    rcases h with rfl | h
    · exact ⟨[], rfl, rfl, by simp⟩
    · rcases first10 l with h0 | ⟨a, b, rfl, ha⟩
      · exact absurd rfl (h0 10 (List.mem_of_getLast? h))
      · have hb : b = [] ∨ b.getLast? = some 10 := by
          cases b with
          | nil => exact .inl rfl
          | cons y b =>
            right
            rw [last_app _ (by simp), List.getLast?_cons_cons] at h
            exact h
        obtain ⟨R, e, hR, hR2⟩ := ih b (by simp at hl; omega) hb
        refine ⟨a :: R, by rw [joinL_cons, ← e], ?_, fun x hx => ?_⟩
        · rw [cnt10_append, cnt10_no ha, List.length_cons, hR]
          simp [cnt10]
        · rcases List.mem_cons.1 hx with rfl | hx
          · exact ha
          · exact hR2 x hx
theorem cut_joinL : ∀ (R : List (List UInt8)) (rest : List UInt8), (∀ a ∈ R, ∀ x ∈ a, x ≠ 10) → cut 10 (joinL R ++ rest) = R ++ cut 10 rest
  | [], rest, _ => rfl
  | a :: R, rest, h => by
    rw [joinL_cons, List.append_assoc, List.cons_append, cut_word (h a (by simp)), cut_joinL R rest fun x hx => h x (by simp [hx])]
    rfl

theorem cutGo_count : ∀ (l cur : List UInt8), (cutGo 10 cur l).length = cnt10 l + 1
  | [], cur => rfl
  | x :: l, cur => by
    unfold cutGo cnt10
    rw [List.count_cons]
    by_cases h : x = 10
    · rw [if_pos h, List.length_cons, cutGo_count l []]
      simp [h, cnt10]
    · rw [if_neg h, cutGo_count l _]
      simp [h, cnt10]
theorem cut_count (l : List UInt8) : (cut 10 l).length = cnt10 l + 1 := cutGo_count l []

/-! The program's way: what a reader takes. -/
def TakeL (n : Nat) (l r s : List UInt8) : Prop := l = r ++ s ∧ cnt10 r = n ∧ (r = [] ∨ r.getLast? = some 10)
theorem take_pre {r r' s s' : List UInt8} (h : r ++ s = r' ++ s') (hc : cnt10 r = cnt10 r') (hr' : r' = [] ∨ r'.getLast? = some 10) (hl : r.length ≤ r'.length) : r = r' ∧ s = s' := by
  obtain ⟨d, rfl⟩ : ∃ d, r' = r ++ d := ⟨r'.drop r.length, by
    have e := congrArg (List.take r.length) h
    rw [List.take_left, List.take_append_of_le_length hl] at e
    have := List.take_append_drop r.length r'
    rw [← e] at this
    exact this.symm⟩
  have hd : cnt10 d = 0 := by rw [cnt10_append] at hc; omega
  have hd0 : d = [] := by
    cases d with
    | nil => rfl
    | cons y d =>
      rcases hr' with h0 | h0
      · simp at h0
      · rw [last_app _ (by simp)] at h0
        exact absurd (List.mem_of_getLast? h0) (List.count_eq_zero.1 hd)
  subst hd0
  rw [List.append_nil] at h ⊢
  exact ⟨rfl, List.append_cancel_left h⟩
theorem TakeL.unique {n : Nat} {l r r' s s' : List UInt8} (h : TakeL n l r s) (h' : TakeL n l r' s') : r = r' ∧ s = s' := by
  obtain ⟨e, hn, hl⟩ := h
  obtain ⟨e', hn', hl'⟩ := h'
  by_cases hle : r.length ≤ r'.length
  · exact take_pre (e.symm.trans e') (hn.trans hn'.symm) hl' hle
  · obtain ⟨a, b⟩ := take_pre (e'.symm.trans e) (hn'.trans hn.symm) hl (by omega)
    exact ⟨a.symm, b.symm⟩
/-- A text taken apart, whatever its tag is. -/
def SplitTo (text : List UInt8) (p : Pk) : Prop :=
  ∃ (A B C D E F : List UInt8) (n m : Int), text = [112, 97, 99, 107, 32] ++ A ∧ NumAt 99 A p.e (32 :: B) ∧ NumAt 900 B n (32 :: C) ∧ NumAt 2600 C m (10 :: D) ∧ TakeL n.toNat D p.r E ∧ TakeL m.toNat E p.c F
theorem SplitTo.unique {text : List UInt8} {p q : Pk} (h : SplitTo text p) (h' : SplitTo text q) : p = q := by
  obtain ⟨A, B, C, D, E, F, n, m, e0, e1, e2, e3, e4, e5⟩ := h
  obtain ⟨A', B', C', D', E', F', n', m', f0, f1, f2, f3, f4, f5⟩ := h'
  obtain rfl := List.append_cancel_left (e0.symm.trans f0)
  obtain ⟨g1, k1⟩ := e1.unique f1
  simp only [List.cons.injEq, true_and] at k1
  subst k1
  obtain ⟨rfl, k2⟩ := e2.unique f2
  simp only [List.cons.injEq, true_and] at k2
  subst k2
  obtain ⟨rfl, k3⟩ := e3.unique f3
  simp only [List.cons.injEq, true_and] at k3
  subst k3
  obtain ⟨g2, rfl⟩ := e4.unique f4
  obtain ⟨g3, rfl⟩ := e5.unique f5
  cases p; cases q
  simp_all
theorem noDig_hd {x : UInt8} {l : List UInt8} (h : isDig x = false) : noDig (x :: l) := fun y hy => by simp at hy; subst hy; exact h
theorem isPack.split {key text : List UInt8} {p : Pk} (h : isPack key text p) : SplitTo text p := by
  obtain ⟨⟨⟨e1, e2⟩, ⟨r1, r2⟩, ⟨c1, c2⟩⟩, rfl⟩ := h
  have hr := cnt10_le p.r
  have hc := cnt10_le p.c
  refine ⟨_, _, _, p.r ++ (p.c ++ p.tail key), p.c ++ p.tail key, p.tail key, cnt10 p.r, cnt10 p.c, ?_, ⟨⟨by omega, e2⟩, rfl, noDig_hd rfl⟩, ⟨⟨by omega, by omega⟩, rfl, noDig_hd rfl⟩, ⟨⟨by omega, by omega⟩, rfl, noDig_hd rfl⟩, ⟨rfl, by simp, .inr r2⟩, ⟨rfl, by simp, .inr c2⟩⟩
  unfold Pk.text Pk.body Pk.head
  simp
theorem split_ne {text : List UInt8} {p : Pk} (h : SplitTo text p) : text ≠ [] := by
  obtain ⟨A, B, C, D, E, F, n, m, e0, _⟩ := h
  rw [e0]; simp
theorem isPack.unique {key text : List UInt8} {p q : Pk} (h : isPack key text p) (h' : isPack key text q) : p = q := h.split.unique h'.split

/-! The reference's way: lines and words. -/
def linesTo (ls : List (List UInt8)) (a b : Nat) : List UInt8 := joinL ((ls.take b).drop a)
theorem isPack.lines {key text : List UInt8} {p : Pk} (h : isPack key text p) : ∃ rest : List (List UInt8), cut 10 text = p.head :: rest ∧ linesTo (cut 10 text) 1 (cnt10 p.r + 1) = p.r ∧ linesTo (cut 10 text) (cnt10 p.r + 1) (cnt10 p.r + cnt10 p.c + 1) = p.c := by
  obtain ⟨⟨⟨e1, e2⟩, ⟨r1, r2⟩, ⟨c1, c2⟩⟩, rfl⟩ := h
  obtain ⟨R, hR, hRl, hR10⟩ := lines_of _ p.r (Nat.le_refl _) (.inr r2)
  obtain ⟨C, hC, hCl, hC10⟩ := lines_of _ p.c (Nat.le_refl _) (.inr c2)
  have no10 : ∀ n : Int, 0 ≤ n → ∀ x ∈ Lib.itoa n, x ≠ 10 := fun n h0 x hx e => by
    have := itoa_digits n h0 x hx
    rw [e] at this; cases this
  have hh : ∀ x ∈ p.head, x ≠ 10 := by
    intro x hx
    unfold Pk.head at hx
    simp only [List.mem_append, List.mem_cons, List.not_mem_nil, or_false] at hx
    rcases hx with (rfl | rfl | rfl | rfl) | rfl | hx | rfl | hx | rfl | hx
    · decide
    · decide
    · decide
    · decide
    · decide
    · exact no10 _ (by omega) x hx
    · decide
    · exact no10 _ (by omega) x hx
    · decide
    · exact no10 _ (by omega) x hx
  have hcut : cut 10 (p.text key) = p.head :: (R ++ (C ++ cut 10 (p.tail key))) := by
    unfold Pk.text Pk.body
    rw [List.append_assoc, List.cons_append, cut_word hh, List.append_assoc, hR, cut_joinL R _ hR10, hC, cut_joinL C _ hC10]
  refine ⟨_, hcut, ?_, ?_⟩
  · rw [hcut, ← hRl]
    unfold linesTo
    rw [List.take_succ_cons, List.drop_succ_cons, List.drop_zero, List.take_left]
    exact hR.symm
  · rw [hcut, ← hRl, ← hCl]
    unfold linesTo
    rw [List.take_succ_cons, List.drop_succ_cons, ← List.append_assoc, List.take_append_of_le_length (by simp), List.take_of_length_le (by simp), List.drop_left]
    exact hC.symm
theorem head_words (p : Pk) (h : p.whole) : cut 32 p.head = [[112, 97, 99, 107], Lib.itoa p.e, Lib.itoa (cnt10 p.r), Lib.itoa (cnt10 p.c)] := by
  have h0 : 0 ≤ p.e := by have := h.1.1; omega
  unfold Pk.head
  rw [cut_word (by decide), cut_word (itoa_no32 _ h0), cut_word (itoa_no32 _ (by omega)), cut_last (itoa_no32 _ (by omega))]
end Go.Proofs.YtcomdkmglihdbaaGreatDoor

-- A pack's text taken apart, in plain Lean: the stages of the three numbers. No program in sight.
namespace Go.Proofs.YtcomdkmglihdbaaGreatDoor
open Go.RowKit
set_option linter.unusedSimpArgs false
set_option linter.unusedVariables false

def pkW : List UInt8 := [112, 97, 99, 107, 32]
def Stage (text : List UInt8) (k : Nat) (e n m : Int) (rest : List UInt8) : Prop :=
  (k = 0 ∧ text = pkW ++ rest ∧ e = 0 ∧ n = 0 ∧ m = 0) ∨
  (k = 1 ∧ (∃ A, text = pkW ++ A ∧ NumAt 99 A e (32 :: rest)) ∧ n = 0 ∧ m = 0) ∨
  (k = 2 ∧ (∃ A B, text = pkW ++ A ∧ NumAt 99 A e (32 :: B) ∧ NumAt 900 B n (32 :: rest)) ∧ m = 0) ∨
  (k = 3 ∧ ∃ A B C, text = pkW ++ A ∧ NumAt 99 A e (32 :: B) ∧ NumAt 900 B n (32 :: C) ∧ NumAt 2600 C m (10 :: rest))
def mostOf (k : Nat) : Int := if k = 0 then 99 else if k = 1 then 900 else 2600
def sepOf (k : Nat) : UInt8 := if k = 2 then 10 else 32
def eOf (k : Nat) (e v : Int) : Int := if k = 0 then v else e
def nOf (k : Nat) (e v : Int) : Int := if k = 1 then v else e
def mOf (k : Nat) (e v : Int) : Int := if k = 2 then v else e
theorem stage_start {text rest : List UInt8} (h : text = pkW ++ rest) : Stage text 0 0 0 0 rest := .inl ⟨rfl, h, rfl, rfl, rfl⟩
theorem start_no {text : List UInt8} (h : ¬ ∃ t, text = pkW ++ t) : ¬ ∃ p, SplitTo text p := by
  rintro ⟨p, A, B, C, D, E, F, n, m, e0, _⟩
  exact h ⟨A, e0⟩
theorem stage_next {text rest t : List UInt8} {k : Nat} {e n m v : Int} (hk : k < 3) (h : Stage text k e n m rest) (hn : NumAt (mostOf k) rest v (sepOf k :: t)) : Stage text (k + 1) (eOf k e v) (nOf k n v) (mOf k m v) t := by
  rcases h with ⟨rfl, h, rfl, rfl, rfl⟩ | ⟨rfl, ⟨A, h1, h2⟩, rfl, rfl⟩ | ⟨rfl, ⟨A, B, h1, h2, h3⟩, rfl⟩ | ⟨rfl, _⟩
  · exact .inr (.inl ⟨rfl, ⟨_, h, hn⟩, rfl, rfl⟩)
  · exact .inr (.inr (.inl ⟨rfl, ⟨_, _, h1, h2, hn⟩, rfl⟩))
  · exact .inr (.inr (.inr ⟨rfl, _, _, _, h1, h2, h3, hn⟩))
  · omega
theorem stage_no {text rest : List UInt8} {k : Nat} {e n m : Int} (hk : k < 3) (h : Stage text k e n m rest) (hn : ¬ ∃ v t, NumAt (mostOf k) rest v (sepOf k :: t)) : ¬ ∃ p, SplitTo text p := by
  rintro ⟨p, A, B, C, D, E, F, n', m', f0, f1, f2, f3, f4, f5⟩
  rcases h with ⟨rfl, h, rfl, rfl, rfl⟩ | ⟨rfl, ⟨A', h1, h2⟩, rfl, rfl⟩ | ⟨rfl, ⟨A', B', h1, h2, h3⟩, rfl⟩ | ⟨rfl, _⟩
  · obtain rfl := List.append_cancel_left (h.symm.trans f0)
    exact hn ⟨_, _, f1⟩
  · obtain rfl := List.append_cancel_left (h1.symm.trans f0)
    obtain ⟨_, k1⟩ := h2.unique f1
    simp only [List.cons.injEq, true_and] at k1
    subst k1
    exact hn ⟨_, _, f2⟩
  · obtain rfl := List.append_cancel_left (h1.symm.trans f0)
    obtain ⟨_, k1⟩ := h2.unique f1
    simp only [List.cons.injEq, true_and] at k1
    subst k1
    obtain ⟨_, k1⟩ := h3.unique f2
    simp only [List.cons.injEq, true_and] at k1
    subst k1
    exact hn ⟨_, _, f3⟩
  · omega
theorem part_no {most : Int} {rest r : List UInt8} {sep : UInt8} {v : Int} (h : NumAt most rest v r) (hn : ¬ ∃ t, r = [sep] ++ t) : ¬ ∃ v t, NumAt most rest v (sep :: t) := by
  rintro ⟨v', t, h'⟩
  obtain ⟨_, rfl⟩ := h.unique h'
  exact hn ⟨t, rfl⟩
theorem numAt_bd {most : Int} {l r : List UInt8} {v : Int} (h : NumAt most l v r) : 0 ≤ v ∧ v ≤ most ∧ l = Lib.itoa v ++ r := ⟨h.1.1, h.1.2, h.2.1⟩
theorem numAt_len {most : Int} {l r : List UInt8} {v : Int} (h : NumAt most l v r) : r.length ≤ l.length := by
  rw [(numAt_bd h).2.2, List.length_append]; omega
theorem stage_len {text rest : List UInt8} {k : Nat} {e n m : Int} (h : Stage text k e n m rest) : rest.length ≤ text.length := by
  rcases h with ⟨rfl, h, rfl, rfl, rfl⟩ | ⟨rfl, ⟨A', h1, h2⟩, rfl, rfl⟩ | ⟨rfl, ⟨A', B', h1, h2, h3⟩, rfl⟩ | ⟨rfl, A', B', C', h1, h2, h3, h4⟩
  · rw [h, List.length_append]; omega
  · have a := numAt_len h2
    rw [h1, List.length_append]; simp at a; omega
  · have a := numAt_len h2
    have b := numAt_len h3
    rw [h1, List.length_append]; simp at a b; omega
  · have a := numAt_len h2
    have b := numAt_len h3
    have c := numAt_len h4
    rw [h1, List.length_append]; simp at a b c; omega
theorem stage_bd {text rest : List UInt8} {e n m : Int} (h : Stage text 3 e n m rest) : (0 ≤ n ∧ n ≤ 900) ∧ (0 ≤ m ∧ m ≤ 2600) := by
  rcases h with ⟨h, _⟩ | ⟨h, _⟩ | ⟨h, _⟩ | ⟨_, A', B', C', h1, h2, h3, h4⟩
  · omega
  · omega
  · omega
  · exact ⟨h3.1, h4.1⟩
theorem stage_yes {text rest r E c F : List UInt8} {e n m : Int} (h : Stage text 3 e n m rest) (h1 : TakeL n.toNat rest r E) (h2 : TakeL m.toNat E c F) : SplitTo text ⟨e, r, c⟩ := by
  rcases h with ⟨h, _⟩ | ⟨h, _⟩ | ⟨h, _⟩ | ⟨_, A', B', C', k1, k2, k3, k4⟩
  · omega
  · omega
  · omega
  · exact ⟨A', B', C', rest, E, F, n, m, k1, k2, k3, k4, h1, h2⟩
theorem stage_no3 {text rest : List UInt8} {e n m : Int} (h : Stage text 3 e n m rest) (hn : ¬ ∃ r t, TakeL n.toNat rest r t) : ¬ ∃ p, SplitTo text p := by
  rintro ⟨p, A, B, C, D, E, F, n', m', f0, f1, f2, f3, f4, f5⟩
  rcases h with ⟨h, _⟩ | ⟨h, _⟩ | ⟨h, _⟩ | ⟨_, A', B', C', h1, h2, h3, h4⟩
  · omega
  · omega
  · omega
  · obtain rfl := List.append_cancel_left (h1.symm.trans f0)
    obtain ⟨_, k1⟩ := h2.unique f1
    simp only [List.cons.injEq, true_and] at k1
    subst k1
    obtain ⟨rfl, k1⟩ := h3.unique f2
    simp only [List.cons.injEq, true_and] at k1
    subst k1
    obtain ⟨_, k1⟩ := h4.unique f3
    simp only [List.cons.injEq, true_and] at k1
    subst k1
    exact hn ⟨_, _, f4⟩
theorem stage_no4 {text rest r E : List UInt8} {e n m : Int} (h : Stage text 3 e n m rest) (hr : TakeL n.toNat rest r E) (hn : ¬ ∃ r t, TakeL m.toNat E r t) : ¬ ∃ p, SplitTo text p := by
  rintro ⟨p, A, B, C, D, E', F, n', m', f0, f1, f2, f3, f4, f5⟩
  rcases h with ⟨h, _⟩ | ⟨h, _⟩ | ⟨h, _⟩ | ⟨_, A', B', C', h1, h2, h3, h4⟩
  · omega
  · omega
  · omega
  · obtain rfl := List.append_cancel_left (h1.symm.trans f0)
    obtain ⟨_, k1⟩ := h2.unique f1
    simp only [List.cons.injEq, true_and] at k1
    subst k1
    obtain ⟨rfl, k1⟩ := h3.unique f2
    simp only [List.cons.injEq, true_and] at k1
    subst k1
    obtain ⟨rfl, k1⟩ := h4.unique f3
    simp only [List.cons.injEq, true_and] at k1
    subst k1
    obtain ⟨_, rfl⟩ := hr.unique f4
    exact hn ⟨_, _, f5⟩
end Go.Proofs.YtcomdkmglihdbaaGreatDoor

-- The program's packs' texts: packLines.
namespace Go.Proofs.YtcomdkmglihdbaaGreatDoor
open Go.RowKit
set_option linter.unusedSimpArgs false
set_option linter.unusedVariables false

noncomputable def wholeTB (most : Nat) (l : List UInt8) : Bool := @decide (wholeT most l) (Classical.propDecidable _)
theorem wholeTB_iff {most : Nat} {l : List UInt8} : wholeTB most l = true ↔ wholeT most l := by simp [wholeTB]
theorem suffix10 (l : List UInt8) : Lib.hasSuffix l [10] = true ↔ l.getLast? = some 10 := by
  unfold Lib.hasSuffix
  rw [List.isSuffixOf_iff_suffix, List.getLast?_eq_some_iff]
  exact ⟨fun ⟨t, h⟩ => ⟨t, h.symm⟩, fun ⟨t, h⟩ => ⟨t, h.symm⟩⟩

set_option maxHeartbeats 1000000 in
theorem packLines_any (l : List UInt8) (most : Nat) (w : World) (hl : l.length ≤ 9223372036854775807) :
    Calls Tryz.prog 15 #[.string ⟨l.toArray⟩, .int .i64 most] w fun e w' => e = .returned (.bool (wholeTB most l)) ∧ w' = w := by
  by_cases h : l.length ≤ most
  · have hi : (l.length : Int) ≤ most := by omega
    have HW := Lib.hid (show Lib.hasSuffix l [10] = wholeTB most l by rw [Bool.eq_iff_iff, suffix10, wholeTB_iff]; exact ⟨fun q => ⟨h, q⟩, fun q => q.2⟩)
    clear h
    go_enter Tryz.func15, Tryz.ntmps15
    go_wp2_with fail
    refine (Go.Proofs.Tryz.strings_HasSuffix ⟨l.toArray⟩ ⟨#[10]⟩ _ (by simp [ByteArray.size]; omega)).mono ?_; rintro e w' ⟨rfl, rfl⟩
    rw [show Lib.hasSuffix (⟨l.toArray⟩ : ByteArray).data.toList (⟨#[10]⟩ : ByteArray).data.toList = wholeTB most l from HW.out]
    go_wp2
    go_ret
    exact ⟨rfl, rfl⟩
  · have hi : ¬ (l.length : Int) ≤ most := by omega
    have HW := Lib.hid (show wholeTB most l = false by rw [← Bool.not_eq_true, wholeTB_iff]; exact fun q => h q.1)
    clear h
    go_enter Tryz.func15, Tryz.ntmps15
    go_wp2
    go_ret
    exact ⟨by rw [HW.out]; rfl, rfl⟩
end Go.Proofs.YtcomdkmglihdbaaGreatDoor

-- The program's reader of lines: (*reader).lines.
namespace Go.Proofs.YtcomdkmglihdbaaGreatDoor
open Go.RowKit
set_option linter.unusedSimpArgs false
set_option linter.unusedVariables false

def LinePost (n : Nat) (s : ByteArray) (g o : Nat) (w : World) (e : Ending) (w' : World) : Prop :=
  (∃ r t, TakeL n s.data.toList r t ∧ e = .returned (.tuple #[.string ⟨r.toArray⟩, .bool true]) ∧ w' = w.setCell ⟨g, o, none⟩ (.string ⟨t.toArray⟩)) ∨
  ((¬ ∃ r t, TakeL n s.data.toList r t) ∧ e = .returned (.tuple #[.string ⟨#[]⟩, .bool false]) ∧ w' = w)
theorem LinePost.yes {n : Nat} {s : ByteArray} {g o : Nat} {w w' : World} {r t : List UInt8} {u x : ByteArray} (h : TakeL n s.data.toList r t) (hu : u = ⟨r.toArray⟩) (hx : x = ⟨t.toArray⟩) (hw : w' = w.setCell ⟨g, o, none⟩ (.string x)) : LinePost n s g o w (.returned (.tuple #[.string u, .bool true])) w' := .inl ⟨r, t, h, by rw [hu], by rw [hw, hx]⟩
theorem LinePost.no {n : Nat} {s : ByteArray} {g o : Nat} {w : World} (h : ¬ ∃ r t, TakeL n s.data.toList r t) : LinePost n s g o w (.returned (.tuple #[.string ⟨#[]⟩, .bool false])) w := .inr ⟨h, rfl, rfl⟩
theorem takeL_next {l : List UInt8} {i k j : Nat} (h : TakeL i l (l.take k) (l.drop k)) (h1 : (l.drop k)[j]? = some 10) (h2 : ∀ q : Nat, q < j → (l.drop k)[q]? ≠ some 10) : TakeL (i + 1) l (l.take (k + j + 1)) (l.drop (k + j + 1)) := by
  rw [List.getElem?_drop] at h1
  have hlt := (List.getElem?_eq_some_iff.1 h1).1
  have e1 : l.take (k + j + 1) = l.take k ++ ((l.drop k).take j ++ [10]) := by
    rw [List.take_add_one, h1, List.take_add]
    simp
  have hno : cnt10 ((l.drop k).take j) = 0 := cnt10_no fun x hx e => by
    obtain ⟨q, hq⟩ := List.mem_iff_getElem?.1 hx
    rw [List.getElem?_take] at hq
    split at hq
    · rename_i hqj
      exact h2 q hqj (by rw [hq, e])
    · cases hq
  refine ⟨(List.take_append_drop _ _).symm, ?_, .inr ?_⟩
  · rw [e1, cnt10_append, cnt10_append, h.2.1, hno]; rfl
  · rw [e1, last_app _ (by simp), last_app _ (by simp)]; rfl
theorem takeL_none {l : List UInt8} {i k n : Nat} (h : TakeL i l (l.take k) (l.drop k)) (h1 : ∀ q : Nat, (l.drop k)[q]? ≠ some 10) (hin : i < n) : ¬ ∃ r t, TakeL n l r t := by
  rintro ⟨r, t, e, hn, _⟩
  have h0 : cnt10 (l.drop k) = 0 := cnt10_no fun x hx e => by
    obtain ⟨q, hq⟩ := List.mem_iff_getElem?.1 hx
    exact h1 q (by rw [hq, e])
  have hl : cnt10 l = i := by
    have := cnt10_append (l.take k) (l.drop k)
    rw [List.take_append_drop, h.2.1, h0] at this
    exact this
  have h2 := cnt10_append r t
  rw [← e, hn, hl] at h2
  omega

set_option maxHeartbeats 2000000 in
theorem lines_any (n : Nat) (s : ByteArray) (g o : Nat) (w : World) (hc : w.cell? ⟨g, o, none⟩ = some (.string s)) (hf : w.frozen? ⟨g, o, none⟩ = false) (hs : s.size ≤ 1048576) (hn : n ≤ 1048576) :
    Calls Tryz.prog 58 #[.pointer (some ⟨g, o, none⟩), .int .i64 n] w (LinePost n s g o w) := by
  have hlen : s.data.toList.length = s.size := by simp
  have HLEN := Lib.hid hlen; clear hlen
  go_enter Tryz.func58, Tryz.ntmps58
  go_wp2
  go_loop [6, 10] (fun v i => ∃ k m : Nat, m ≤ n ∧ k ≤ s.size ∧ i = .int .i64 m ∧ v = .int .i64 k ∧ Hid (TakeL m s.data.toList (s.data.toList.take k) (s.data.toList.drop k))) (fun _ i => n - (intOf i).toNat)
  case atStart => exact ⟨0, 0, by omega, by omega, rfl, rfl, Lib.hid ⟨rfl, rfl, .inl rfl⟩⟩
  case round =>
    obtain ⟨k, m, hm, hk, rfl, rfl, HT⟩ := hrel
    by_cases hlt : m < n
    · have hmi : (m : Int) < n := by omega
      have hki : (k : Int) ≤ s.size := by omega
      have HX := Lib.hid (show (s.extract k s.size).data.toList = s.data.toList.drop k by rw [Lib.extract_eq, List.take_of_length_le (by simp)])
      have HLM := Lib.hid hlt
      have HKS := Lib.hid hk
      clear hlt
      go_wp2_with fail
      refine (Go.Proofs.Tryz.strings_IndexByte (s.extract k s.size) 10 _).mono ?_; rintro e w' ⟨rfl, rfl⟩
      rw [HX.out]
      have hge := Lib.indexByte_ge (s.data.toList.drop k) 10
      obtain ⟨j, hj⟩ : ∃ j, j = Lib.indexByte (s.data.toList.drop k) 10 := ⟨_, rfl⟩
      rw [show ((10 : Int).toNat.toUInt8) = (10 : UInt8) from rfl, ← hj]
      rw [← hj] at hge
      by_cases hj0 : j < 0
      · have HNO := Lib.hid (takeL_none HT.out (Lib.indexByte_none (by rw [← hj]; omega)) HLM.out)
        clear hj hge
        go_wp2
        go_ret2
        exact LinePost.no HNO.out
      · obtain ⟨q, rfl⟩ := Int.eq_ofNat_of_zero_le (show 0 ≤ j by omega)
        obtain ⟨e1, e2⟩ := Lib.indexByte_some hj.symm
        have hql := (List.getElem?_eq_some_iff.1 e1).1
        rw [List.length_drop, HLEN.out] at hql
        have HNX := Lib.hid (takeL_next HT.out e1 e2)
        clear hj hge e1 e2
        go_wp2
        have hlm := HLM.out
        exact ⟨⟨k + q + 1, m + 1, by omega, by omega, by go_num, by go_num, HNX⟩, by simp [intOf]; omega⟩
    · obtain rfl : m = n := by omega
      have hmi : ¬ (m : Int) < m := by omega
      have hki : (k : Int) ≤ s.size := by omega
      have HX := Lib.hid (show s.extract k s.size = ⟨(s.data.toList.drop k).toArray⟩ by rw [Lib.extract_eq, List.take_of_length_le (by simp)])
      have HY := Lib.hid (show s.extract 0 k = ⟨(s.data.toList.take k).toArray⟩ by rw [Lib.extract_eq]; simp)
      go_wp2
      go_ret2
      exact LinePost.yes HT.out HY.out HX.out rfl
end Go.Proofs.YtcomdkmglihdbaaGreatDoor

-- impl's reader of texts: skip, number (XReader without done, for a seat in which nothing reaches it).
namespace Go.Proofs.YtcomdkmglihdbaaGreatDoor
open Go.RowKit
set_option linter.unusedSimpArgs false
set_option linter.unusedVariables false

theorem skip_any (s p : ByteArray) (g o : Nat) (w : World) (hc : w.cell? ⟨g, o, none⟩ = some (.string s)) (hf : w.frozen? ⟨g, o, none⟩ = false) :
    Calls Tryz.prog 56 #[.pointer (some ⟨g, o, none⟩), .string p] w fun e w' =>
      e = .returned (.bool (Lib.hasPrefix s.data.toList p.data.toList)) ∧ w' = w.setCell ⟨g, o, none⟩ (.string ⟨(Lib.trimPrefix s.data.toList p.data.toList).toArray⟩) := by
  go_enter Tryz.func56, Tryz.ntmps56
  go_wp2_with (go_at_call 82; refine (Go.Proofs.Tryz.strings_CutPrefix _ _ _).mono ?_; rintro e w' ⟨rfl, rfl⟩)
  go_ret
  exact ⟨rfl, rfl⟩

theorem hasPrefix_iff {l p : List UInt8} : Lib.hasPrefix l p = true ↔ ∃ t, l = p ++ t := by
  unfold Lib.hasPrefix
  rw [List.isPrefixOf_iff_prefix]
  exact ⟨fun ⟨t, h⟩ => ⟨t, h.symm⟩, fun ⟨t, h⟩ => ⟨t, h.symm⟩⟩
theorem skip_yes (s p : ByteArray) (t : List UInt8) (g o : Nat) (w : World) (hc : w.cell? ⟨g, o, none⟩ = some (.string s)) (hf : w.frozen? ⟨g, o, none⟩ = false) (h : s.data.toList = p.data.toList ++ t) :
    Calls Tryz.prog 56 #[.pointer (some ⟨g, o, none⟩), .string p] w fun e w' =>
      e = .returned (.bool true) ∧ w' = w.setCell ⟨g, o, none⟩ (.string ⟨t.toArray⟩) := by
  refine (skip_any s p g o w hc hf).mono fun e w' ⟨he, hw⟩ => ?_
  have hp : Lib.hasPrefix s.data.toList p.data.toList = true := hasPrefix_iff.2 ⟨t, h⟩
  rw [hp] at he
  refine ⟨he, hw.trans ?_⟩
  unfold Lib.trimPrefix
  rw [if_pos hp, h, List.drop_left]
theorem skip_no (s p : ByteArray) (g o : Nat) (w : World) (hc : w.cell? ⟨g, o, none⟩ = some (.string s)) (hf : w.frozen? ⟨g, o, none⟩ = false) (h : ¬ ∃ t, s.data.toList = p.data.toList ++ t) :
    Calls Tryz.prog 56 #[.pointer (some ⟨g, o, none⟩), .string p] w fun e w' =>
      e = .returned (.bool false) ∧ w' = w.setCell ⟨g, o, none⟩ (.string s) := by
  refine (skip_any s p g o w hc hf).mono fun e w' ⟨he, hw⟩ => ?_
  have hp : Lib.hasPrefix s.data.toList p.data.toList = false := by rw [← Bool.not_eq_true, hasPrefix_iff]; exact h
  rw [hp] at he
  refine ⟨he, hw.trans ?_⟩
  unfold Lib.trimPrefix
  rw [if_neg (by rw [hp]; simp)]

/-- What a number's reading leaves: the number and what is behind it, or nothing. -/
def NumPost (most : Int) (s : ByteArray) (g o : Nat) (w : World) (e : Ending) (w' : World) : Prop :=
  (∃ v r, NumAt most s.data.toList v r ∧ e = .returned (.tuple #[.int .i64 v, .bool true]) ∧ w' = w.setCell ⟨g, o, none⟩ (.string ⟨r.toArray⟩)) ∨
  ((¬ ∃ v r, NumAt most s.data.toList v r) ∧ e = .returned (.tuple #[.int .i64 0, .bool false]) ∧ (w' = w ∨ w' = w.setCell ⟨g, o, none⟩ (.string s)))
theorem NumPost.yes {most : Int} {s : ByteArray} {g o : Nat} {w w' : World} {v : Int} {r : List UInt8} (h : NumAt most s.data.toList v r) (hw : w' = w.setCell ⟨g, o, none⟩ (.string ⟨r.toArray⟩)) : NumPost most s g o w (.returned (.tuple #[.int .i64 v, .bool true])) w' := .inl ⟨v, r, h, rfl, hw⟩
theorem NumPost.no {most : Int} {s : ByteArray} {g o : Nat} {w w' : World} (h : ¬ ∃ v r, NumAt most s.data.toList v r) (hw : w' = w ∨ w' = w.setCell ⟨g, o, none⟩ (.string s)) : NumPost most s g o w (.returned (.tuple #[.int .i64 0, .bool false])) w' := .inr ⟨h, rfl, hw⟩

theorem NumPost.finish {most : Int} {s : ByteArray} {g o : Nat} {w : World} {k : Nat} (hk : k ≤ s.size) (hd : ∀ x ∈ s.data.toList.take k, isDig x = true) (hz : 1 < k → s.data.toList[0]? ≠ some 48) (hm : valOn 0 (s.data.toList.take k) ≤ most) (hn : noDig (s.data.toList.drop k)) :
    NumPost most s g o w (.returned (.tuple #[.int .i64 (valOn 0 (s.data.toList.take k)), .bool (decide (0 < k))])) (w.setCell ⟨g, o, none⟩ (.string (s.extract k s.size))) := by
  have hlen : s.data.toList.length = s.size := by simp
  by_cases h : k = 0
  · subst h
    have e : s.extract 0 s.size = s := by simp
    rw [e]
    exact NumPost.no (no_num_none (by simpa using hn)) (.inr rfl)
  · rw [show decide (0 < k) = true by simp; omega]
    refine NumPost.yes (num_yes (by omega) (by omega) hd hz hm hn) ?_
    rw [Lib.extract_eq, List.take_of_length_le (by simp)]

set_option maxHeartbeats 1000000 in
theorem number_any (most : Int) (s : ByteArray) (g o : Nat) (w : World) (hc : w.cell? ⟨g, o, none⟩ = some (.string s)) (hf : w.frozen? ⟨g, o, none⟩ = false) (hs : s.size ≤ 1152921504606846976) (h0 : 0 ≤ most) (h1 : most ≤ 4294967295) :
    Calls Tryz.prog 57 #[.pointer (some ⟨g, o, none⟩), .int .i64 most] w (NumPost most s g o w) := by
  have hlen : s.data.toList.length = s.size := by simp
  have HLEN := Lib.hid hlen; clear hlen
  go_enter Tryz.func57, Tryz.ntmps57
  go_wp2
  go_loop [6, 7] (fun v i => ∃ k : Nat, k ≤ s.size ∧ i = .int .i64 k ∧ v = .int .i64 (valOn 0 (s.data.toList.take k)) ∧ valOn 0 (s.data.toList.take k) ≤ most ∧ Hid (∀ x ∈ s.data.toList.take k, isDig x = true) ∧ Hid (1 < k → s.data.toList[0]? ≠ some 48)) (fun _ i => s.size - (intOf i).toNat)
  case atStart => exact ⟨0, Nat.zero_le _, rfl, rfl, h0, by simp [Hid], by simp [Hid]⟩
  case round =>
    obtain ⟨k, hk, rfl, rfl, hm, hd, hz⟩ := hrel
    have hv0 := (valOn_bd (s.data.toList.take k) 0 (by omega) hd.out).1
    by_cases hlt : k < s.size
    · have ht : s.data.toList.take (k + 1) = s.data.toList.take k ++ [s[k]] := by
        rw [List.take_succ_eq_append_getElem (by rw [HLEN.out]; exact hlt)]; rfl
      have HT := Lib.hid ht; clear ht
      by_cases hdig : isDig s[k] = true
      · have hall : ∀ x ∈ s.data.toList.take (k + 1), isDig x = true := fun x hx => by
          rw [HT.out] at hx
          rcases List.mem_append.1 hx with h | h
          · exact hd.out x h
          · rw [List.mem_singleton] at h; rw [h]; exact hdig
        have hx := isDig_iff.1 hdig
        obtain ⟨x1, x2⟩ := hx
        have x3 : (48 : Int) ≤ s[k].toNat := by omega
        have x4 : (s[k].toNat : Int) ≤ 57 := by omega
        have hval : valOn 0 (s.data.toList.take (k + 1)) = valOn 0 (s.data.toList.take k) * 10 + ((s[k].toNat : Int) - 48) := by rw [HT.out, valOn_snoc]
        have HA := Lib.hid hall; have HV := Lib.hid hval; clear hall hval hdig
        by_cases b1 : 0 < k ∧ valOn 0 (s.data.toList.take k) = 0
        · have hno := no_num_zero (most := most) (l := s.data.toList) (k := k) (by rw [HLEN.out]; exact hlt) b1.1 HA.out b1.2
          obtain ⟨b2, b3⟩ := b1
          have b4 : (0 : Int) < k := by omega
          have b5 : (valOn 0 (s.data.toList.take k) == 0) = true := by simp [b3]
          have HN := Lib.hid hno; clear hno b3
          go_wp2
          go_ret2
          exact NumPost.no HN.out (.inl rfl)
        · have b2 : ¬ ((0 : Int) < k ∧ valOn 0 (s.data.toList.take k) = 0) := fun h => b1 ⟨by omega, h.2⟩
          have b3 : ¬ (0 : Int) < k ∨ ((0 : Int) < k ∧ (valOn 0 (s.data.toList.take k) == 0) = false) := by
            by_cases h : (0 : Int) < k
            · exact .inr ⟨h, by simpa using fun e => b2 ⟨h, e⟩⟩
            · exact .inl h
          have hz0 : 1 < k + 1 → s.data.toList[0]? ≠ some 48 := fun _ => by
            intro e0
            by_cases hk1 : 1 < k
            · exact hz.out hk1 e0
            · have hk2 : k = 1 := by omega
              subst hk2
              apply b2
              refine ⟨by omega, ?_⟩
              cases hl : s.data.toList with
              | nil => rw [hl] at e0; cases e0
              | cons x l =>
                rw [hl] at e0
                simp at e0
                subst e0
                rfl
          clear b1 b2
          have HZ := Lib.hid hz0; clear hz0
          rcases b3 with b4 | ⟨b4, b5⟩
          all_goals
            by_cases c1 : (s[k].toNat : Int) - 48 ≤ most
            · by_cases c2 : valOn 0 (s.data.toList.take k) ≤ (most - ((s[k].toNat : Int) - 48)) / 10
              · go_wp2
                refine ⟨⟨k + 1, by omega, by go_num, by rw [HV.out], by rw [HV.out]; omega, HA.out, HZ.out⟩, by simp [intOf]; omega⟩
              · have hno := no_num_over (most := most) (l := s.data.toList) (k := k + 1) (by rw [HLEN.out]; exact hlt) HA.out (by rw [HV.out]; omega)
                have HN := Lib.hid hno; clear hno
                go_wp2
                all_goals (go_ret2; exact NumPost.no HN.out (.inl rfl))
            · have hno := no_num_over (most := most) (l := s.data.toList) (k := k + 1) (by rw [HLEN.out]; exact hlt) HA.out (by rw [HV.out]; omega)
              have HN := Lib.hid hno; clear hno
              go_wp2
              all_goals (go_ret2; exact NumPost.no HN.out (.inl rfl))
      · have hend : noDig (s.data.toList.drop k) := fun x hx => by
          rw [List.getElem?_drop, Nat.add_zero, List.getElem?_eq_getElem (by rw [HLEN.out]; exact hlt)] at hx
          have : s[k] = x := Option.some.inj hx
          rw [← this]; simpa using hdig
        have hx : ¬ (48 ≤ s[k].toNat ∧ s[k].toNat ≤ 57) := fun h => hdig (isDig_iff.2 h)
        have HE := Lib.hid hend; clear hend hdig
        by_cases x1 : (s[k].toNat : Int) < 48
        · clear hx
          go_wp2
          go_ret2
          exact NumPost.finish hk hd.out hz.out hm HE.out
        · have x2 : (57 : Int) < s[k].toNat := by omega
          clear hx
          go_wp2
          go_ret2
          exact NumPost.finish hk hd.out hz.out hm HE.out
    · have hend : noDig (s.data.toList.drop k) := fun x hx => by rw [List.drop_eq_nil_of_le (by rw [HLEN.out]; omega)] at hx; simp at hx
      have HE := Lib.hid hend; clear hend
      go_wp2
      go_ret2
      exact NumPost.finish hk hd.out hz.out hm HE.out
end Go.Proofs.YtcomdkmglihdbaaGreatDoor

-- The pads of a key as the program makes them: a row of 64 bytes, turned byte by byte. No program in sight.
namespace Go.Proofs.YtcomdkmglihdbaaGreatDoor
open Go.RowKit
set_option linter.unusedSimpArgs false
set_option linter.unusedVariables false

def pad0 (k : List UInt8) : List UInt8 := (List.range 64).map fun i => k.getD i 0
theorem pad0_len (k : List UInt8) : (pad0 k).length = 64 := by simp [pad0]
/-- The row after i rounds. -/
def padTo (k : List UInt8) (b : UInt8) (i : Nat) : List UInt8 := (padK k b).take i ++ (pad0 k).drop i
theorem padTo_zero (k : List UInt8) (b : UInt8) : padTo k b 0 = pad0 k := by simp [padTo]
theorem padTo_all (k : List UInt8) (b : UInt8) : padTo k b 64 = padK k b := by
  unfold padTo
  rw [List.take_of_length_le (by rw [padK_len]; omega), List.drop_of_length_le (by rw [pad0_len]; omega), List.append_nil]
theorem padTo_len (k : List UInt8) (b : UInt8) {i : Nat} (h : i ≤ 64) : (padTo k b i).length = 64 := by
  unfold padTo
  rw [List.length_append, List.length_take, List.length_drop, padK_len, pad0_len]
  omega
theorem padTo_at (k : List UInt8) (b : UInt8) {i : Nat} (h : i < 64) : (padTo k b i)[i]? = some (k.getD i 0) := by
  unfold padTo
  rw [List.getElem?_append_right (by rw [List.length_take, padK_len]; omega), List.length_take, padK_len, List.getElem?_drop, show min i 64 = i by omega]
  simp [pad0, h]
theorem padTo_next (k : List UInt8) (b : UInt8) {i : Nat} (h : i < 64) : (padTo k b i).set i (k.getD i 0 ^^^ b) = padTo k b (i + 1) := by
  apply List.ext_getElem?
  intro j
  rw [List.getElem?_set]
  have hl := padTo_len k b (Nat.le_of_lt h)
  unfold padTo at hl ⊢
  by_cases e : i = j
  · subst e
    rw [if_pos rfl, if_pos (by rw [hl]; exact h), List.getElem?_append_left (by rw [List.length_take, padK_len]; omega), List.getElem?_take, if_pos (by omega)]
    simp [padK, h]
  · rw [if_neg e]
    by_cases hj : j < i
    · rw [List.getElem?_append_left (by rw [List.length_take, padK_len]; omega), List.getElem?_append_left (by rw [List.length_take, padK_len]; omega), List.getElem?_take, List.getElem?_take, if_pos hj, if_pos (by omega)]
    · rw [List.getElem?_append_right (by rw [List.length_take, padK_len]; omega), List.getElem?_append_right (by rw [List.length_take, padK_len]; omega), List.getElem?_drop, List.getElem?_drop, List.length_take, List.length_take, padK_len]
      congr 1
      omega
end Go.Proofs.YtcomdkmglihdbaaGreatDoor
