/- A pack's text taken apart, in plain Lean: the stages of the three numbers. No program in sight. -/
import Derived.Test.YtlodcjpoamaemaaDoorPackP
namespace Go.Proofs.YtlodcjpoamaemaaDoor
open Go.RowKit
set_option linter.unusedSimpArgs false
set_option linter.unusedVariables false

def pkW : List UInt8 := [112, 97, 99, 107, 32]
def Stage (text : List UInt8) (k : Nat) (e n m : Int) (rest : List UInt8) : Prop :=
  (k = 0 ∧ text = pkW ++ rest ∧ e = 0 ∧ n = 0 ∧ m = 0) ∨
  (k = 1 ∧ (∃ A, text = pkW ++ A ∧ NumAt 99 A e (32 :: rest)) ∧ n = 0 ∧ m = 0) ∨
  (k = 2 ∧ (∃ A B, text = pkW ++ A ∧ NumAt 99 A e (32 :: B) ∧ NumAt 900 B n (32 :: rest)) ∧ m = 0) ∨
  (k = 3 ∧ ∃ A B C, text = pkW ++ A ∧ NumAt 99 A e (32 :: B) ∧ NumAt 900 B n (32 :: C) ∧ NumAt 2600 C m (10 :: rest))
def mostOf (k : Nat) : Int := if k = 0 then 99 else if k = 1 then 900 else 2600
def sepOf (k : Nat) : UInt8 := if k = 2 then 10 else 32
def eOf (k : Nat) (e v : Int) : Int := if k = 0 then v else e
def nOf (k : Nat) (e v : Int) : Int := if k = 1 then v else e
def mOf (k : Nat) (e v : Int) : Int := if k = 2 then v else e
theorem stage_start {text rest : List UInt8} (h : text = pkW ++ rest) : Stage text 0 0 0 0 rest := .inl ⟨rfl, h, rfl, rfl, rfl⟩
theorem start_no {text : List UInt8} (h : ¬ ∃ t, text = pkW ++ t) : ¬ ∃ p, SplitTo text p := by
  rintro ⟨p, A, B, C, D, E, F, n, m, e0, _⟩
  exact h ⟨A, e0⟩
theorem stage_next {text rest t : List UInt8} {k : Nat} {e n m v : Int} (hk : k < 3) (h : Stage text k e n m rest) (hn : NumAt (mostOf k) rest v (sepOf k :: t)) : Stage text (k + 1) (eOf k e v) (nOf k n v) (mOf k m v) t := by
  rcases h with ⟨rfl, h, rfl, rfl, rfl⟩ | ⟨rfl, ⟨A, h1, h2⟩, rfl, rfl⟩ | ⟨rfl, ⟨A, B, h1, h2, h3⟩, rfl⟩ | ⟨rfl, _⟩
  · exact .inr (.inl ⟨rfl, ⟨_, h, hn⟩, rfl, rfl⟩)
  · exact .inr (.inr (.inl ⟨rfl, ⟨_, _, h1, h2, hn⟩, rfl⟩))
  · exact .inr (.inr (.inr ⟨rfl, _, _, _, h1, h2, h3, hn⟩))
  · omega
theorem stage_no {text rest : List UInt8} {k : Nat} {e n m : Int} (hk : k < 3) (h : Stage text k e n m rest) (hn : ¬ ∃ v t, NumAt (mostOf k) rest v (sepOf k :: t)) : ¬ ∃ p, SplitTo text p := by
  rintro ⟨p, A, B, C, D, E, F, n', m', f0, f1, f2, f3, f4, f5⟩
  rcases h with ⟨rfl, h, rfl, rfl, rfl⟩ | ⟨rfl, ⟨A', h1, h2⟩, rfl, rfl⟩ | ⟨rfl, ⟨A', B', h1, h2, h3⟩, rfl⟩ | ⟨rfl, _⟩
  · obtain rfl := List.append_cancel_left (h.symm.trans f0)
    exact hn ⟨_, _, f1⟩
  · obtain rfl := List.append_cancel_left (h1.symm.trans f0)
    obtain ⟨_, k1⟩ := h2.unique f1
    simp only [List.cons.injEq, true_and] at k1
    subst k1
    exact hn ⟨_, _, f2⟩
  · obtain rfl := List.append_cancel_left (h1.symm.trans f0)
    obtain ⟨_, k1⟩ := h2.unique f1
    simp only [List.cons.injEq, true_and] at k1
    subst k1
    obtain ⟨_, k1⟩ := h3.unique f2
    simp only [List.cons.injEq, true_and] at k1
    subst k1
    exact hn ⟨_, _, f3⟩
  · omega
theorem part_no {most : Int} {rest r : List UInt8} {sep : UInt8} {v : Int} (h : NumAt most rest v r) (hn : ¬ ∃ t, r = [sep] ++ t) : ¬ ∃ v t, NumAt most rest v (sep :: t) := by
  rintro ⟨v', t, h'⟩
  obtain ⟨_, rfl⟩ := h.unique h'
  exact hn ⟨t, rfl⟩
theorem numAt_bd {most : Int} {l r : List UInt8} {v : Int} (h : NumAt most l v r) : 0 ≤ v ∧ v ≤ most ∧ l = Lib.itoa v ++ r := ⟨h.1.1, h.1.2, h.2.1⟩
theorem numAt_len {most : Int} {l r : List UInt8} {v : Int} (h : NumAt most l v r) : r.length ≤ l.length := by
  rw [(numAt_bd h).2.2, List.length_append]; omega
theorem stage_len {text rest : List UInt8} {k : Nat} {e n m : Int} (h : Stage text k e n m rest) : rest.length ≤ text.length := by
  rcases h with ⟨rfl, h, rfl, rfl, rfl⟩ | ⟨rfl, ⟨A', h1, h2⟩, rfl, rfl⟩ | ⟨rfl, ⟨A', B', h1, h2, h3⟩, rfl⟩ | ⟨rfl, A', B', C', h1, h2, h3, h4⟩
  · rw [h, List.length_append]; omega
  · have a := numAt_len h2
    rw [h1, List.length_append]; simp at a; omega
  · have a := numAt_len h2
    have b := numAt_len h3
    rw [h1, List.length_append]; simp at a b; omega
  · have a := numAt_len h2
    have b := numAt_len h3
    have c := numAt_len h4
    rw [h1, List.length_append]; simp at a b c; omega
theorem stage_bd {text rest : List UInt8} {e n m : Int} (h : Stage text 3 e n m rest) : (0 ≤ n ∧ n ≤ 900) ∧ (0 ≤ m ∧ m ≤ 2600) := by
  rcases h with ⟨h, _⟩ | ⟨h, _⟩ | ⟨h, _⟩ | ⟨_, A', B', C', h1, h2, h3, h4⟩
  · omega
  · omega
  · omega
  · exact ⟨h3.1, h4.1⟩
theorem stage_yes {text rest r E c F : List UInt8} {e n m : Int} (h : Stage text 3 e n m rest) (h1 : TakeL n.toNat rest r E) (h2 : TakeL m.toNat E c F) : SplitTo text ⟨e, r, c⟩ := by
  rcases h with ⟨h, _⟩ | ⟨h, _⟩ | ⟨h, _⟩ | ⟨_, A', B', C', k1, k2, k3, k4⟩
  · omega
  · omega
  · omega
  · exact ⟨A', B', C', rest, E, F, n, m, k1, k2, k3, k4, h1, h2⟩
theorem stage_no3 {text rest : List UInt8} {e n m : Int} (h : Stage text 3 e n m rest) (hn : ¬ ∃ r t, TakeL n.toNat rest r t) : ¬ ∃ p, SplitTo text p := by
  rintro ⟨p, A, B, C, D, E, F, n', m', f0, f1, f2, f3, f4, f5⟩
  rcases h with ⟨h, _⟩ | ⟨h, _⟩ | ⟨h, _⟩ | ⟨_, A', B', C', h1, h2, h3, h4⟩
  · omega
  · omega
  · omega
  · obtain rfl := List.append_cancel_left (h1.symm.trans f0)
    obtain ⟨_, k1⟩ := h2.unique f1
    simp only [List.cons.injEq, true_and] at k1
    subst k1
    obtain ⟨rfl, k1⟩ := h3.unique f2
    simp only [List.cons.injEq, true_and] at k1
    subst k1
    obtain ⟨_, k1⟩ := h4.unique f3
    simp only [List.cons.injEq, true_and] at k1
    subst k1
    exact hn ⟨_, _, f4⟩
theorem stage_no4 {text rest r E : List UInt8} {e n m : Int} (h : Stage text 3 e n m rest) (hr : TakeL n.toNat rest r E) (hn : ¬ ∃ r t, TakeL m.toNat E r t) : ¬ ∃ p, SplitTo text p := by
  rintro ⟨p, A, B, C, D, E', F, n', m', f0, f1, f2, f3, f4, f5⟩
  rcases h with ⟨h, _⟩ | ⟨h, _⟩ | ⟨h, _⟩ | ⟨_, A', B', C', h1, h2, h3, h4⟩
  · omega
  · omega
  · omega
  · obtain rfl := List.append_cancel_left (h1.symm.trans f0)
    obtain ⟨_, k1⟩ := h2.unique f1
    simp only [List.cons.injEq, true_and] at k1
    subst k1
    obtain ⟨rfl, k1⟩ := h3.unique f2
    simp only [List.cons.injEq, true_and] at k1
    subst k1
    obtain ⟨rfl, k1⟩ := h4.unique f3
    simp only [List.cons.injEq, true_and] at k1
    subst k1
    obtain ⟨_, rfl⟩ := hr.unique f4
    exact hn ⟨_, _, f5⟩
end Go.Proofs.YtlodcjpoamaemaaDoor
