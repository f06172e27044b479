/- What is true of a graph's ways and of its longest way: plain; no Go function is walked here. -/
import Derived.Test.YtjkgnepbmeekhaaGraphWays
namespace Go.Proofs.Ytjkgnepbmeekhaa
open Go.RowKit
set_option linter.unusedSimpArgs false
set_option linter.unusedVariables false

/-- What holds of a point's two numbers. -/
structure Fine (j : Nat) (M W : Int) : Prop where
  m0 : 0 ≤ M
  mj : M ≤ j
  w1 : 1 ≤ W
  wm : W ≤ 1000000
  pow : W ≤ ((2 ^ M.toNat : Nat) : Int)
  more : M + 1 ≤ W
  one : M = 0 ↔ W = 1
theorem Fine.leaf (j : Nat) : Fine j 0 1 := ⟨by omega, by omega, by omega, by omega, by simp, by omega, by simp⟩
theorem Fine.look {j a b : Nat} {M W M' W' : Int} (h : Fine a M W) (h' : Fine b M' W') (ha : a < j) (hb : b < j) (hj : j ≤ 1000) : Fine j (1 + max M M') (min (W + W') 1000000) := by
  obtain ⟨m0, mj, w1, wm, pw, more, one⟩ := h
  obtain ⟨m0', mj', w1', wm', pw', more', one'⟩ := h'
  have hpow : W + W' ≤ ((2 ^ (1 + max M M').toNat : Nat) : Int) := by
    have e : (1 + max M M').toNat = (max M M').toNat + 1 := by omega
    rw [e, Nat.pow_succ]
    have h1 : 2 ^ M.toNat ≤ 2 ^ (max M M').toNat := Nat.pow_le_pow_right (by omega) (by omega)
    have h2 : 2 ^ M'.toNat ≤ 2 ^ (max M M').toNat := Nat.pow_le_pow_right (by omega) (by omega)
    generalize 2 ^ M.toNat = x at *
    generalize 2 ^ M'.toNat = y at *
    generalize 2 ^ (max M M').toNat = z at *
    omega
  exact ⟨by omega, by omega, by omega, by omega, Int.le_trans (by omega) hpow, by omega, by constructor <;> intro h <;> omega⟩

theorem tally_get {f : List Int → Pt → Int} {g : List Pt} {k j : Nat} (hk : k ≤ g.length) (hj : j < k) : (tallyTo f g (k + 1))[j]? = (tallyTo f g k)[j]? ∨ g.length ≤ k := by
  by_cases h : k < g.length
  · left
    rw [tallyTo_succ f g k g[k] (List.getElem?_eq_getElem h), List.getElem?_append_left (by rw [tallyTo_len f g k hk]; exact hj)]
  · exact .inr (by omega)

theorem fine_to {g : List Pt} (hg : graphOk g) : ∀ k, k ≤ g.length → ∀ j, j < k → Fine j (((mostTo g k)[j]?).getD 0) (((waysTo g k)[j]?).getD 0)
  | 0, _, _, h => absurd h (by omega)
  | k + 1, hk, j, hj => by
    have ih := fine_to hg k (by omega)
    have hp : g[k]? = some g[k] := List.getElem?_eq_getElem (by omega)
    have l1 : (mostTo g k).length = k := tallyTo_len _ _ _ (by omega)
    have l2 : (waysTo g k).length = k := tallyTo_len _ _ _ (by omega)
    have e1 : mostTo g (k + 1) = mostTo g k ++ [mostF (mostTo g k) g[k]] := tallyTo_succ mostF g k _ hp
    have e2 : waysTo g (k + 1) = waysTo g k ++ [waysF (waysTo g k) g[k]] := tallyTo_succ waysF g k _ hp
    rw [e1, e2]
    by_cases e : j = k
    · subst e
      rw [List.getElem?_append_right (by omega), List.getElem?_append_right (by omega), l1, l2, Nat.sub_self]
      simp only [List.getElem?_cons_zero, Option.getD_some]
      unfold mostF waysF
      have ho := hg.2 j _ hp
      unfold ptOk at ho
      by_cases h0 : g[j].op = 0
      · rw [if_pos h0, if_pos h0]; exact Fine.leaf j
      · rw [if_neg h0, if_neg h0]
        exact (ih g[j].yes.toNat (by omega)).look (ih g[j].no.toNat (by omega)) (by omega) (by omega) (by have := hg.1.2; omega)
    · rw [List.getElem?_append_left (by omega), List.getElem?_append_left (by omega)]
      exact ih j (by omega)

theorem fine_all {g : List Pt} (hg : graphOk g) : Fine (g.length - 1) (graphMost g) (graphWays g) := by
  have := hg.1
  exact fine_to hg g.length (Nat.le_refl _) (g.length - 1) (by omega)
end Go.Proofs.Ytjkgnepbmeekhaa
