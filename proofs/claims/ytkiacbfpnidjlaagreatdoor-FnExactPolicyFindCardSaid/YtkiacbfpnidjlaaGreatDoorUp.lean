/- Rows of numbers that ascend: plain; no Go function is walked here. -/
import Derived.Test.YtkiacbfpnidjlaaGreatDoorKit
import Derived.Lib.SlicesCompact
namespace Go.Proofs.YtkiacbfpnidjlaaGreatDoor
open Go.RowKit
set_option linter.unusedSimpArgs false
set_option linter.unusedVariables false

/-- Two rows that ascend and hold the same are the same. -/
theorem up_one : ∀ (xs ys : List Int), xs.Pairwise (· < ·) → ys.Pairwise (· < ·) → (∀ v, v ∈ xs ↔ v ∈ ys) → xs = ys
  | [], [], _, _, _ => rfl
  | [], y :: ys, _, _, h => absurd ((h y).2 (by simp)) (by simp)
  | x :: xs, [], _, _, h => absurd ((h x).1 (by simp)) (by simp)
  | x :: xs, y :: ys, hx, hy, h => by
    rw [List.pairwise_cons] at hx hy
    have e : x = y := by
      have h1 := (h x).1 (by simp)
      have h2 := (h y).2 (by simp)
      simp at h1 h2
      rcases h1 with h1 | h1
      · exact h1
      · rcases h2 with h2 | h2
        · exact h2.symm
        · have a := hx.1 y h2; have b := hy.1 x h1; omega
    subst e
    rw [up_one xs ys hx.2 hy.2 (fun v => ?_)]
    constructor
    · intro hv
      have := (h v).1 (by simp [hv])
      simp at this
      rcases this with rfl | this
      · have := hx.1 v hv; omega
      · exact this
    · intro hv
      have := (h v).2 (by simp [hv])
      simp at this
      rcases this with rfl | this
      · have := hy.1 v hv; omega
      · exact this

/-- Of a row that ascends weakly what slices.Compact leaves ascends, and holds the same. -/
theorem compact_up (zs : List Int) (hs : zs.Pairwise (· ≤ ·)) : (Lib.compact zs).Pairwise (· < ·) ∧ ∀ v, v ∈ Lib.compact zs ↔ v ∈ zs := by
  have get : ∀ j, j < zs.length → zs.toArray[j]! = (zs[j]?).getD 0 := fun j hj => by simp [hj]
  have mono : ∀ i j, i ≤ j → j < zs.length → zs.toArray[i]! ≤ zs.toArray[j]! := by
    intro i j hij hj
    by_cases e : i = j
    · subst e; omega
    · have := List.pairwise_iff_getElem.1 hs i j (by omega) hj (by omega)
      simp [hj, show i < zs.length by omega]; exact this
  have key : ∀ k, k ≤ zs.length → (Lib.compactUpTo zs.toArray k).Pairwise (· < ·) ∧ (∀ v, v ∈ Lib.compactUpTo zs.toArray k ↔ v ∈ zs.take k) ∧ (∀ v ∈ Lib.compactUpTo zs.toArray k, 0 < k ∧ v ≤ zs.toArray[k - 1]!) := by
    intro k
    induction k with
    | zero => intro _; simp [Lib.compactUpTo]
    | succ k ih =>
      intro hk
      obtain ⟨h1, h2, h3⟩ := ih (by omega)
      rw [Lib.compactUpTo_succ]
      have htk : zs.take (k + 1) = zs.take k ++ [zs.toArray[k]!] := by
        rw [List.take_add_one, List.getElem?_eq_getElem (by omega)]
        simp [show k < zs.length by omega]
      by_cases hkp : Lib.keeps zs.toArray k = true
      · rw [if_pos hkp]
        refine ⟨?_, ?_, ?_⟩
        · rw [List.pairwise_append]
          refine ⟨h1, by simp, fun a ha b hb => ?_⟩
          simp at hb
          have h4 := h3 a ha
          have h5 := mono (k - 1) k (by omega) (by omega)
          have h6 : zs.toArray[k]! ≠ zs.toArray[k - 1]! := by
            unfold Lib.keeps at hkp
            rw [decide_eq_true_eq] at hkp
            rcases hkp with h | h
            · omega
            · exact h
          have hb' : b = zs.toArray[k]! := by simpa [show k < zs.length by omega] using hb
          omega
        · intro v
          rw [htk, List.mem_append, List.mem_append, h2 v]
        · intro v hv
          refine ⟨by omega, ?_⟩
          rw [List.mem_append] at hv
          rcases hv with hv | hv
          · have h4 := h3 v hv
            have h5 := mono (k - 1) k (by omega) (by omega)
            show v ≤ zs.toArray[k]!
            omega
          · simp only [List.mem_singleton] at hv; rw [hv]; show zs.toArray[k]! ≤ zs.toArray[k]!; omega
      · have hkf : Lib.keeps zs.toArray k = false := by simpa using hkp
        rw [if_neg hkp, List.append_nil]
        unfold Lib.keeps at hkf
        rw [decide_eq_false_iff_not] at hkf
        have hk0 : k ≠ 0 := fun e => hkf (.inl e)
        have heq : zs.toArray[k]! = zs.toArray[k - 1]! := by
          apply Classical.byContradiction
          intro e; exact hkf (.inr e)
        refine ⟨h1, fun v => ?_, fun v hv => ⟨by omega, ?_⟩⟩
        · rw [htk, List.mem_append, h2 v, heq]
          constructor
          · exact .inl
          · rintro (h | h)
            · exact h
            · simp only [List.mem_singleton] at h
              rw [h, List.mem_take_iff_getElem]
              refine ⟨k - 1, by omega, ?_⟩
              simp [show k - 1 < zs.length by omega]
        · show v ≤ zs.toArray[k]!
          rw [heq]; exact (h3 v hv).2
  obtain ⟨h1, h2, _⟩ := key zs.length (Nat.le_refl _)
  refine ⟨h1, fun v => ?_⟩
  have := h2 v
  rw [List.take_length] at this
  exact this

theorem sorted_up (xs : List Int) : (xs.mergeSort fun x y => decide (x ≤ y)).Pairwise (· ≤ ·) := by
  have h := List.pairwise_mergeSort (le := fun x y : Int => decide (x ≤ y)) (by intro a b c; simp; omega) (by intro a b; simp; omega) xs
  exact h.imp (by simp)

end Go.Proofs.YtkiacbfpnidjlaaGreatDoor
