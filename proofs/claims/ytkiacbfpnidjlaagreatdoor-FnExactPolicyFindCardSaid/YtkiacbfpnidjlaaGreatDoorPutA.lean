/- Joined texts: PutU PutV PutW PutX. -/
import Derived.Test.YtkiacbfpnidjlaaGreatDoorGmX
import Derived.Test.YtkiacbfpnidjlaaGreatDoorGmT
import Derived.Deep.LoopGhost
-- impl's lists of points: putRule.
namespace Go.Proofs.YtkiacbfpnidjlaaGreatDoor
open Go.RowKit Go.Maps
set_option linter.unusedSimpArgs false
set_option linter.unusedVariables false

/-- Every field of every point is a word. -/
def SmallG (g : List Pt) : Prop := ∀ (i : Nat) (p : Pt), g[i]? = some p → Small p
theorem SmallG.nil : SmallG [] := fun i p h => by simp at h
theorem SmallG.put {g g' : List Pt} {x : Pt} {i : Nat} (h : SmallG g) (hp : PutIs g x g' i) (hx : Small x) : SmallG g' := by
  rcases hp with ⟨rfl, -, -⟩ | ⟨rfl, rfl, -⟩
  · exact h
  · intro j p hj
    by_cases hl : j < g.length
    · rw [List.getElem?_append_left hl] at hj; exact h j p hj
    · rw [List.getElem?_append_right (by omega)] at hj
      by_cases h0 : j - g.length = 0
      · rw [h0] at hj; cases hj; exact hx
      · rw [List.getElem?_eq_none (by simp; omega)] at hj; cases hj
theorem SmallG.look {g g' : List Pt} {f m o v : Int} {y n i : Nat} (h : SmallG g) (hl : LookIs g f m o v y n g' i) (hx : Small ⟨0, f, m, o, v, y, n⟩) : SmallG g' := by
  rcases hl with ⟨-, rfl, rfl⟩ | ⟨-, hp⟩
  · exact h
  · exact h.put hp hx
theorem SmallG.test {g g' : List Pt} {t : Ts} {y n i : Nat} (h : SmallG g) (hl : TestIs g t y n g' i) (ht : testOkB t = true) (hy : y ≤ 100000) (hn : n ≤ 100000) : SmallG g' := by
  obtain ⟨⟨f0, f1⟩, ⟨m0, m1⟩, ⟨v0, v1⟩, -⟩ := testOkB_words ht
  rcases hl with ⟨-, hl⟩ | ⟨-, -, hl⟩ | ⟨-, -, -, rfl, rfl⟩ | ⟨-, -, h0, hl⟩
  · exact h.look hl (small_look ⟨by omega, by omega⟩ ⟨by omega, by omega⟩ ⟨by omega, by omega⟩ ⟨by omega, by omega⟩ hy hn)
  · exact h.look hl (small_look ⟨by omega, by omega⟩ ⟨by omega, by omega⟩ ⟨by omega, by omega⟩ ⟨by omega, by omega⟩ hy hn)
  · exact h
  · exact h.look hl (small_look ⟨by omega, by omega⟩ ⟨by omega, by omega⟩ ⟨by omega, by omega⟩ ⟨by omega, by omega⟩ hn hy)

end Go.Proofs.YtkiacbfpnidjlaaGreatDoor

-- impl's trimming: pointsFrom.
namespace Go.Proofs.YtkiacbfpnidjlaaGreatDoor
open Go.RowKit Go.Maps
set_option linter.unusedSimpArgs false
set_option linter.unusedVariables false

end Go.Proofs.YtkiacbfpnidjlaaGreatDoor

-- impl's trimming: putAnew.
namespace Go.Proofs.YtkiacbfpnidjlaaGreatDoor
open Go.RowKit Go.Maps
set_option linter.unusedSimpArgs false
set_option linter.unusedVariables false

theorem TrimTo.near {g : List Pt} (hg : Good g) {at_ : Nat} {gs : List Pt} {ts : List Nat} : ∀ k, at_ + 1 ≤ k → k ≤ g.length → TrimTo g (usedOf g at_) k gs ts → TrimTo g (usedOf g at_) (at_ + 1) gs ts
  | 0, hk, _, _ => absurd hk (by omega)
  | k + 1, hk, hl, h => by
    by_cases e : k = at_
    · subst e; exact h
    · obtain ⟨gs0, ts0, h0, h1⟩ := h
      rcases h1 with ⟨-, rfl, rfl⟩ | ⟨h2, -⟩
      · exact TrimTo.near hg k (by omega) (by omega) h0
      · rw [usedOf_far hg (by omega) (by omega)] at h2; cases h2

end Go.Proofs.YtkiacbfpnidjlaaGreatDoor

-- impl's trimming: trimFrom.
namespace Go.Proofs.YtkiacbfpnidjlaaGreatDoor
open Go.RowKit Go.Maps
set_option linter.unusedSimpArgs false
set_option linter.unusedVariables false

theorem PutIs.len {g g' : List Pt} {x : Pt} {i : Nat} (h : PutIs g x g' i) : g'.length ≤ g.length + 1 := by
  rcases h with ⟨rfl, -, -⟩ | ⟨rfl, -, -⟩
  · omega
  · simp
theorem TrimTo.len {g : List Pt} {us : List Bool} : ∀ {k : Nat} {gs : List Pt} {ts : List Nat}, TrimTo g us k gs ts → gs.length ≤ k
  | 0, _, _, ⟨rfl, rfl⟩ => by simp
  | k + 1, _, _, ⟨g0, t0, h0, h1⟩ => by
    have := TrimTo.len h0
    rcases h1 with ⟨-, rfl, rfl⟩ | ⟨-, p, i, -, -, ⟨-, h⟩ | ⟨-, h⟩⟩
    · omega
    · have := h.len; omega
    · rcases h with ⟨-, rfl, -⟩ | ⟨-, h⟩
      · omega
      · have := h.len; omega

end Go.Proofs.YtkiacbfpnidjlaaGreatDoor
