/- Letters that lie in a block, and what a draw of packs writes. -/
import Derived.Test.YtcomdkmglihdbaaGreatDoorDrawPk
import Derived.Test.YtcomdkmglihdbaaGreatDoorHashNA
import Derived.Test.YtcomdkmglihdbaaGreatDoorPackSA
namespace Go.Proofs.YtcomdkmglihdbaaGreatDoor
open Go.RowKit
set_option linter.unusedSimpArgs false
set_option linter.unusedVariables false

/-- The letters l lie in block b, ahead of all that is frozen. -/
def Bys (w : World) (b : Nat) (l : List UInt8) : Prop := ∃ cur fr, w.heap[b]? = some (.cells cur 5 fr) ∧ (∀ (j : Nat) (x : UInt8), l[j]? = some x → cur[j]? = some (.int .u8 x.toNat)) ∧ (∀ j, j < l.length → (decide (fr.1 ≤ j) && decide (j < fr.2)) = false)
theorem Bys.lt {w : World} {b : Nat} {l : List UInt8} (h : Bys w b l) : b < w.heap.size := let ⟨_, _, h1, _⟩ := h; (Array.getElem?_eq_some_iff.1 h1).1
theorem Bys.below {w w' : World} {b B : Nat} {l : List UInt8} (h : Bys w b l) (hb : Below B w w') (hB : b < B) : Bys w' b l :=
  let ⟨cur, fr, h1, h2, h3⟩ := h; ⟨cur, fr, (hb.block b hB).trans h1, h2, h3⟩
theorem Bys.grown {w w' : World} {b g : Nat} {l : List UInt8} (h : Bys w b l) (hg : w.grownBy w' (some g)) (hne : b ≠ g) : Bys w' b l :=
  let ⟨cur, fr, h1, h2, h3⟩ := h; ⟨cur, fr, (hg.block b (Bys.lt ⟨cur, fr, h1, h2, h3⟩) (fun e => hne (by cases e; rfl))).trans h1, h2, h3⟩
theorem Bys.cell {w : World} {b j : Nat} {l : List UInt8} {x : UInt8} (h : Bys w b l) (hx : l[j]? = some x) : w.cell? ⟨b, j, none⟩ = some (.int .u8 x.toNat) := by
  obtain ⟨cur, fr, h1, h2, h3⟩ := h
  rw [heap_cell h1]
  exact h2 j x hx
theorem Bys.frozen {w : World} {b j : Nat} {l : List UInt8} (h : Bys w b l) (hj : j < l.length) : w.frozen? ⟨b, j, none⟩ = false := by
  obtain ⟨cur, fr, h1, h2, h3⟩ := h
  rw [heap_frozen h1]
  exact h3 j hj
theorem Bys.set {w : World} {b j : Nat} {l : List UInt8} (h : Bys w b l) (x : UInt8) : Bys (w.setCell ⟨b, j, none⟩ (.int .u8 x.toNat)) b (l.set j x) := by
  obtain ⟨cur, fr, h1, h2, h3⟩ := h
  refine ⟨cur.setIfInBounds j (.int .u8 x.toNat), fr, by simp [World.setCell, Array.getElem?_modify, h1], fun i y hy => ?_, fun i hi => h3 i (by simpa using hi)⟩
  rw [List.getElem?_set] at hy
  split at hy
  · rename_i e
    subst e
    split at hy
    · rename_i hl
      cases hy
      obtain ⟨z, hz⟩ : ∃ z, l[j]? = some z := ⟨_, List.getElem?_eq_getElem hl⟩
      have := h2 j z hz
      have hlt := (Array.getElem?_eq_some_iff.1 this).1
      simp [hlt]
    · cases hy
  · rename_i e
    rw [Array.getElem?_setIfInBounds, if_neg e]
    exact h2 i y hy
theorem Bys.back {w : World} {b c : Nat} {l : List UInt8} (h : Bys w b l) : (convert 22 9 (.slice (some ⟨b, 0, none⟩) l.length c)).run Tryz.prog w = .ok (.string ⟨l.toArray⟩) w :=
  run_convert_bytes_back w 22 9 5 ⟨b, 0, none⟩ c l Tryz.underlying22 Tryz.underlying5 Tryz.underlying9 (fun j hj => by
    rw [add_at, h.cell (List.getElem?_eq_getElem hj)]
    all_goals simp)
/-- A text's letters, laid. -/
theorem conv_bys (w : World) (l : List UInt8) (hs : l.length ≤ 140737488355328) : ∃ C W1, (convert 9 22 (.string ⟨l.toArray⟩)).run Tryz.prog w = .ok (.slice (some ⟨w.heap.size, 0, none⟩) l.length C) W1 ∧ l.length ≤ C ∧ C ≤ maxLen ∧ Bys W1 w.heap.size l ∧ Below w.heap.size w W1 := by
  obtain ⟨C, W1, h1, h2, h3⟩ := conv_text w ⟨l.toArray⟩ (by simpa [ByteArray.size] using hs)
  have hsz : (⟨l.toArray⟩ : ByteArray).size = l.length := by simp [ByteArray.size]
  rw [hsz] at h1 h2
  refine ⟨C, W1, h1, ?_, ?_, ?_, h3⟩
  · obtain ⟨g, cap, e, _, _, hc, _⟩ := h2.form
    cases e
    exact hc
  · obtain ⟨g, cap, e, _, _, _, hc⟩ := h2.form
    cases e
    exact hc
  · obtain ⟨hl, g, cap, cur, fr, e1, e2, e3, e4, e5, e6, e7, e8⟩ := h2
    cases e1
    refine ⟨cur, fr, e3, fun j x hx => ?_, fun j hj => e4 j (by omega)⟩
    have hj : j < l.length := (List.getElem?_eq_some_iff.1 hx).1
    have : (cur.toList.take l.length)[j]? = some (u8V x) := by
      rw [e8]
      simp [hx]
    rw [List.getElem?_take, if_pos hj] at this
    simpa [u8V] using this
end Go.Proofs.YtcomdkmglihdbaaGreatDoor
