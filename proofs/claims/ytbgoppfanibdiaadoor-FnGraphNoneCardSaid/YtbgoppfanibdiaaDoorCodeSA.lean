/- Joined texts: CodeS CodeS2. -/
import Derived.Test.YtbgoppfanibdiaaDoorTxt
-- spec's programs: l3InsOk, CodeOk, l3Names, l3Write, CodeWrite.
namespace Go.Proofs.YtbgoppfanibdiaaDoor
open Go.RowKit
set_option linter.unusedSimpArgs false
set_option linter.unusedVariables false

noncomputable def insOkB (x : In4) (left : Int) : Bool := @decide (insOk x left) (Classical.propDecidable _)
theorem insOkB_iff {x : In4} {left : Int} : insOkB x left = true ↔ insOk x left := by simp [insOkB]
theorem insOkB_of {x : In4} {left : Int} {b : Bool} (e : b = true ↔ insOk x left) : b = insOkB x left := by rw [Bool.eq_iff_iff, e, insOkB_iff]

theorem ba32 : (⟨#[32]⟩ : ByteArray) = ⟨([32] : List UInt8).toArray⟩ := rfl
theorem ba10 : (⟨#[10]⟩ : ByteArray) = ⟨([10] : List UInt8).toArray⟩ := rfl
theorem take_insText {g : List In4} {k : Nat} {x : In4} (h : g[k]? = some x) : codeText (g.take (k + 1)) = codeText (g.take k) ++ insText x := by
  rw [List.take_add_one, h]; exact codeText_snoc _ _
theorem ret_str {a b : List UInt8} (h : a = b) : Value.string ⟨a.toArray⟩ = .string ⟨b.toArray⟩ := by rw [h]

end Go.Proofs.YtbgoppfanibdiaaDoor

-- spec's programs: CodeOk, CodeWrite, l3Line, CodeRead.
namespace Go.Proofs.YtbgoppfanibdiaaDoor
open Go.RowKit
set_option linter.unusedSimpArgs false
set_option linter.unusedVariables false

theorem not_ways {g : List In4} {k : Nat} {x : In4} (hx : g[k]? = some x) (h : ¬ insOk x ((g.length : Int) - k - 2)) : ¬ codeOk g := fun ho =>
  h (ho.1.2.2 k x (List.getElem?_eq_some_iff.1 hx).1 hx)

/-- Of the names below a place the last that is this one. -/
def opUp (nm : List UInt8) : Nat → Int
  | 0 => 0
  | 1 => 0
  | j + 2 => if opNm ((j + 1 : Nat) : Int) = nm then ((j + 1 : Nat) : Int) else opUp nm (j + 1)
theorem opUp_yes {nm : List UInt8} {j : Nat} (h1 : 1 ≤ j) (h : opNm (j : Int) = nm) : opUp nm (j + 1) = j := by
  obtain ⟨i, rfl⟩ : ∃ i, j = i + 1 := ⟨j - 1, by omega⟩
  rw [opUp, if_pos h]
theorem opUp_no {nm : List UInt8} {j : Nat} (h1 : 1 ≤ j) (h : ¬ opNm (j : Int) = nm) : opUp nm (j + 1) = opUp nm j := by
  obtain ⟨i, rfl⟩ : ∃ i, j = i + 1 := ⟨j - 1, by omega⟩
  rw [opUp, if_neg h]
theorem opUp_all (nm : List UInt8) : opUp nm 7 = opOf nm := by
  unfold opOf
  by_cases h1 : nm = [108, 111, 97, 100]
  · subst h1; rfl
  by_cases h2 : nm = [97, 110, 100]
  · subst h2; rfl
  by_cases h3 : nm = [101, 113]
  · subst h3; rfl
  by_cases h4 : nm = [103, 116]
  · subst h4; rfl
  by_cases h5 : nm = [106, 117, 109, 112]
  · subst h5; rfl
  by_cases h6 : nm = [101, 110, 100]
  · subst h6; rfl
  rw [if_neg h1, if_neg h2, if_neg h3, if_neg h4, if_neg h5, if_neg h6]
  rw [opUp_no (by omega) (fun e => h6 (by rw [← e]; rfl)), opUp_no (by omega) (fun e => h5 (by rw [← e]; rfl)), opUp_no (by omega) (fun e => h4 (by rw [← e]; rfl)), opUp_no (by omega) (fun e => h3 (by rw [← e]; rfl)), opUp_no (by omega) (fun e => h2 (by rw [← e]; rfl)), opUp_no (by omega) (fun e => h1 (by rw [← e]; rfl))]
  rfl

end Go.Proofs.YtbgoppfanibdiaaDoor
