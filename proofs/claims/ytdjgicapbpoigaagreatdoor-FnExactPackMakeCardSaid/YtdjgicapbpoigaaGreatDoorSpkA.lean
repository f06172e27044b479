/- What a policy and a program that are read come as; small laws. -/
import Derived.Test.YtdjgicapbpoigaaGreatDoorSrdA
import Derived.Test.YtdjgicapbpoigaaGreatDoorCodeS3
import Derived.Test.YtdjgicapbpoigaaGreatDoorChkSA
import Derived.Test.YtdjgicapbpoigaaGreatDoorCodeSA
namespace Go.Proofs.YtdjgicapbpoigaaGreatDoor
open Go.RowKit
set_option linter.unusedSimpArgs false
set_option linter.unusedVariables false

abbrev TPackS : TypeId := 26
theorem PolOwn.slice {w : World} {B : Nat} {p : Pol} {v : Value} (h : PolOwn w B p v) : ∃ A n c, v = .agg #[.slice A n c, .int .i64 p.els] := by
 obtain ⟨rv, css, rfl, ho, _⟩ := h
 rcases ho.2 with ⟨rfl, _⟩ | ⟨g', cap, cur, rfl, _⟩
 · exact ⟨_, _, _, rfl⟩
 · exact ⟨_, _, _, rfl⟩
theorem own_slice {w : World} {B n size : Nat} {e : TypeId} {v : Value} {xs : List Value} (ho : w.ownsRow B e size v n xs) : ∃ A c, v = .slice A n c := by
 rcases ho.2 with ⟨rfl, h⟩ | ⟨g', cap, cur, rfl, _⟩
 · exact ⟨none, 0, by rw [h]⟩
 · exact ⟨_, _, rfl⟩
theorem codePost_short {text : List UInt8} {e : TypeId} {w w' : World} {en : Ending} (h : CodePost text e w en w') : ∃ (g : List In4) (v : Value) (ok : Bool), en = .returned (.tuple #[v, .bool ok]) ∧ (ok = true → codeOk g ∧ text = codeText g) ∧ (ok = false → ¬ ∃ g, codeOk g ∧ text = codeText g) ∧ w'.ownsRow w.heap.size e 4 v g.length (insR g).flatten ∧ Below w.heap.size w w' := by
 rcases h with ⟨g, v, h1, h2, rfl, ho, hb⟩ | ⟨hn, v, rfl, ho, hb⟩
 · exact ⟨g, v, true, rfl, fun _ => ⟨h1, h2⟩, (fun h => by cases h), ho, hb⟩
 · exact ⟨[], v, false, rfl, (fun h => by cases h), fun _ => hn, ho, hb⟩

theorem set3_below {w w' : World} {a b c : Value} (h : Below w.heap.size w w') : Below w.heap.size w (((w'.setCell ⟨w.heap.size, 0, none⟩ a).setCell ⟨w.heap.size, 1, none⟩ b).setCell ⟨w.heap.size, 2, none⟩ c) :=
 ((h.setCell (p := ⟨w.heap.size, 0, none⟩) (Nat.le_refl _) _).setCell (p := ⟨w.heap.size, 1, none⟩) (Nat.le_refl _) _).setCell (p := ⟨w.heap.size, 2, none⟩) (Nat.le_refl _) _
theorem codeOut_lenS (x : List In4) : (codeOut x).length ≤ 2600 := by
 by_cases h : codeOk x
 · rw [h.out]; exact h.2
 · rw [codeOk.no h]; simp
end Go.Proofs.YtdjgicapbpoigaaGreatDoor
