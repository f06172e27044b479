/- Which call two policies say unlike things of, in plain Lean. No program in sight. -/
import Derived.Test.YtkiacbfpnidjlaaGreatDoorPofS
namespace Go.Proofs.YtkiacbfpnidjlaaGreatDoor
open Go.RowKit
set_option linter.unusedSimpArgs false
set_option linter.unusedVariables false

theorem polFine_of {p : Pol} (h : polOkB p = true) : PolFine p := by
  unfold polOkB polShapeB at h
  simp only [Bool.and_eq_true, decide_eq_true_eq] at h
  refine ⟨h.1.1.1, fun r hr => ?_⟩
  obtain ⟨_, _, _, h4, h5⟩ := ruleOkB_words (List.all_eq_true.1 h.1.2 r hr)
  refine ⟨h4, fun t ht => ?_⟩
  obtain ⟨h1, _, _, h3⟩ := testOkB_words (h5 t ht)
  omega
/-- All that are near, at most 600. -/
def nearL (p : Pol) : List Cl := callsTo (nearWs p.rules) 600
theorem callsTo_none {ws : List (List Int)} {m : Nat} (h : ctrAt (lensOf ws) m = none) : ∀ d, callsTo ws (m + d) = callsTo ws m
  | 0 => rfl
  | d + 1 => by
    rw [← Nat.add_assoc, callsTo, ctrAt_none h d]
    simp [callsTo_none h d]
theorem nearL_of {ws : List (List Int)} {a : List Cl} (h : NearIs ws 600 a) : a = callsTo ws 600 := by
  obtain ⟨m, rfl, _, rfl | ⟨h1, h2⟩⟩ := h
  · rfl
  · have := callsTo_none h2 (600 - m)
    rw [show m + (600 - m) = 600 by omega] at this
    exact this.symm
theorem callsTo_pre {ws : List (List Int)} (m : Nat) : ∀ d, ∃ b, callsTo ws (m + d) = callsTo ws m ++ b
  | 0 => ⟨[], by simp⟩
  | d + 1 => by
    obtain ⟨b, hb⟩ := callsTo_pre m d
    rw [← Nat.add_assoc, callsTo]
    cases ctrAt (lensOf ws) (m + d) with
    | none => exact ⟨b, by simpa using hb⟩
    | some us => exact ⟨b ++ [callAt ws us], by simp [hb]⟩
theorem nearWs_words {rs : List Rl} {k : Nat} {l : List Int} (h : (nearWs rs)[k]? = some l) : (∀ x ∈ l, 0 ≤ x ∧ x ≤ 4294967295) ∧ 0 < l.length := by
  have hk : k < 5 := by have := (List.getElem?_eq_some_iff.1 h).1; simpa [nearWs] using this
  rcases k with _ | _ | _ | _ | _ | k
  · cases h; exact ⟨fun x hx => (WordsOf.near rs 0).word hx, (WordsOf.near rs 0).pos⟩
  · cases h; exact ⟨fun x hx => (WordsOf.near rs 1).word hx, (WordsOf.near rs 1).pos⟩
  · cases h; exact ⟨fun x hx => (WordsOf.near rs 2).word hx, (WordsOf.near rs 2).pos⟩
  · cases h; exact ⟨fun x hx => (WordsOf.near rs 3).word hx, (WordsOf.near rs 3).pos⟩
  · cases h; exact ⟨fun x hx => (WordsOf.near rs 4).word hx, (WordsOf.near rs 4).pos⟩
  · omega
theorem wordAt2_ok {rs : List Rl} (us : List Nat) (k : Nat) : 0 ≤ wordAt2 (nearWs rs) us k ∧ wordAt2 (nearWs rs) us k ≤ 4294967295 := by
  unfold wordAt2
  cases h : (nearWs rs)[k]? with
  | none => simp
  | some l =>
    simp only [Option.getD_some]
    cases h2 : l[(us[k]?).getD 0]? with
    | none => simp
    | some x => exact (nearWs_words h).1 x (List.mem_of_getElem? h2)
theorem callAt_ok (rs : List Rl) (us : List Nat) : callOkB (callAt (nearWs rs) us).num (callAt (nearWs rs) us).args = true := by
  refine callOk_near (wordAt2_ok us 0) rfl (fun x hx => ?_)
  simp only [callAt, List.mem_cons, List.mem_nil_iff, or_false] at hx
  rcases hx with rfl | rfl | rfl | rfl <;> exact wordAt2_ok _ _
theorem callsTo_ok (rs : List Rl) : ∀ (m : Nat) (c : Cl), c ∈ callsTo (nearWs rs) m → callOkB c.num c.args = true
  | 0, c, h => by simp [callsTo] at h
  | m + 1, c, h => by
    rw [callsTo] at h
    cases hc : ctrAt (lensOf (nearWs rs)) m with
    | none => rw [hc] at h; exact callsTo_ok rs m c (by simpa using h)
    | some us =>
      rw [hc] at h
      simp only [List.mem_append, List.mem_singleton] at h
      rcases h with h | rfl
      · exact callsTo_ok rs m c h
      · exact callAt_ok rs us
/-- The two say unlike things of a call. -/
def unlike (p q : Pol) (c : Cl) : Bool := polOf p c != polOf q c
def findOf (p q : Pol) : Option Cl := if polOkB p && polOkB q then (nearL p ++ nearL q).find? (unlike p q) else none
theorem find_at {f : Cl → Bool} {cs bs : List Cl} {c : Cl} {rest : List Cl} (h : cs = bs ++ c :: rest) (hn : ∀ x ∈ bs, f x = false) (hc : f c = true) : cs.find? f = some c := by
  subst h
  rw [List.find?_append, List.find?_eq_none.2 (fun x hx => by rw [hn x hx]; simp), List.find?_cons, hc]
  rfl
theorem find_no {f : Cl → Bool} {cs : List Cl} (hn : ∀ x ∈ cs, f x = false) : cs.find? f = none := List.find?_eq_none.2 (fun x hx => by rw [hn x hx]; simp)
theorem findOf_self (p : Pol) : findOf p p = none := by
  unfold findOf
  split
  · exact find_no (fun x _ => by simp [unlike])
  · rfl
theorem findOf_ok {p q : Pol} {c : Cl} (h : findOf p q = some c) : polOkB p = true ∧ polOkB q = true ∧ callOkB c.num c.args = true ∧ unlike p q c = true := by
  unfold findOf at h
  split at h
  · rename_i hpq
    simp only [Bool.and_eq_true] at hpq
    have hm := List.mem_of_find?_eq_some h
    refine ⟨hpq.1, hpq.2, ?_, List.find?_some h⟩
    rw [List.mem_append] at hm
    rcases hm with hm | hm <;> exact callsTo_ok _ _ _ hm
  · cases h
theorem findOf_back (p q : Pol) : (findOf q p).isSome = (findOf p q).isSome := by
  unfold findOf
  rw [Bool.and_comm]
  split
  · rw [Bool.eq_iff_iff, List.find?_isSome, List.find?_isSome]
    have hu : ∀ c, unlike q p c = unlike p q c := fun c => by unfold unlike; rw [bne_comm]
    constructor <;> rintro ⟨c, hc, hf⟩ <;> refine ⟨c, ?_, by simpa [hu] using hf⟩ <;> simpa [or_comm] using hc
  · rfl
end Go.Proofs.YtkiacbfpnidjlaaGreatDoor
