/- Which fields a program loads at places to which a run can come: plain lists; no Go function is walked here. -/
import Derived.Test.YteflnpejhhkchaaGreatDoorUp
import Derived.Test.YteflnpejhhkchaaGreatDoorNextP
namespace Go.Proofs.YteflnpejhhkchaaGreatDoor
open Go.RowKit
set_option linter.unusedSimpArgs false
set_option linter.unusedVariables false

/-- The verdict v loadsAt at a point that is marked. -/
def loadsAt (g : List In4) (rs : List Bool) (v : Int) : Prop := ∃ (i : Nat) (p : In4), g[i]? = some p ∧ rs[i]? = some true ∧ p.op = 1 ∧ p.k = v
noncomputable def loadsB (g : List In4) (rs : List Bool) (v : Int) : Bool := @decide (loadsAt g rs v) (Classical.propDecidable _)
theorem loadsB_iff {g : List In4} {rs : List Bool} {v : Int} : loadsB g rs v = true ↔ loadsAt g rs v := by simp [loadsB]

/-- The fields of the first k places that are marked and load, in order. -/
def csTo (g : List In4) (rs : List Bool) : Nat → List Int
  | 0 => []
  | k + 1 => csTo g rs k ++ (match g[k]?, rs[k]? with | some p, some true => if p.op = 1 then [p.k] else [] | _, _ => [])
theorem csTo_yes {g : List In4} {rs : List Bool} {k : Nat} {p : In4} (hp : g[k]? = some p) (hr : rs[k]? = some true) (ho : p.op = 1) : csTo g rs (k + 1) = csTo g rs k ++ [p.k] := by simp [csTo, hp, hr, ho]
theorem csTo_op {g : List In4} {rs : List Bool} {k : Nat} {p : In4} (hp : g[k]? = some p) (ho : p.op ≠ 1) : csTo g rs (k + 1) = csTo g rs k := by
  simp only [csTo, hp]
  split <;> simp_all
theorem csTo_off {g : List In4} {rs : List Bool} {k : Nat} (hr : rs[k]? = some false) : csTo g rs (k + 1) = csTo g rs k := by
  simp only [csTo, hr]
  split <;> simp_all
theorem csTo_len (g : List In4) (rs : List Bool) : ∀ k, (csTo g rs k).length ≤ k
  | 0 => by simp [csTo]
  | k + 1 => by
    have := csTo_len g rs k
    simp only [csTo, List.length_append]
    split
    · split <;> simp <;> omega
    · simp; omega
theorem mem_csTo (g : List In4) (rs : List Bool) (v : Int) : ∀ k, v ∈ csTo g rs k ↔ ∃ (i : Nat) (p : In4), i < k ∧ g[i]? = some p ∧ rs[i]? = some true ∧ p.op = 1 ∧ p.k = v
  | 0 => by simp [csTo]
  | k + 1 => by
    simp only [csTo, List.mem_append, mem_csTo g rs v k]
    constructor
    · rintro (⟨i, p, h1, h2⟩ | h)
      · exact ⟨i, p, by omega, h2⟩
      · split at h
        · rename_i p hp hr
          split at h
          · rename_i ho
            simp at h
            exact ⟨k, p, by omega, hp, hr, ho, h.symm⟩
          · simp at h
        · simp at h
    · rintro ⟨i, p, h1, h2, h3, h4, h5⟩
      by_cases e : i = k
      · subst e
        right
        rw [h2, h3]
        simp [h4, h5]
      · exact .inl ⟨i, p, by omega, h2, h3, h4, h5⟩
theorem mem_csTo_all {g : List In4} {rs : List Bool} {v : Int} : v ∈ csTo g rs g.length ↔ loadsAt g rs v := by
  rw [mem_csTo]
  constructor
  · rintro ⟨i, p, _, h⟩; exact ⟨i, p, h⟩
  · rintro ⟨i, p, h⟩; exact ⟨i, p, (List.getElem?_eq_some_iff.1 h.1).1, h⟩

/-- The verdicts up to k that stand somewhere, ascending. -/
noncomputable def fsTo (g : List In4) (rs : List Bool) : Nat → List Int
  | 0 => []
  | k + 1 => fsTo g rs k ++ (if loadsB g rs (k : Int) then [(k : Int)] else [])
theorem fsTo_yes {g : List In4} {rs : List Bool} {k : Nat} (h : loadsAt g rs (k : Int)) : fsTo g rs (k + 1) = fsTo g rs k ++ [(k : Int)] := by
  simp only [fsTo]; rw [if_pos (loadsB_iff.2 h)]
theorem fsTo_no {g : List In4} {rs : List Bool} {k : Nat} (h : ¬ loadsAt g rs (k : Int)) : fsTo g rs (k + 1) = fsTo g rs k := by
  simp only [fsTo]; rw [if_neg (fun e => h (loadsB_iff.1 e))]; simp
theorem mem_fsTo (g : List In4) (rs : List Bool) (v : Int) : ∀ k : Nat, v ∈ fsTo g rs k ↔ (0 ≤ v ∧ v < k) ∧ loadsAt g rs v
  | 0 => by simp [fsTo]; intro h1 h2; omega
  | k + 1 => by
    simp only [fsTo, List.mem_append, mem_fsTo g rs v k]
    constructor
    · rintro (h | h)
      · exact ⟨by omega, h.2⟩
      · split at h
        · rename_i hs
          simp at h
          subst h
          exact ⟨by omega, loadsB_iff.1 hs⟩
        · simp at h
    · rintro ⟨h1, h2⟩
      by_cases e : v = (k : Int)
      · subst e; right; rw [if_pos (loadsB_iff.2 h2)]; simp
      · exact .inl ⟨by omega, h2⟩
theorem fsTo_len (g : List In4) (rs : List Bool) : ∀ k, (fsTo g rs k).length ≤ k
  | 0 => by simp [fsTo]
  | k + 1 => by
    have := fsTo_len g rs k
    simp only [fsTo, List.length_append]
    split <;> simp <;> omega
theorem fsTo_up (g : List In4) (rs : List Bool) : ∀ k, (fsTo g rs k).Pairwise (· < ·)
  | 0 => by simp [fsTo]
  | k + 1 => by
    simp only [fsTo]
    rw [List.pairwise_append]
    refine ⟨fsTo_up g rs k, by split <;> simp, fun a ha b hb => ?_⟩
    have := ((mem_fsTo g rs a k).1 ha).1
    split at hb
    · simp at hb; omega
    · simp at hb

/-- What is loaded, sorted and each once, is what is loaded, ascending. -/
theorem calls_one {g : List In4} {rs : List Bool} (hg : waysOk g) : Lib.compact ((csTo g rs g.length).mergeSort fun x y => decide (x ≤ y)) = fsTo g rs 5 := by
  obtain ⟨h1, h2⟩ := compact_up _ (sorted_up (csTo g rs g.length))
  refine up_one _ _ h1 (fsTo_up g rs 5) (fun v => ?_)
  rw [h2 v, List.mem_mergeSort, mem_csTo_all, mem_fsTo]
  constructor
  · intro h
    refine ⟨?_, h⟩
    obtain ⟨i, p, hp, _, ho, hv⟩ := h
    have := hg.2.2 i p (List.getElem?_eq_some_iff.1 hp).1 hp
    unfold insOk at this
    omega
  · exact fun h => h.2
end Go.Proofs.YteflnpejhhkchaaGreatDoor
