/- Which points a graph's beginning leads to, and the verdicts that stand there: plain lists; no Go function is walked here. -/
import Derived.Test.YtccklepidlddcaaPts
import Derived.Test.YtccklepidlddcaaUp
namespace Go.Proofs.Ytccklepidlddcaa
open Go.RowKit
set_option linter.unusedSimpArgs false
set_option linter.unusedVariables false

/-- Point m leads to point j at once. -/
def looks (g : List Pt) (m j : Nat) : Prop := ∃ p, g[m]? = some p ∧ p.op ≠ 0 ∧ (p.yes = j ∨ p.no = j)

/-- What is marked when all points behind i have been looked at. -/
structure Reach (g : List Pt) (beg : Nat) (i : Int) (rs : List Bool) : Prop where
  len : rs.length = g.length
  mem : ∀ j, j < g.length → (rs[j]? = some true ↔ (j = beg ∨ ∃ m : Nat, i < m ∧ m ≤ beg ∧ rs[m]? = some true ∧ looks g m j))

theorem Reach.start {g : List Pt} {beg : Nat} (hb : beg < g.length) : Reach g beg beg ((List.replicate g.length false).set beg true) := by
  refine ⟨by simp, fun j hj => ?_⟩
  constructor
  · intro h
    rw [List.getElem?_set] at h
    by_cases e : beg = j
    · exact .inl e.symm
    · rw [if_neg e] at h; simp [hj] at h
  · rintro (rfl | ⟨m, h1, h2, _⟩)
    · rw [List.getElem?_set, if_pos rfl]; simp [hb]
    · omega

theorem Reach.skip {g : List Pt} {beg k : Nat} {rs : List Bool} (h : Reach g beg k rs) (hno : ∀ j, ¬ (rs[k]? = some true ∧ looks g k j)) : Reach g beg ((k : Int) - 1) rs := by
  refine ⟨h.len, fun j hj => (h.mem j hj).trans ?_⟩
  constructor
  · rintro (e | ⟨m, h1, h2, h3⟩)
    · exact .inl e
    · exact .inr ⟨m, by omega, h2, h3⟩
  · rintro (e | ⟨m, h1, h2, h3⟩)
    · exact .inl e
    · by_cases e : m = k
      · subst e; exact absurd h3 (hno j)
      · exact .inr ⟨m, by omega, h2, h3⟩

theorem set2_get {rs : List Bool} {y o m : Nat} (hm : m < rs.length) : (((rs.set y true).set o true)[m]? = some true) ↔ (m = y ∨ m = o ∨ rs[m]? = some true) := by
  rw [List.getElem?_set, List.getElem?_set]
  by_cases e : o = m
  · simp [e, hm]
  · by_cases e2 : y = m
    · simp [e, e2, hm]
    · simp [e, e2]
      constructor
      · intro h; exact .inr (.inr h)
      · rintro (h | h | h)
        · exact absurd h.symm e2
        · exact absurd h.symm e
        · exact h
theorem set2_far {rs : List Bool} {y o m : Nat} (hy : m ≠ y) (ho : m ≠ o) : ((rs.set y true).set o true)[m]? = rs[m]? := by
  rw [List.getElem?_set, List.getElem?_set, if_neg (fun e => ho e.symm), if_neg (fun e => hy e.symm)]

theorem Reach.mark {g : List Pt} {beg k y o : Nat} {rs : List Bool} {p : Pt} (h : Reach g beg k rs) (hkb : k ≤ beg) (hp : g[k]? = some p) (hr : rs[k]? = some true) (hop : p.op ≠ 0) (hy : p.yes = y) (hn : p.no = o) (hyk : y < k) (hok : o < k) :
    Reach g beg ((k : Int) - 1) ((rs.set y true).set o true) := by
  have hlen := h.len
  refine ⟨by simpa using hlen, fun j hj => ?_⟩
  rw [set2_get (by omega)]
  constructor
  · rintro (rfl | rfl | hj')
    · exact .inr ⟨k, by omega, hkb, by rw [set2_far (by omega) (by omega)]; exact hr, p, hp, hop, .inl hy⟩
    · exact .inr ⟨k, by omega, hkb, by rw [set2_far (by omega) (by omega)]; exact hr, p, hp, hop, .inr hn⟩
    · rcases (h.mem j hj).1 hj' with e | ⟨m, h1, h2, h3, h4⟩
      · exact .inl e
      · exact .inr ⟨m, by omega, h2, by rw [set2_far (by omega) (by omega)]; exact h3, h4⟩
  · rintro (e | ⟨m, h1, h2, h3, h4⟩)
    · exact .inr (.inr ((h.mem j hj).2 (.inl e)))
    · by_cases e : m = k
      · subst e
        obtain ⟨q, hq, _, h5⟩ := h4
        rw [hp] at hq; cases hq
        rcases h5 with h5 | h5
        · exact .inl (by omega)
        · exact .inr (.inl (by omega))
      · rw [set2_far (by omega) (by omega)] at h3
        exact .inr (.inr ((h.mem j hj).2 (.inr ⟨m, by omega, h2, h3, h4⟩)))

theorem looks_lt {g : List Pt} (hg : graphOk g) {m j : Nat} (h : looks g m j) : j < m := by
  obtain ⟨p, hp, hop, hj⟩ := h
  have := hg.2 m p hp
  unfold ptOk at this
  rcases this with h | h
  · exact absurd h.1 hop
  · omega

theorem reach_one {g : List Pt} {beg : Nat} {rs rs' : List Bool} (hg : graphOk g) (hb : beg < g.length) (h : Reach g beg (-1) rs) (h' : Reach g beg (-1) rs') : rs = rs' := by
  have key : ∀ d j : Nat, j < g.length → g.length - j ≤ d → (rs[j]? = some true ↔ rs'[j]? = some true) := by
    intro d
    induction d with
    | zero => intro j hj hd; omega
    | succ d ih =>
      intro j hj hd
      rw [h.mem j hj, h'.mem j hj]
      constructor
      · rintro (e | ⟨m, h1, h2, h3, h4⟩)
        · exact .inl e
        · have := looks_lt hg h4
          exact .inr ⟨m, h1, h2, (ih m (by omega) (by omega)).1 h3, h4⟩
      · rintro (e | ⟨m, h1, h2, h3, h4⟩)
        · exact .inl e
        · have := looks_lt hg h4
          exact .inr ⟨m, h1, h2, (ih m (by omega) (by omega)).2 h3, h4⟩
  apply List.ext_getElem?
  intro j
  by_cases hj : j < g.length
  · have h1 := h.len; have h2 := h'.len
    have k := key _ j hj (Nat.le_refl _)
    rw [List.getElem?_eq_getElem (by omega), List.getElem?_eq_getElem (by omega)] at k ⊢
    cases hx : rs[j]'(by omega) <;> cases hy : rs'[j]'(by omega) <;> simp_all
  · have h1 := h.len; have h2 := h'.len
    rw [List.getElem?_eq_none (by omega), List.getElem?_eq_none (by omega)]

/-- The verdict v stands at a point that is marked. -/
def stands (g : List Pt) (rs : List Bool) (v : Int) : Prop := ∃ (i : Nat) (p : Pt), g[i]? = some p ∧ rs[i]? = some true ∧ p.op = 0 ∧ p.verdict = v
noncomputable def standsB (g : List Pt) (rs : List Bool) (v : Int) : Bool := @decide (stands g rs v) (Classical.propDecidable _)
theorem standsB_iff {g : List Pt} {rs : List Bool} {v : Int} : standsB g rs v = true ↔ stands g rs v := by simp [standsB]

/-- The verdicts of the first k points that are marked, in order. -/
def vsTo (g : List Pt) (rs : List Bool) : Nat → List Int
  | 0 => []
  | k + 1 => vsTo g rs k ++ (match g[k]?, rs[k]? with | some p, some true => if p.op = 0 then [p.verdict] else [] | _, _ => [])
theorem vsTo_yes {g : List Pt} {rs : List Bool} {k : Nat} {p : Pt} (hp : g[k]? = some p) (hr : rs[k]? = some true) (ho : p.op = 0) : vsTo g rs (k + 1) = vsTo g rs k ++ [p.verdict] := by simp [vsTo, hp, hr, ho]
theorem vsTo_op {g : List Pt} {rs : List Bool} {k : Nat} {p : Pt} (hp : g[k]? = some p) (ho : p.op ≠ 0) : vsTo g rs (k + 1) = vsTo g rs k := by
  simp only [vsTo, hp]
  split <;> simp_all
theorem vsTo_off {g : List Pt} {rs : List Bool} {k : Nat} (hr : rs[k]? = some false) : vsTo g rs (k + 1) = vsTo g rs k := by
  simp only [vsTo, hr]
  split <;> simp_all
theorem vsTo_len (g : List Pt) (rs : List Bool) : ∀ k, (vsTo g rs k).length ≤ k
  | 0 => by simp [vsTo]
  | k + 1 => by
    have := vsTo_len g rs k
    simp only [vsTo, List.length_append]
    split
    · split <;> simp <;> omega
    · simp; omega
theorem mem_vsTo (g : List Pt) (rs : List Bool) (v : Int) : ∀ k, v ∈ vsTo g rs k ↔ ∃ (i : Nat) (p : Pt), i < k ∧ g[i]? = some p ∧ rs[i]? = some true ∧ p.op = 0 ∧ p.verdict = v
  | 0 => by simp [vsTo]
  | k + 1 => by
    simp only [vsTo, List.mem_append, mem_vsTo g rs v k]
    constructor
    · rintro (⟨i, p, h1, h2⟩ | h)
      · exact ⟨i, p, by omega, h2⟩
      · split at h
        · rename_i p hp hr
          split at h
          · rename_i ho
            simp at h
            exact ⟨k, p, by omega, hp, hr, ho, h.symm⟩
          · simp at h
        · simp at h
    · rintro ⟨i, p, h1, h2, h3, h4, h5⟩
      by_cases e : i = k
      · subst e
        right
        rw [h2, h3]
        simp [h4, h5]
      · exact .inl ⟨i, p, by omega, h2, h3, h4, h5⟩
theorem mem_vsTo_all {g : List Pt} {rs : List Bool} {v : Int} : v ∈ vsTo g rs g.length ↔ stands g rs v := by
  rw [mem_vsTo]
  constructor
  · rintro ⟨i, p, _, h⟩; exact ⟨i, p, h⟩
  · rintro ⟨i, p, h⟩; exact ⟨i, p, (List.getElem?_eq_some_iff.1 h.1).1, h⟩

/-- The verdicts up to k that stand somewhere, ascending. -/
noncomputable def outTo (g : List Pt) (rs : List Bool) : Nat → List Int
  | 0 => []
  | k + 1 => outTo g rs k ++ (if standsB g rs ((k : Int) + 1) then [(k : Int) + 1] else [])
theorem outTo_yes {g : List Pt} {rs : List Bool} {k : Nat} (h : stands g rs ((k : Int) + 1)) : outTo g rs (k + 1) = outTo g rs k ++ [(k : Int) + 1] := by
  simp only [outTo]; rw [if_pos (standsB_iff.2 h)]
theorem outTo_no {g : List Pt} {rs : List Bool} {k : Nat} (h : ¬ stands g rs ((k : Int) + 1)) : outTo g rs (k + 1) = outTo g rs k := by
  simp only [outTo]; rw [if_neg (fun e => h (standsB_iff.1 e))]; simp
theorem mem_outTo (g : List Pt) (rs : List Bool) (v : Int) : ∀ k : Nat, v ∈ outTo g rs k ↔ (1 ≤ v ∧ v ≤ k) ∧ stands g rs v
  | 0 => by simp [outTo]; intro h1 h2; omega
  | k + 1 => by
    simp only [outTo, List.mem_append, mem_outTo g rs v k]
    constructor
    · rintro (h | h)
      · exact ⟨by omega, h.2⟩
      · split at h
        · rename_i hs
          simp at h
          subst h
          exact ⟨by omega, standsB_iff.1 hs⟩
        · simp at h
    · rintro ⟨h1, h2⟩
      by_cases e : v = (k : Int) + 1
      · subst e; right; rw [if_pos (standsB_iff.2 h2)]; simp
      · exact .inl ⟨by omega, h2⟩
theorem outTo_len (g : List Pt) (rs : List Bool) : ∀ k, (outTo g rs k).length ≤ k
  | 0 => by simp [outTo]
  | k + 1 => by
    have := outTo_len g rs k
    simp only [outTo, List.length_append]
    split <;> simp <;> omega
theorem outTo_up (g : List Pt) (rs : List Bool) : ∀ k, (outTo g rs k).Pairwise (· < ·)
  | 0 => by simp [outTo]
  | k + 1 => by
    simp only [outTo]
    rw [List.pairwise_append]
    refine ⟨outTo_up g rs k, by split <;> simp, fun a ha b hb => ?_⟩
    have := ((mem_outTo g rs a k).1 ha).1
    split at hb
    · simp at hb; omega
    · simp at hb

/-- What stands, sorted and each once, is what stands, ascending. -/
theorem verdicts_one {g : List Pt} {rs : List Bool} (hg : graphOk g) : Lib.compact ((vsTo g rs g.length).mergeSort fun x y => decide (x ≤ y)) = outTo g rs 4 := by
  obtain ⟨h1, h2⟩ := compact_up _ (sorted_up (vsTo g rs g.length))
  refine up_one _ _ h1 (outTo_up g rs 4) (fun v => ?_)
  rw [h2 v, List.mem_mergeSort, mem_vsTo_all, mem_outTo]
  constructor
  · intro h
    refine ⟨?_, h⟩
    obtain ⟨i, p, hp, _, ho, hv⟩ := h
    have := hg.2 i p hp
    unfold ptOk at this
    omega
  · exact fun h => h.2
end Go.Proofs.Ytccklepidlddcaa
