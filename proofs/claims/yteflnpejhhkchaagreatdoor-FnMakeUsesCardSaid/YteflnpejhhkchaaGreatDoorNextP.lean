/- The ways of a program's places: to how many a run comes at most, and to which it can come: plain lists; no Go function is walked here. -/
import Derived.Test.YteflnpejhhkchaaGreatDoorTxt
namespace Go.Proofs.YteflnpejhhkchaaGreatDoor
open Go.RowKit
set_option linter.unusedSimpArgs false
set_option linter.unusedVariables false

/-- The places to which a place leads at once. -/
def nexts (x : In4) (i : Nat) : List Nat :=
  if x.op = 6 then [] else if x.op = 5 then [i + 1 + x.k.toNat] else if x.op = 3 ∨ x.op = 4 then [i + 1 + x.yes.toNat, i + 1 + x.no.toNat] else [i + 1]
theorem nexts_len (x : In4) (i : Nat) : (nexts x i).length ≤ 2 := by
  unfold nexts
  split
  · simp
  split
  · simp
  split <;> simp
theorem nexts_in {g : List In4} (hg : waysOk g) {i : Nat} {x : In4} (hx : g[i]? = some x) {j : Nat} (hj : j ∈ nexts x i) : i < j ∧ j < g.length := by
  have hi := (List.getElem?_eq_some_iff.1 hx).1
  have ho := hg.2.2 i x hi hx
  unfold insOk at ho
  unfold nexts at hj
  split at hj
  · simp at hj
  split at hj
  · simp at hj; omega
  split at hj
  · simp at hj; omega
  · simp at hj
    rename_i h1 h2 h3
    omega

/-- The greatest of what stands at places; nought where there is none. -/
def maxOver (ms : List Int) (js : List Nat) : Int := js.foldl (fun m j => max m ((ms[j]?).getD 0)) 0
theorem maxOver_nil (ms : List Int) : maxOver ms [] = 0 := rfl
theorem maxOver_snoc (ms : List Int) (js : List Nat) (j : Nat) : maxOver ms (js ++ [j]) = max (maxOver ms js) ((ms[j]?).getD 0) := by simp [maxOver]
theorem foldmax_congr {ms ms' : List Int} : ∀ (js : List Nat) (m : Int), (∀ j ∈ js, ms[j]? = ms'[j]?) → js.foldl (fun m j => max m ((ms[j]?).getD 0)) m = js.foldl (fun m j => max m ((ms'[j]?).getD 0)) m
  | [], _, _ => rfl
  | j :: js, m, h => by
    rw [List.foldl_cons, List.foldl_cons, h j (by simp)]
    exact foldmax_congr js _ (fun i hi => h i (by simp [hi]))
theorem maxOver_congr {ms ms' : List Int} {js : List Nat} (h : ∀ j ∈ js, ms[j]? = ms'[j]?) : maxOver ms js = maxOver ms' js := foldmax_congr js 0 h
theorem foldmax_le {ms : List Int} {b : Int} : ∀ (js : List Nat) (m : Int), m ≤ b → (∀ j ∈ js, (ms[j]?).getD 0 ≤ b) → js.foldl (fun m j => max m ((ms[j]?).getD 0)) m ≤ b
  | [], _, h, _ => h
  | j :: js, m, h, hj => by
    rw [List.foldl_cons]
    exact foldmax_le js _ (by have := hj j (by simp); omega) (fun i hi => hj i (by simp [hi]))
theorem le_foldmax {ms : List Int} : ∀ (js : List Nat) (m : Int), m ≤ js.foldl (fun m j => max m ((ms[j]?).getD 0)) m
  | [], m => Int.le_refl m
  | j :: js, m => by
    rw [List.foldl_cons]
    exact Int.le_trans (by omega) (le_foldmax js _)
theorem maxOver_ge (ms : List Int) (js : List Nat) : 0 ≤ maxOver ms js := le_foldmax js 0

/-- From k on all is told: one more than the greatest of those to which a place leads; ahead of it noughts. -/
structure MostFrom (g : List In4) (k : Int) (ms : List Int) : Prop where
  len : ms.length = g.length
  zero : ∀ j : Nat, (j : Int) < k → j < g.length → ms[j]? = some 0
  told : ∀ (j : Nat) (x : In4), k ≤ j → g[j]? = some x → ms[j]? = some (1 + maxOver ms (nexts x j))
theorem MostFrom.start (g : List In4) : MostFrom g g.length (List.replicate g.length 0) :=
  ⟨by simp, fun j hj hl => by simp [hl], fun j x hk hx => by have := (List.getElem?_eq_some_iff.1 hx).1; omega⟩
theorem MostFrom.step {g : List In4} {k : Nat} {ms : List Int} {x : In4} (hg : waysOk g) (h : MostFrom g ((k : Int) + 1) ms) (hx : g[k]? = some x) : MostFrom g k (ms.set k (1 + maxOver ms (nexts x k))) := by
  have hk := (List.getElem?_eq_some_iff.1 hx).1
  have hl := h.len
  have hc : ∀ (j : Nat) (y : In4), k ≤ j → g[j]? = some y → maxOver (ms.set k (1 + maxOver ms (nexts x k))) (nexts y j) = maxOver ms (nexts y j) := fun j y hj hy =>
    maxOver_congr (fun i hi => by
      have := nexts_in hg hy hi
      rw [List.getElem?_set, if_neg (by omega)])
  refine ⟨by simpa using hl, fun j hj hjl => ?_, fun j y hj hy => ?_⟩
  · rw [List.getElem?_set, if_neg (by omega)]; exact h.zero j (by omega) hjl
  · rw [hc j y (by omega) hy]
    by_cases e : k = j
    · subst e
      rw [hx] at hy; cases hy
      rw [List.getElem?_set, if_pos rfl]; simp [hl, hk]
    · rw [List.getElem?_set, if_neg e]; exact h.told j y (by omega) hy
theorem MostFrom.bound {g : List In4} {k : Int} {ms : List Int} (hg : waysOk g) (h : MostFrom g k ms) : ∀ (d j : Nat), j < g.length → g.length - j ≤ d → 0 ≤ (ms[j]?).getD 0 ∧ (ms[j]?).getD 0 ≤ (g.length : Int) - j := by
  intro d
  induction d with
  | zero => intro j hj hd; omega
  | succ d ih =>
    intro j hj hd
    by_cases hjk : k ≤ (j : Int)
    · have hx : g[j]? = some g[j] := List.getElem?_eq_getElem hj
      rw [h.told j _ hjk hx]
      simp only [Option.getD_some]
      have h1 := maxOver_ge ms (nexts g[j] j)
      have h2 : maxOver ms (nexts g[j] j) ≤ (g.length : Int) - j - 1 := foldmax_le _ _ (by omega) (fun i hi => by
        have := nexts_in hg hx hi
        have := (ih i this.2 (by omega)).2
        omega)
      omega
    · rw [h.zero j (by omega) hj]; simp; omega
theorem MostFrom.bnd {g : List In4} {k : Int} {ms : List Int} (hg : waysOk g) (h : MostFrom g k ms) {j : Nat} (hj : j < g.length) : 0 ≤ (ms[j]?).getD 0 ∧ (ms[j]?).getD 0 ≤ 160 := by
  have := h.bound hg _ j hj (Nat.le_refl _)
  have := hg.2.1
  omega
theorem MostFrom.over {g : List In4} {k : Int} {ms : List Int} (hg : waysOk g) (h : MostFrom g k ms) {js : List Nat} (hj : ∀ j ∈ js, j < g.length) : 0 ≤ maxOver ms js ∧ maxOver ms js ≤ 160 :=
  ⟨maxOver_ge _ _, foldmax_le _ _ (by omega) (fun j hi => (h.bnd hg (hj j hi)).2)⟩
theorem most_one {g : List In4} {ms ms' : List Int} (hg : waysOk g) (h : MostFrom g 0 ms) (h' : MostFrom g 0 ms') : ms = ms' := by
  have key : ∀ d j : Nat, j < g.length → g.length - j ≤ d → ms[j]? = ms'[j]? := by
    intro d
    induction d with
    | zero => intro j hj hd; omega
    | succ d ih =>
      intro j hj hd
      have hx : g[j]? = some g[j] := List.getElem?_eq_getElem hj
      rw [h.told j _ (by omega) hx, h'.told j _ (by omega) hx]
      congr 2
      exact maxOver_congr (fun i hi => by
        have := nexts_in hg hx hi
        exact ih i this.2 (by omega))
  apply List.ext_getElem?
  intro j
  by_cases hj : j < g.length
  · exact key _ j hj (Nat.le_refl _)
  · have h1 := h.len; have h2 := h'.len
    rw [List.getElem?_eq_none (by omega), List.getElem?_eq_none (by omega)]

/-- What is marked when all places ahead of k have been looked at. -/
structure LiveTo (g : List In4) (k : Nat) (rs : List Bool) : Prop where
  len : rs.length = g.length
  mem : ∀ j, j < g.length → (rs[j]? = some true ↔ (j = 0 ∨ ∃ (m : Nat) (x : In4), m < k ∧ g[m]? = some x ∧ rs[m]? = some true ∧ j ∈ nexts x m))
theorem LiveTo.start {g : List In4} (hg : 1 ≤ g.length) : LiveTo g 0 ((List.replicate g.length false).set 0 true) := by
  refine ⟨by simp, fun j hj => ?_⟩
  rw [List.getElem?_set]
  by_cases e : 0 = j
  · subst e; simp [show 0 < g.length by omega]
  · rw [if_neg e]; simp [hj]; omega
theorem LiveTo.skip {g : List In4} {k : Nat} {rs : List Bool} (h : LiveTo g k rs) (hr : rs[k]? = some false) : LiveTo g (k + 1) rs := by
  refine ⟨h.len, fun j hj => (h.mem j hj).trans ?_⟩
  constructor
  · rintro (e | ⟨m, x, h1, h2⟩)
    · exact .inl e
    · exact .inr ⟨m, x, by omega, h2⟩
  · rintro (e | ⟨m, x, h1, h2, h3, h4⟩)
    · exact .inl e
    · by_cases e : m = k
      · subst e; rw [hr] at h3; cases h3
      · exact .inr ⟨m, x, by omega, h2, h3, h4⟩
/-- Rows with places marked besides. -/
def markAll (rs : List Bool) (js : List Nat) : List Bool := js.foldl (fun r j => r.set j true) rs
theorem markAll_snoc (rs : List Bool) (js : List Nat) (j : Nat) : markAll rs (js ++ [j]) = (markAll rs js).set j true := by simp [markAll]
theorem markAll_len (js : List Nat) : ∀ rs : List Bool, (markAll rs js).length = rs.length := by
  induction js with
  | nil => intro rs; rfl
  | cons j js ih => intro rs; rw [markAll, List.foldl_cons]; exact (ih _).trans (by simp)
theorem markAll_get (js : List Nat) : ∀ (rs : List Bool) (m : Nat), m < rs.length → ((markAll rs js)[m]? = some true ↔ (m ∈ js ∨ rs[m]? = some true)) := by
  induction js with
  | nil => intro rs m hm; simp [markAll]
  | cons j js ih =>
    intro rs m hm
    rw [markAll, List.foldl_cons]
    have := ih (rs.set j true) m (by simpa using hm)
    rw [markAll] at this
    rw [this, List.getElem?_set]
    by_cases e : j = m
    · subst e; simp [hm]
    · simp [e]
      constructor
      · rintro (h | h)
        · exact .inl (.inr h)
        · exact .inr h
      · rintro ((h | h) | h)
        · exact absurd h.symm e
        · exact .inl h
        · exact .inr h
theorem markAll_far (js : List Nat) : ∀ (rs : List Bool) (m : Nat), m ∉ js → (markAll rs js)[m]? = rs[m]? := by
  induction js with
  | nil => intro rs m _; rfl
  | cons j js ih =>
    intro rs m hm
    simp at hm
    rw [markAll, List.foldl_cons]
    have := ih (rs.set j true) m hm.2
    rw [markAll] at this
    rw [this, List.getElem?_set, if_neg (fun e => hm.1 e.symm)]
theorem LiveTo.mark {g : List In4} {k : Nat} {rs : List Bool} {x : In4} (hg : waysOk g) (h : LiveTo g k rs) (hx : g[k]? = some x) (hr : rs[k]? = some true) : LiveTo g (k + 1) (markAll rs (nexts x k)) := by
  have hl := h.len
  have hfar : ∀ m, m ≤ k → (markAll rs (nexts x k))[m]? = rs[m]? := fun m hm => markAll_far _ _ _ (fun hi => by have := (nexts_in hg hx hi).1; omega)
  refine ⟨(markAll_len _ _).trans hl, fun j hj => ?_⟩
  rw [markAll_get _ _ _ (by omega)]
  constructor
  · rintro (hi | hi)
    · exact .inr ⟨k, x, by omega, hx, by rw [hfar k (by omega)]; exact hr, hi⟩
    · rcases (h.mem j hj).1 hi with e | ⟨m, y, h1, h2, h3, h4⟩
      · exact .inl e
      · exact .inr ⟨m, y, by omega, h2, by rw [hfar m (by omega)]; exact h3, h4⟩
  · rintro (e | ⟨m, y, h1, h2, h3, h4⟩)
    · exact .inr ((h.mem j hj).2 (.inl e))
    · by_cases e : m = k
      · subst e
        rw [hx] at h2; cases h2
        exact .inl h4
      · rw [hfar m (by omega)] at h3
        exact .inr ((h.mem j hj).2 (.inr ⟨m, y, by omega, h2, h3, h4⟩))
theorem live_one {g : List In4} {rs rs' : List Bool} (hg : waysOk g) (h : LiveTo g g.length rs) (h' : LiveTo g g.length rs') : rs = rs' := by
  have key : ∀ j : Nat, j < g.length → (rs[j]? = some true ↔ rs'[j]? = some true) := by
    intro j
    induction j using Nat.strongRecOn with
    | ind j ih =>
      intro hj
      rw [h.mem j hj, h'.mem j hj]
      constructor
      · rintro (e | ⟨m, x, h1, h2, h3, h4⟩)
        · exact .inl e
        · have := (nexts_in hg h2 h4).1
          exact .inr ⟨m, x, h1, h2, (ih m this h1).1 h3, h4⟩
      · rintro (e | ⟨m, x, h1, h2, h3, h4⟩)
        · exact .inl e
        · have := (nexts_in hg h2 h4).1
          exact .inr ⟨m, x, h1, h2, (ih m this h1).2 h3, h4⟩
  apply List.ext_getElem?
  intro j
  have h1 := h.len; have h2 := h'.len
  by_cases hj : j < g.length
  · have k := key j hj
    rw [List.getElem?_eq_getElem (by omega), List.getElem?_eq_getElem (by omega)] at k ⊢
    cases hx : rs[j]'(by omega) <;> cases hy : rs'[j]'(by omega) <;> simp_all
  · rw [List.getElem?_eq_none (by omega), List.getElem?_eq_none (by omega)]
end Go.Proofs.YteflnpejhhkchaaGreatDoor
