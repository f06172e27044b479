/- Which fields a policy looks at, in plain Lean; and that a program that is made of it loads no other one. No program in sight. -/
import Derived.Test.YteflnpejhhkchaaGreatDoorCallsP
import Derived.Test.YteflnpejhhkchaaGreatDoorUp
import Derived.Test.YteflnpejhhkchaaGreatDoorSemA
namespace Go.Proofs.YteflnpejhhkchaaGreatDoor
open Go.RowKit
set_option linter.unusedSimpArgs false
set_option linter.unusedVariables false

def rangeU (r : Rl) : List Int := if 0 < r.low ∨ r.high < 4294967295 then [0] else []
def ruleU (r : Rl) : List Int := rangeU r ++ r.tests.map (·.field)
def usesAll (rs : List Rl) : List Int := rs.flatMap ruleU
def fuTo (rs : List Rl) : Nat → List Int
  | 0 => []
  | k + 1 => if ((k : Nat) : Int) ∈ usesAll rs then fuTo rs k ++ [(k : Int)] else fuTo rs k
noncomputable def usesOf (p : Pol) : List Int := if polOkB p then fuTo p.rules 5 else []
theorem fuTo_len (rs : List Rl) : ∀ k, (fuTo rs k).length ≤ k
  | 0 => by simp [fuTo]
  | k + 1 => by
    have := fuTo_len rs k
    unfold fuTo
    split <;> simp <;> omega
theorem mem_fuTo (rs : List Rl) (v : Int) : ∀ k : Nat, v ∈ fuTo rs k ↔ (0 ≤ v ∧ v < k) ∧ v ∈ usesAll rs
  | 0 => by simp [fuTo]; omega
  | k + 1 => by
    have ih := mem_fuTo rs v k
    unfold fuTo
    split
    · rename_i h
      rw [List.mem_append, ih, List.mem_singleton]
      constructor
      · rintro (⟨⟨a, b⟩, c⟩ | rfl)
        · exact ⟨⟨a, by omega⟩, c⟩
        · exact ⟨⟨by omega, by omega⟩, h⟩
      · rintro ⟨⟨a, b⟩, c⟩
        by_cases e : v = k
        · exact .inr e
        · exact .inl ⟨⟨a, by omega⟩, c⟩
    · rename_i h
      rw [ih]
      constructor
      · rintro ⟨⟨a, b⟩, c⟩
        exact ⟨⟨a, by omega⟩, c⟩
      · rintro ⟨⟨a, b⟩, c⟩
        by_cases e : v = k
        · subst e; exact absurd c h
        · exact ⟨⟨a, by omega⟩, c⟩
theorem fuTo_up (rs : List Rl) : ∀ k, (fuTo rs k).Pairwise (· < ·)
  | 0 => by simp [fuTo]
  | k + 1 => by
    have ih := fuTo_up rs k
    unfold fuTo
    split
    · rw [List.pairwise_append]
      refine ⟨ih, by simp, fun a ha b hb => ?_⟩
      rw [List.mem_singleton] at hb
      have := (mem_fuTo rs a k).1 ha
      omega
    · exact ih
theorem uses_bd {rs : List Rl} (h : ∀ r ∈ rs, ruleOkB r = true) {v : Int} (hv : v ∈ usesAll rs) : 0 ≤ v ∧ v ≤ 4 := by
  obtain ⟨r, hr, hv⟩ := List.mem_flatMap.1 hv
  have ho := h r hr
  unfold ruleOkB at ho
  simp only [Bool.and_eq_true] at ho
  rcases List.mem_append.1 hv with hv | hv
  · unfold rangeU at hv
    split at hv
    · rw [List.mem_singleton] at hv; omega
    · simp at hv
  · obtain ⟨t, ht, rfl⟩ := List.mem_map.1 hv
    have := List.all_eq_true.1 ho.2 t ht
    unfold testOkB inB at this
    simp only [Bool.and_eq_true, decide_eq_true_eq] at this
    omega
theorem uses_one {rs : List Rl} (h : ∀ r ∈ rs, ruleOkB r = true) : Lib.compact ((usesAll rs).mergeSort fun x y => decide (x ≤ y)) = fuTo rs 5 := by
  obtain ⟨h1, h2⟩ := compact_up _ (sorted_up (usesAll rs))
  refine up_one _ _ h1 (fuTo_up rs 5) fun v => ?_
  rw [h2, mem_fuTo, List.mem_mergeSort]
  constructor
  · intro hv
    have := uses_bd h hv
    exact ⟨⟨this.1, by omega⟩, hv⟩
  · exact fun hv => hv.2
theorem usesAll_snoc (rs : List Rl) (r : Rl) : usesAll (rs ++ [r]) = usesAll rs ++ ruleU r := by simp [usesAll]
theorem usesAll_len {rs : List Rl} (h : ∀ r ∈ rs, ruleOkB r = true) : (usesAll rs).length ≤ 5 * rs.length := by
  induction rs with
  | nil => simp [usesAll]
  | cons r rs ih =>
    have h1 := ih (fun r hr => h r (by simp [hr]))
    have ho := h r (by simp)
    unfold ruleOkB at ho
    simp only [Bool.and_eq_true, decide_eq_true_eq] at ho
    have h2 : (ruleU r).length ≤ 5 := by
      unfold ruleU rangeU
      rw [List.length_append, List.length_map]
      split <;> simp <;> omega
    simp only [usesAll, List.flatMap_cons, List.length_append, List.length_cons] at h1 ⊢
    omega

/-! What is made loads no other field. -/
def Fields (g : List Pt) (U : List Int) : Prop := ∀ (i : Nat) (p : Pt), g[i]? = some p → p.op = 0 ∨ p.field ∈ U
theorem PutIs.fields {g g' : List Pt} {x : Pt} {i : Nat} {U : List Int} (h : PutIs g x g' i) (hg : Fields g U) (hx : x.op = 0 ∨ x.field ∈ U) : Fields g' U := by
  rcases h with ⟨rfl, _, _⟩ | ⟨rfl, rfl, _⟩
  · exact hg
  · intro j p hp
    by_cases e : j < g.length
    · rw [List.getElem?_append_left e] at hp
      exact hg j p hp
    · rw [List.getElem?_append_right (by omega)] at hp
      have e2 : j - g.length = 0 := by have := (List.getElem?_eq_some_iff.1 hp).1; simp at this; omega
      rw [e2] at hp
      simp at hp
      subst hp
      exact hx
theorem LookIs.fields {g g' : List Pt} {f m o v : Int} {y n i : Nat} {U : List Int} (h : LookIs g f m o v y n g' i) (hg : Fields g U) (hf : f ∈ U) : Fields g' U := by
  rcases h with ⟨_, rfl, _⟩ | ⟨_, h⟩
  · exact hg
  · exact h.fields hg (.inr hf)
theorem TestIs.fields {g g' : List Pt} {t : Ts} {y n i : Nat} {U : List Int} (h : TestIs g t y n g' i) (hg : Fields g U) (hf : t.field ∈ U) : Fields g' U := by
  rcases h with ⟨_, h⟩ | ⟨_, _, h⟩ | ⟨_, _, _, rfl, _⟩ | ⟨_, _, _, h⟩
  · exact h.fields hg hf
  · exact h.fields hg hf
  · exact hg
  · exact h.fields hg hf
theorem TestsIs.fields {g : List Pt} {on no : Nat} {U : List Int} (hg : Fields g U) : ∀ (ts : List Ts) (g' : List Pt) (i : Nat), (∀ t ∈ ts, t.field ∈ U) → TestsIs g on no ts g' i → Fields g' U
  | [], g', i, _, ⟨e, _⟩ => by subst e; exact hg
  | t :: ts, g', i, h, ⟨g1, i1, h1, h2⟩ => h2.fields (TestsIs.fields hg ts g1 i1 (fun t ht => h t (by simp [ht])) h1) (h t (by simp))
theorem RangeG.fields {g g' : List Pt} {lo hi : Int} {on no i : Nat} {U : List Int} (h : RangeG g lo hi on no g' i) (hl : 0 ≤ lo) (hh : hi ≤ 4294967295) (hg : Fields g U) (hf : 0 < lo ∨ hi < 4294967295 → (0 : Int) ∈ U) : Fields g' U := by
  rcases h with ⟨e, h⟩ | ⟨e, g1, i1, h1, h2⟩
  · exact h.fields hg (hf (by omega))
  · have k1 : Fields g1 U := by
      rcases h1 with ⟨c, h⟩ | ⟨c, rfl, rfl⟩
      · exact h.fields hg (hf (.inr c))
      · exact hg
    rcases h2 with ⟨c, h⟩ | ⟨c, rfl, rfl⟩
    · exact h.fields k1 (hf (.inl c))
    · exact k1
theorem RulesG.fields {els : Int} {U : List Int} : ∀ (rs : List Rl) (g : List Pt) (i : Nat), (∀ r ∈ rs, ruleOkB r = true) → (∀ f ∈ usesAll rs, f ∈ U) → RulesG els rs g i → Fields g U
  | [], g, i, _, _, h => PutIs.fields h (fun i p hp => by simp at hp) (.inl rfl)
  | r :: rs, g, i, ho, hu, ⟨g1, i1, h1, h2⟩ => by
    have k1 := RulesG.fields rs g1 i1 (fun r hr => ho r (by simp [hr])) (fun f hf => hu f (by simp only [usesAll, List.flatMap_cons]; exact List.mem_append_right _ hf)) h1
    have hu1 : ∀ f ∈ ruleU r, f ∈ U := fun f hf => hu f (by simp only [usesAll, List.flatMap_cons]; exact List.mem_append_left _ hf)
    have hok := ho r (by simp)
    unfold ruleOkB inB at hok
    simp only [Bool.and_eq_true, decide_eq_true_eq] at hok
    obtain ⟨g2, i2, g3, i3, a1, a2, a3⟩ := h2
    have k2 := a1.fields k1 (.inl rfl)
    have k3 := TestsIs.fields k2 _ _ _ (fun t ht => hu1 _ (List.mem_append_right _ (List.mem_map.2 ⟨t, ht, rfl⟩))) a2
    exact a3.fields (by omega) (by omega) k3 (fun h => hu1 0 (List.mem_append_left _ (by unfold rangeU; rw [if_pos h]; simp)))
theorem TrimTo.fields {g : List Pt} {us : List Bool} {U : List Int} (hg : Fields g U) : ∀ (k : Nat) (gs : List Pt) (ts : List Nat), TrimTo g us k gs ts → Fields gs U
  | 0, gs, ts, ⟨e, _⟩ => by subst e; exact fun i p hp => by simp at hp
  | k + 1, gs, ts, ⟨gs0, ts0, h1, h2⟩ => by
    have k1 := TrimTo.fields hg k gs0 ts0 h1
    rcases h2 with ⟨_, rfl, _⟩ | ⟨_, p, i, hp, _, h⟩
    · exact k1
    · rcases h with ⟨h0, h⟩ | ⟨h0, h⟩
      · exact h.fields k1 (.inl h0)
      · rcases hg k p hp with e | e
        · exact absurd e h0
        · exact h.fields k1 e
theorem TrimIs.fields {g g' : List Pt} {at_ : Nat} {U : List Int} (h : TrimIs g at_ g') (hg : Fields g U) : Fields g' U := by
  induction h with
  | done h _ _ => exact TrimTo.fields hg _ _ _ h
  | more h _ _ _ ih => exact ih (TrimTo.fields hg _ _ _ h)
theorem codeTo_fields {g : List Pt} {ys ns : List Bool} {U : List Int} (hg : Fields g U) : ∀ m, ∀ x ∈ codeTo g ys ns m, x.op = 1 → x.k ∈ U
  | 0, x, hx, _ => by simp [codeTo] at hx
  | m + 1, x, hx, ho => by
    rw [codeTo] at hx
    rcases List.mem_append.1 hx with h | h
    · exact codeTo_fields hg m x h ho
    · unfold ptCode at h
      cases hp : g[g.length - 1 - m]? with
      | none => rw [hp] at h; simp at h
      | some p =>
        rw [hp] at h
        simp only [] at h
        by_cases h0 : p.op = 0
        · rw [if_pos h0] at h
          simp at h
          subst h
          simp at ho
        · rw [if_neg h0] at h
          have hf : p.field ∈ U := by
            rcases hg _ p hp with e | e
            · exact absurd e h0
            · exact e
          simp only [List.mem_append, List.mem_singleton, List.mem_cons, List.not_mem_nil, or_false] at h
          rcases h with (((rfl | h) | h) | h) | h
          · exact hf
          · split at h
            · simp at h
            · simp at h; subst h; simp at ho
          · subst h
            simp only at ho
            split at ho <;> omega
          · split at h
            · simp at h; subst h; simp at ho
            · simp at h
          · split at h
            · simp at h; subst h; simp at ho
            · simp at h
/-- What is made of a policy loads what it looks at alone. -/
theorem made_uses {p : Pol} {x : List In4} {ok : Bool} (h : ∃ g, GraphIs p g ∧ MakeIs g x ok) {rs : List Bool} {v : Int} (hv : loadsAt x rs v) : polOkB p = true ∧ v ∈ usesAll p.rules := by
  obtain ⟨g, hg, hm⟩ := h
  obtain ⟨i, q, h1, h2, h3, rfl⟩ := hv
  rcases hm with ⟨_, rfl, _⟩ | ⟨hgo, y, ⟨ys, ns, _, rfl⟩, ⟨_, rfl, _⟩ | ⟨_, rfl, _⟩⟩
  · simp at h1
  · rcases hg with ⟨_, rfl⟩ | ⟨hok, g0, i0, k1, k2⟩
    · have := hgo.1.1; simp at this
    · exact ⟨hok, codeTo_fields (k2.fields (RulesG.fields _ _ _ (polOk_rules hok) (fun f hf => hf) k1)) _ _ (List.mem_of_getElem? h1) h3⟩
  · simp at h1
end Go.Proofs.YteflnpejhhkchaaGreatDoor
