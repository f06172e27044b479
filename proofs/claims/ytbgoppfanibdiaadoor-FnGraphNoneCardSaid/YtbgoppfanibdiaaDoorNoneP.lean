/- Where all is one verdict nothing is looked at, in plain Lean: the graph is one point, the program one place. No program in sight. -/
import Derived.Test.YtbgoppfanibdiaaDoorGmX
import Derived.Test.YtbgoppfanibdiaaDoorPts
import Derived.Test.YtbgoppfanibdiaaDoorPolS2
namespace Go.Proofs.YtbgoppfanibdiaaDoor
open Go.RowKit
set_option linter.unusedSimpArgs false
set_option linter.unusedVariables false

def Ve (e : Int) : Pt := ⟨e, 0, 0, 0, 0, 0, 0⟩
theorem put_ve {e : Int} {g : List Pt} {i : Nat} (h : PutIs [Ve e] (Ve e) g i) : g = [Ve e] ∧ i = 0 := by
  rcases h with ⟨rfl, h, _⟩ | ⟨_, _, h⟩
  · have := (List.getElem?_eq_some_iff.1 h).1
    simp at this
    exact ⟨rfl, this⟩
  · exact absurd rfl (h 0)
theorem put_nil {x : Pt} {g : List Pt} {i : Nat} (h : PutIs [] x g i) : g = [x] ∧ i = 0 := by
  rcases h with ⟨rfl, h, _⟩ | ⟨rfl, rfl, h⟩
  · simp at h
  · exact ⟨rfl, rfl⟩
theorem look_00 {g g' : List Pt} {f m o v : Int} {i : Nat} (h : LookIs g f m o v 0 0 g' i) : g' = g ∧ i = 0 := by
  rcases h with ⟨_, rfl, rfl⟩ | ⟨h, _⟩
  · exact ⟨rfl, rfl⟩
  · exact absurd rfl h
theorem test_00 {g g' : List Pt} {t : Ts} {i : Nat} (h : TestIs g t 0 0 g' i) : g' = g ∧ i = 0 := by
  rcases h with ⟨_, h⟩ | ⟨_, _, h⟩ | ⟨_, _, _, rfl, rfl⟩ | ⟨_, _, _, h⟩
  · exact look_00 h
  · exact look_00 h
  · exact ⟨rfl, rfl⟩
  · exact look_00 h
theorem tests_00 {g : List Pt} : ∀ {ts : List Ts} {g' : List Pt} {i : Nat}, TestsIs g 0 0 ts g' i → g' = g ∧ i = 0
  | [], _, _, ⟨rfl, rfl⟩ => ⟨rfl, rfl⟩
  | t :: ts, g', i, ⟨g1, i1, h1, h2⟩ => by
    obtain ⟨rfl, rfl⟩ := tests_00 h1
    exact test_00 h2
theorem range_00 {g g' : List Pt} {lo hi : Int} {i : Nat} (h : RangeG g lo hi 0 0 g' i) : g' = g ∧ i = 0 := by
  rcases h with ⟨_, h⟩ | ⟨_, g1, i1, h1, h2⟩
  · exact look_00 h
  · have k1 : g1 = g ∧ i1 = 0 := by
      rcases h1 with ⟨_, h⟩ | ⟨_, rfl, rfl⟩
      · exact look_00 h
      · exact ⟨rfl, rfl⟩
    obtain ⟨rfl, rfl⟩ := k1
    rcases h2 with ⟨_, h⟩ | ⟨_, rfl, rfl⟩
    · exact look_00 h
    · exact ⟨rfl, rfl⟩
theorem rules_ve {e : Int} : ∀ {rs : List Rl} {g : List Pt} {i : Nat}, (∀ r ∈ rs, r.verdict = e) → RulesG e rs g i → g = [Ve e] ∧ i = 0
  | [], g, i, _, h => put_nil h
  | r :: rs, g, i, hv, ⟨g1, i1, h1, h2⟩ => by
    obtain ⟨rfl, rfl⟩ := rules_ve (fun r hr => hv r (List.mem_cons_of_mem _ hr)) h1
    obtain ⟨g2, i2, g3, i3, a1, a2, a3⟩ := h2
    rw [hv r (by simp)] at a1
    obtain ⟨rfl, rfl⟩ := put_ve a1
    obtain ⟨rfl, rfl⟩ := tests_00 a2
    exact range_00 a3
theorem trim_ve {e : Int} {g : List Pt} (h : TrimIs [Ve e] 0 g) : g = [Ve e] := by
  have key : ∀ {gs : List Pt} {ts : List Nat}, TrimTo [Ve e] (usedOf [Ve e] 0) (0 + 1) gs ts → gs = [Ve e] ∧ ts = [0] := by
    intro gs ts h0
    obtain ⟨g0, t0, ⟨hg0, ht0⟩, h⟩ := h0
    subst hg0
    subst ht0
    have hu : (usedOf [Ve e] 0)[0]? = some true := by
      simp [usedOf, useDown, useAt, Ve]
    rcases h with ⟨h, _, _⟩ | ⟨_, p, i, hp, rfl, h⟩
    · exact absurd hu h
    · simp at hp
      subst hp
      rcases h with ⟨_, h⟩ | ⟨h, _⟩
      · obtain ⟨rfl, rfl⟩ := put_nil h
        exact ⟨rfl, rfl⟩
      · exact absurd rfl h
  cases h with
  | done h ht hl => exact (key h).1
  | more h ht hl r =>
    obtain ⟨rfl, rfl⟩ := key h
    simp at ht
    subst ht
    exact absurd rfl hl
/-- The graph of a policy all of whose verdicts are one. -/
theorem graph_ve {p : Pol} {g : List Pt} (hok : polOkB p = true) (hv : ∀ r ∈ p.rules, r.verdict = p.els) (h : GraphIs p g) : g = [Ve p.els] := by
  rcases h with ⟨h, _⟩ | ⟨_, g0, i0, h1, h2⟩
  · rw [hok] at h; cases h
  · obtain ⟨rfl, rfl⟩ := rules_ve hv h1
    exact trim_ve h2
theorem made_ve {e : Int} {x : List In4} {ok : Bool} (he : 1 ≤ e ∧ e ≤ 4) (h : MakeIs [Ve e] x ok) : ok = true ∧ x.length = 1 := by
  have hg : graphOk [Ve e] := ⟨by simp, fun k p hp => by
    have hk := (List.getElem?_eq_some_iff.1 hp).1
    simp at hk
    subst hk
    simp at hp
    subst hp
    exact .inl ⟨rfl, he, rfl, rfl, rfl, rfl, rfl⟩⟩
  have hc : codeOk [⟨6, e, 0, 0⟩] := by
    refine ⟨⟨by simp, by simp, fun i y hi hy => ?_⟩, ?_⟩
    · simp at hi
      subst hi
      simp at hy
      subst hy
      exact .inr (.inr (.inr (.inr ⟨rfl, he, rfl, rfl⟩)))
    · have := codeText_len [⟨6, e, 0, 0⟩] (fun x hx => by
        simp at hx
        subst hx
        exact ⟨⟨by simp only; omega, by simp only; omega⟩, .inr ⟨by simp, rfl, rfl⟩⟩)
      simp at this
      omega
  rcases h with ⟨h, _⟩ | ⟨_, y, ⟨ys, ns, _, rfl⟩, h⟩
  · exact absurd hg h
  · have hy : codeTo [Ve e] ys ns [Ve e].length = [⟨6, e, 0, 0⟩] := by
      simp [codeTo, ptCode, Ve]
    rw [hy] at h
    rcases h with ⟨_, rfl, rfl⟩ | ⟨h, _⟩
    · exact ⟨rfl, rfl⟩
    · exact absurd hc h
theorem pol_els {p : Pol} (hok : polOkB p = true) : 1 ≤ p.els ∧ p.els ≤ 4 := (polShapeB_words (polOkB_shape hok).1).2.1
/-- The program of a policy all of whose verdicts are one. -/
theorem code_ve {p : Pol} {x : List In4} {ok : Bool} (hok : polOkB p = true) (hv : ∀ r ∈ p.rules, r.verdict = p.els) (h : ∃ g, GraphIs p g ∧ MakeIs g x ok) : ok = true ∧ x.length = 1 := by
  obtain ⟨g, h1, h2⟩ := h
  rw [graph_ve hok hv h1] at h2
  exact made_ve (pol_els hok) h2
end Go.Proofs.YtbgoppfanibdiaaDoor
