/- Graphs that are trimmed stay graphs, and no other verdict stands there: plain lists; no Go function is walked here. -/
import Derived.Test.YtccklepidlddcaaVerdI
import Derived.Test.YtccklepidlddcaaPutA
namespace Go.Proofs.Ytccklepidlddcaa
open Go.RowKit
set_option linter.unusedSimpArgs false
set_option linter.unusedVariables false

theorem graphOk_good {g : List Pt} (h : graphOk g) : Good g := fun i p hp => by
  rcases h.2 i p hp with ⟨h0, _⟩ | ⟨h0, hv, hf, hm, hval, hy, hn⟩
  · exact .inl h0
  · exact .inr ⟨by omega, hv, p.yes.toNat, p.no.toNat, by omega, by omega, by omega, by omega⟩
theorem graphOk_small {g : List Pt} (h : graphOk g) : SmallG g := fun i p hp => by
  have hi := (List.getElem?_eq_some_iff.1 hp).1
  have := h.1
  unfold Small
  rcases h.2 i p hp with h | h <;> omega

/-! What is used is what is reached. -/
theorem reach_down {g : List Pt} (hg : graphOk g) {beg : Nat} (hb : beg < g.length) : ∀ (k : Nat) (us : List Bool), k ≤ beg + 1 → Reach g beg ((k : Int) - 1) us → Reach g beg (-1) (useDown g k us)
  | 0, us, _, h => h
  | k + 1, us, hk, h => by
    have h' : Reach g beg (k : Int) us := by
      have e : (((k + 1 : Nat) : Int) - 1) = (k : Int) := by omega
      rwa [e] at h
    obtain ⟨p, hp⟩ : ∃ p, g[k]? = some p := ⟨_, List.getElem?_eq_getElem (by omega)⟩
    obtain ⟨b, hbk⟩ : ∃ b, us[k]? = some b := ⟨_, List.getElem?_eq_getElem (by rw [h.len]; omega)⟩
    rw [useDown]
    apply reach_down hg hb k _ (by omega)
    by_cases hm : b = true ∧ p.op ≠ 0
    · obtain ⟨rfl, h0⟩ := hm
      rcases hg.2 k p hp with ⟨h1, _⟩ | ⟨h1, hv, hf, hma, hval, hy, hn⟩
      · exact absurd h1 h0
      · rw [useAt_mark hp hbk h0 (y := p.yes.toNat) (n := p.no.toNat) (by omega) (by omega)]
        exact h'.mark (by omega) hp hbk h0 (by omega) (by omega) (by omega) (by omega)
    · rw [useAt_skip hp (by
        cases b with
        | false => exact .inl hbk
        | true => exact .inr (by simpa using hm))]
      refine h'.skip fun j hj => hm ?_
      obtain ⟨h1, q, hq, h2, _⟩ := hj
      rw [hp] at hq; cases hq
      rw [hbk] at h1
      exact ⟨Option.some.inj h1, h2⟩
theorem used_reach {g : List Pt} (hg : graphOk g) {beg : Nat} (hb : beg < g.length) : Reach g beg (-1) (usedOf g beg) := by
  unfold usedOf
  refine reach_down hg hb (beg + 1) _ (Nat.le_refl _) ?_
  have e : (((beg + 1 : Nat) : Int) - 1) = (beg : Int) := by omega
  rw [e]
  exact Reach.start hb
theorem reachOf_used {g : List Pt} (hg : graphOk g) : reachOf g = usedOf g (g.length - 1) := (reachOf_eq hg (used_reach hg (by have := hg.1; omega))).symm
theorem reach_top {g : List Pt} (hg : graphOk g) : (reachOf g)[g.length - 1]? = some true := by
  rw [reachOf_used hg]
  exact usedOf_at (graphOk_good hg) (by have := hg.1; omega)
theorem reach_look {g : List Pt} (hg : graphOk g) {k : Nat} {p : Pt} (hr : (reachOf g)[k]? = some true) (hp : g[k]? = some p) (h0 : p.op ≠ 0) :
    ∃ y n : Nat, p.yes = y ∧ p.no = n ∧ y < k ∧ n < k ∧ (reachOf g)[y]? = some true ∧ (reachOf g)[n]? = some true := by
  rw [reachOf_used hg] at hr ⊢
  exact usedOf_next (graphOk_good hg) (by have := (List.getElem?_eq_some_iff.1 hp).1; omega) hr hp h0
theorem mem_verdicts {g : List Pt} (hg : graphOk g) {v : Int} : v ∈ verdictsOf g ↔ (1 ≤ v ∧ v ≤ 4) ∧ stands g (reachOf g) v := by
  unfold verdictsOf
  rw [if_pos hg, mem_outTo]
  exact Iff.rfl
theorem stands_range {g : List Pt} (hg : graphOk g) {rs : List Bool} {v : Int} (h : stands g rs v) : 1 ≤ v ∧ v ≤ 4 := by
  obtain ⟨i, p, hp, _, h0, rfl⟩ := h
  rcases hg.2 i p hp with h | h <;> omega
theorem leaf_in {g : List Pt} (hg : graphOk g) {k : Nat} {p : Pt} (hr : (reachOf g)[k]? = some true) (hp : g[k]? = some p) (h0 : p.op = 0) : p.verdict ∈ verdictsOf g := by
  have hs : stands g (reachOf g) p.verdict := ⟨k, p, hp, hr, h0, rfl⟩
  exact (mem_verdicts hg).2 ⟨stands_range hg hs, hs⟩
theorem verdicts_some {g : List Pt} (hg : graphOk g) : 1 ≤ (verdictsOf g).length := by
  have key : ∀ k : Nat, (reachOf g)[k]? = some true → k < g.length → ∃ v, v ∈ verdictsOf g := by
    intro k
    induction k using Nat.strongRecOn with
    | ind k ih =>
      intro hr hk
      obtain ⟨p, hp⟩ : ∃ p, g[k]? = some p := ⟨_, List.getElem?_eq_getElem hk⟩
      by_cases h0 : p.op = 0
      · exact ⟨_, leaf_in hg hr hp h0⟩
      · obtain ⟨y, n, _, _, hy, _, ry, _⟩ := reach_look hg hr hp h0
        exact ih y hy ry (by omega)
  obtain ⟨v, hv⟩ := key _ (reach_top hg) (by have := hg.1; omega)
  exact List.length_pos_of_mem hv

/-! What is put anew. -/
theorem put_cases {g g' : List Pt} {x : Pt} {i : Nat} (h : PutIs g x g' i) {j : Nat} {q : Pt} (hq : g'[j]? = some q) : g[j]? = some q ∨ (q = x ∧ j = g.length) := by
  rcases h with ⟨rfl, _, _⟩ | ⟨rfl, _, _⟩
  · exact .inl hq
  · by_cases e : j < g.length
    · rw [List.getElem?_append_left e] at hq; exact .inl hq
    · rw [List.getElem?_append_right (by omega)] at hq
      have e2 : j - g.length = 0 := by have := (List.getElem?_eq_some_iff.1 hq).1; simp at this; omega
      rw [e2] at hq
      simp at hq
      exact .inr ⟨hq.symm, by omega⟩
theorem trim_leaf {g : List Pt} {us : List Bool} : ∀ (k : Nat) (gs : List Pt) (ts : List Nat), TrimTo g us k gs ts → ∀ (j : Nat) (q : Pt), gs[j]? = some q → q.op = 0 → ∃ i : Nat, g[i]? = some q ∧ us[i]? = some true
  | 0, gs, ts, h, j, q, hq, _ => by
    obtain ⟨rfl, _⟩ := h
    simp at hq
  | k + 1, gs, ts, ⟨gs0, ts0, h1, h2⟩, j, q, hq, h0 => by
    rcases h2 with ⟨_, rfl, _⟩ | ⟨hu, p, i, hp, _, ⟨h3, h4⟩ | ⟨h3, h4⟩⟩
    · exact trim_leaf k _ _ h1 j q hq h0
    · rcases put_cases h4 hq with h | ⟨rfl, _⟩
      · exact trim_leaf k _ _ h1 j q h h0
      · exact ⟨k, hp, hu⟩
    · rcases h4 with ⟨_, rfl, _⟩ | ⟨_, h4⟩
      · exact trim_leaf k _ _ h1 j q hq h0
      · rcases put_cases h4 hq with h | ⟨rfl, _⟩
        · exact trim_leaf k _ _ h1 j q h h0
        · exact absurd h0 h3
theorem trim_ok {g : List Pt} {at_ : Nat} (hg : graphOk g) (hat : at_ < g.length) : ∀ (k : Nat) (gs : List Pt) (ts : List Nat), k ≤ at_ + 1 → TrimTo g (usedOf g at_) k gs ts →
    (∀ (j : Nat) (q : Pt), gs[j]? = some q → ptOk q j) ∧ gs.length ≤ k ∧ Good gs ∧ ts.length = g.length ∧ ∀ j : Nat, j < k → (usedOf g at_)[j]? = some true → ∃ t, ts[j]? = some t ∧ t < gs.length
  | 0, gs, ts, _, ⟨h1, h2⟩ => by
    subst h1 h2
    exact ⟨fun j q h => by simp at h, Nat.le_refl _, Good.nil, by simp, fun j hj => absurd hj (by omega)⟩
  | k + 1, gs, ts, hk, ⟨gs0, ts0, h1, h2⟩ => by
    obtain ⟨i1, i2, i3, i4, i5⟩ := trim_ok hg hat k gs0 ts0 (by omega) h1
    obtain ⟨k1, k2, k3, k4, k5⟩ := h2.good (graphOk_good hg) (by omega) i3 i4 i5
    refine ⟨fun j q hq => ?_, by omega, k1, k2, k5⟩
    rcases h2 with ⟨_, rfl, _⟩ | ⟨hu, p, i, hp, _, ⟨h3, h4⟩ | ⟨h3, h4⟩⟩
    · exact i1 j q hq
    · rcases put_cases h4 hq with h | ⟨rfl, _⟩
      · exact i1 j q h
      · rcases hg.2 k q hp with h | h
        · exact .inl h
        · exfalso; omega
    · rcases h4 with ⟨_, rfl, _⟩ | ⟨_, h4⟩
      · exact i1 j q hq
      · rcases put_cases h4 hq with h | ⟨rfl, rfl⟩
        · exact i1 j q h
        · obtain ⟨y, n, hy, hn, hyk, hnk, uy, un⟩ := usedOf_next (graphOk_good hg) (by omega) hu hp h3
          obtain ⟨ty, hty, hty2⟩ := i5 y hyk uy
          obtain ⟨tn, htn, htn2⟩ := i5 n hnk un
          have ey : ts0.getD p.yes.toNat 0 = ty := by rw [hy, Int.toNat_natCast, List.getD_eq_getElem?_getD, hty]; rfl
          have en : ts0.getD p.no.toNat 0 = tn := by rw [hn, Int.toNat_natCast, List.getD_eq_getElem?_getD, htn]; rfl
          rw [ey, en]
          rcases hg.2 k p hp with ⟨h, _⟩ | ⟨h5, h6, h7, h8, h9, _, _⟩
          · exact absurd h h3
          · refine .inr ⟨h5, rfl, h7, h8, h9, ?_, ?_⟩
            · simp only []; omega
            · simp only []; omega
/-- A graph that is trimmed is one, and its verdicts stand in the first one. -/
theorem trimIs_ok {g g' : List Pt} {at_ : Nat} (h : TrimIs g at_ g') : graphOk g → at_ < g.length → graphOk g' ∧ ∀ (j : Nat) (q : Pt), g'[j]? = some q → q.op = 0 → ∃ i : Nat, g[i]? = some q ∧ (usedOf g at_)[i]? = some true := by
  induction h with
  | @done g gs at_ t ts h ht hl =>
    intro hg hat
    obtain ⟨i1, i2, i3, i4, i5⟩ := trim_ok hg hat _ _ _ (Nat.le_refl _) h
    exact ⟨⟨by have := hg.1; omega, i1⟩, fun j q hq h0 => trim_leaf _ _ _ h j q hq h0⟩
  | @more g gs g' at_ t ts h ht hl r ih =>
    intro hg hat
    obtain ⟨i1, i2, i3, i4, i5⟩ := trim_ok hg hat _ _ _ (Nat.le_refl _) h
    obtain ⟨t', ht', hlt⟩ := i5 at_ (by omega) (usedOf_at (graphOk_good hg) hat)
    rw [ht] at ht'
    cases ht'
    obtain ⟨k1, k2⟩ := ih ⟨by have := hg.1; omega, i1⟩ hlt
    refine ⟨k1, fun j q hq h0 => ?_⟩
    obtain ⟨i, hi, _⟩ := k2 j q hq h0
    exact trim_leaf _ _ _ h i q hi h0
theorem outTo_less {g g' : List Pt} {rs rs' : List Bool} (h : ∀ v, stands g' rs' v → stands g rs v) : ∀ k, (outTo g' rs' k).length ≤ (outTo g rs k).length
  | 0 => by simp [outTo]
  | k + 1 => by
    have := outTo_less h k
    simp only [outTo, List.length_append]
    by_cases e : standsB g' rs' ((k : Int) + 1) = true
    · rw [if_pos e, if_pos (standsB_iff.2 (h _ (standsB_iff.1 e)))]
      simp
      omega
    · rw [if_neg e]
      simp
      omega
/-- Trimmed, a graph tells one verdict at least, and no more than before. -/
theorem trim_verdicts {g g' : List Pt} (hg : graphOk g) (h : TrimIs g (g.length - 1) g') : graphOk g' ∧ 1 ≤ (verdictsOf g').length ∧ (verdictsOf g').length ≤ (verdictsOf g).length := by
  obtain ⟨h1, h2⟩ := trimIs_ok h hg (by have := hg.1; omega)
  refine ⟨h1, verdicts_some h1, ?_⟩
  have h3 := outTo_less (g := g) (rs := reachOf g) (g' := g') (rs' := reachOf g') (fun v hv => by
    obtain ⟨j, q, hq, _, h0, rfl⟩ := hv
    obtain ⟨i, hi, hu⟩ := h2 j q hq h0
    exact ⟨i, q, hi, by rw [reachOf_used hg]; exact hu, h0, rfl⟩) 4
  unfold verdictsOf
  rw [if_pos h1, if_pos hg]
  exact h3
end Go.Proofs.Ytccklepidlddcaa
