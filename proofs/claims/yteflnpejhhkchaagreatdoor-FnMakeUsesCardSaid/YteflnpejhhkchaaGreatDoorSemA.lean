/- Joined texts: SemP SemC. -/
import Derived.Test.YteflnpejhhkchaaGreatDoorChkP
import Derived.Test.YteflnpejhhkchaaGreatDoorGmX
import Derived.Test.YteflnpejhhkchaaGreatDoorPts
import Derived.Test.YteflnpejhhkchaaGreatDoorBlkA
-- What rules, a graph and a program say under any truth value of each look; and that what is made of a policy says what its rules say. No program in sight.
namespace Go.Proofs.YteflnpejhhkchaaGreatDoor
open Go.RowKit
set_option linter.unusedSimpArgs false
set_option linter.unusedVariables false

/-! Rules. -/
def TestV (σ : Lk → Bool) (t : Ts) : Prop := ¬ (t.op = 2 ∧ t.value = 0) ∧ ∀ x ∈ testL t, σ x.1 = x.2
def RangeV (σ : Lk → Bool) (lo hi : Int) : Prop := ∀ x ∈ rangeL lo hi, σ x.1 = x.2
def FitsV (σ : Lk → Bool) (r : Rl) : Prop := ¬ Never r ∧ ∀ x ∈ looksOf r, σ x.1 = x.2
theorem fitsV_iff {σ : Lk → Bool} {r : Rl} : FitsV σ r ↔ RangeV σ r.low r.high ∧ ∀ t ∈ r.tests, TestV σ t := by
  unfold FitsV RangeV TestV Never looksOf
  constructor
  · rintro ⟨h1, h2⟩
    exact ⟨fun x hx => h2 x (List.mem_append_left _ hx), fun t ht => ⟨fun h => h1 ⟨t, ht, h⟩, fun x hx => h2 x (List.mem_append_right _ (List.mem_flatMap.2 ⟨t, ht, hx⟩))⟩⟩
  · rintro ⟨h1, h2⟩
    refine ⟨fun ⟨t, ht, h⟩ => (h2 t ht).1 h, fun x hx => ?_⟩
    rcases List.mem_append.1 hx with h | h
    · exact h1 x h
    · obtain ⟨t, ht, h⟩ := List.mem_flatMap.1 h
      exact (h2 t ht).2 x h
open Classical in
noncomputable def rulesV (σ : Lk → Bool) (els : Int) : List Rl → Int
  | [] => els
  | r :: rs => if FitsV σ r then r.verdict else rulesV σ els rs

/-! Graphs. -/
def Ex (g g' : List Pt) : Prop := ∀ (j : Nat) (p : Pt), g[j]? = some p → g'[j]? = some p
theorem Ex.refl (g : List Pt) : Ex g g := fun _ _ h => h
theorem Ex.trans {a b c : List Pt} (h : Ex a b) (h' : Ex b c) : Ex a c := fun j p hp => h' j p (h j p hp)
inductive GTo (g : List Pt) (σ : Lk → Bool) : Nat → Int → Prop
  | leaf {i : Nat} {p : Pt} : g[i]? = some p → p.op = 0 → GTo g σ i p.verdict
  | look {i j : Nat} {p : Pt} {v : Int} : g[i]? = some p → 0 < p.op → (if σ ⟨p.field, p.mask, p.op, p.value⟩ = true then p.yes else p.no) = (j : Int) → GTo g σ j v → GTo g σ i v
theorem GTo.one {g : List Pt} {σ : Lk → Bool} {i : Nat} {v : Int} (h : GTo g σ i v) : ∀ {u : Int}, GTo g σ i u → v = u := by
  induction h with
  | leaf h1 h2 =>
    intro u h'
    cases h' with
    | leaf a _ => rw [h1] at a; cases a; rfl
    | look a b _ _ => rw [h1] at a; cases a; omega
  | look h1 h2 h3 _ ih =>
    intro u h'
    cases h' with
    | leaf a b => rw [h1] at a; cases a; omega
    | look a _ c d =>
      rw [h1] at a; cases a
      rw [h3] at c
      obtain rfl := Int.ofNat.inj c
      exact ih d
theorem GTo.ex {g g' : List Pt} {σ : Lk → Bool} {i : Nat} {v : Int} (h : GTo g σ i v) (he : Ex g g') : GTo g' σ i v := by
  induction h with
  | leaf h1 h2 => exact .leaf (he _ _ h1) h2
  | look h1 h2 h3 _ ih => exact .look (he _ _ h1) h2 h3 ih
theorem PutIs.ex {g g' : List Pt} {x : Pt} {i : Nat} (h : PutIs g x g' i) : Ex g g' := h.at_.2.2.2.2
theorem LookIs.ex {g g' : List Pt} {f m o v : Int} {y n i : Nat} (h : LookIs g f m o v y n g' i) : Ex g g' := by
  rcases h with ⟨-, rfl, -⟩ | ⟨-, h⟩
  · exact Ex.refl _
  · exact h.ex
theorem LookIs.sem {g g' : List Pt} {f m o v : Int} {y n i : Nat} {σ : Lk → Bool} {a b : Int} (h : LookIs g f m o v y n g' i) (ho : 0 < o) (hy : GTo g σ y a) (hn : GTo g σ n b) : GTo g' σ i (if σ ⟨f, m, o, v⟩ = true then a else b) := by
  rcases h with ⟨rfl, rfl, rfl⟩ | ⟨hne, h⟩
  · obtain rfl := hy.one hn
    split <;> exact hy
  · have hp := h.at_.1
    by_cases e : σ ⟨f, m, o, v⟩ = true
    · rw [if_pos e]
      exact .look hp ho (by simp only [e, if_true]) (hy.ex h.ex)
    · rw [if_neg e]
      exact .look hp ho (by simp only [if_neg e]) (hn.ex h.ex)
theorem TestIs.ex {g g' : List Pt} {t : Ts} {y n i : Nat} (h : TestIs g t y n g' i) : Ex g g' := by
  rcases h with ⟨-, h⟩ | ⟨-, -, h⟩ | ⟨-, -, -, rfl, -⟩ | ⟨-, -, -, h⟩
  · exact h.ex
  · exact h.ex
  · exact Ex.refl _
  · exact h.ex
open Classical in
theorem TestIs.sem {g g' : List Pt} {t : Ts} {y n i : Nat} {σ : Lk → Bool} {a b : Int} (h : TestIs g t y n g' i) (ho : t.op = 1 ∨ t.op = 2 ∨ t.op = 3) (hy : GTo g σ y a) (hn : GTo g σ n b) : GTo g' σ i (if TestV σ t then a else b) := by
  rcases h with ⟨e, h⟩ | ⟨e1, e, h⟩ | ⟨e1, e3, e0, rfl, rfl⟩ | ⟨e1, e3, e0, h⟩
  · have := h.sem (by omega) hy hn
    have e2 : TestV σ t ↔ σ ⟨t.field, t.mask, 1, t.value⟩ = true := by
      unfold TestV testL
      rw [if_neg (by omega), e]
      simp
    simp only [e2]
    exact this
  · have := h.sem (by omega) hy hn
    have e2 : TestV σ t ↔ σ ⟨t.field, t.mask, 3, t.value⟩ = true := by
      unfold TestV testL
      rw [if_neg (by omega), e]
      simp
    simp only [e2]
    exact this
  · have e2 : ¬ TestV σ t := fun h => h.1 ⟨by omega, e0⟩
    rw [if_neg e2]
    exact hn
  · have := h.sem (by omega) hn hy
    have eo : t.op = 2 := by omega
    have e2 : TestV σ t ↔ ¬ σ ⟨t.field, t.mask, 3, t.value - 1⟩ = true := by
      unfold TestV testL
      rw [if_pos eo, if_neg e0]
      simp [e0]
    by_cases c : σ ⟨t.field, t.mask, 3, t.value - 1⟩ = true
    · rw [if_pos c] at this
      rw [if_neg (fun h => (e2.1 h) c)]
      exact this
    · rw [if_neg c] at this
      rw [if_pos (e2.2 c)]
      exact this
open Classical in
theorem TestsIs.sem {g : List Pt} {on no : Nat} {σ : Lk → Bool} {a b : Int} (hy : GTo g σ on a) (hn : GTo g σ no b) : ∀ (ts : List Ts) (g' : List Pt) (i : Nat), (∀ t ∈ ts, t.op = 1 ∨ t.op = 2 ∨ t.op = 3) → TestsIs g on no ts g' i → Ex g g' ∧ GTo g' σ i (if ∀ t ∈ ts, TestV σ t then a else b)
  | [], g', i, _, ⟨e1, e2⟩ => by
    subst e1 e2
    exact ⟨Ex.refl _, by simpa using hy⟩
  | t :: ts, g', i, ho, ⟨g1, i1, h1, h2⟩ => by
    obtain ⟨e1, s1⟩ := TestsIs.sem hy hn ts g1 i1 (fun t ht => ho t (by simp [ht])) h1
    refine ⟨e1.trans h2.ex, ?_⟩
    have s2 := h2.sem (ho t (by simp)) s1 (hn.ex e1)
    by_cases c : TestV σ t
    · rw [if_pos c] at s2
      simpa [c] using s2
    · rw [if_neg c] at s2
      rw [if_neg (fun h => c (h t (by simp)))]
      exact s2
open Classical in
theorem RangeG.sem {g g' : List Pt} {lo hi : Int} {on no i : Nat} {σ : Lk → Bool} {a b : Int} (h : RangeG g lo hi on no g' i) (hy : GTo g σ on a) (hn : GTo g σ no b) : Ex g g' ∧ GTo g' σ i (if RangeV σ lo hi then a else b) := by
  rcases h with ⟨e, h⟩ | ⟨e, g1, i1, h1, h2⟩
  · refine ⟨h.ex, ?_⟩
    have := h.sem (by omega) hy hn
    have e2 : RangeV σ lo hi ↔ σ ⟨0, 4294967295, 1, lo⟩ = true := by
      unfold RangeV rangeL
      rw [if_pos e]; simp
    simp only [e2]
    exact this
  · have k1 : Ex g g1 ∧ GTo g1 σ i1 (if (hi < 4294967295 → σ ⟨0, 4294967295, 3, hi⟩ = false) then a else b) := by
      rcases h1 with ⟨c, h⟩ | ⟨c, rfl, rfl⟩
      · refine ⟨h.ex, ?_⟩
        have := h.sem (by omega) hn hy
        by_cases d : σ ⟨0, 4294967295, 3, hi⟩ = true
        · rw [if_pos d] at this
          rw [if_neg (fun h => by rw [h c] at d; cases d)]
          exact this
        · rw [if_neg d] at this
          rw [if_pos (fun _ => by simpa using d)]
          exact this
      · exact ⟨Ex.refl _, by rw [if_pos (fun h => absurd h c)]; exact hy⟩
    obtain ⟨x1, s1⟩ := k1
    have e2 : RangeV σ lo hi ↔ (0 < lo → σ ⟨0, 4294967295, 3, lo - 1⟩ = true) ∧ (hi < 4294967295 → σ ⟨0, 4294967295, 3, hi⟩ = false) := by
      unfold RangeV rangeL
      rw [if_neg e]
      by_cases p : 0 < lo <;> by_cases q : hi < 4294967295 <;> simp [p, q]
    rcases h2 with ⟨c, h⟩ | ⟨c, rfl, rfl⟩
    · refine ⟨x1.trans h.ex, ?_⟩
      have := h.sem (by omega) s1 (hn.ex x1)
      by_cases d : σ ⟨0, 4294967295, 3, lo - 1⟩ = true
      · rw [if_pos d] at this
        have e3 : RangeV σ lo hi ↔ (hi < 4294967295 → σ ⟨0, 4294967295, 3, hi⟩ = false) := by rw [e2]; exact ⟨fun h => h.2, fun h => ⟨fun _ => d, h⟩⟩
        simp only [e3]
        exact this
      · rw [if_neg d] at this
        rw [if_neg (fun h => d ((e2.1 h).1 c))]
        exact this
    · refine ⟨x1, ?_⟩
      have e3 : RangeV σ lo hi ↔ (hi < 4294967295 → σ ⟨0, 4294967295, 3, hi⟩ = false) := by rw [e2]; exact ⟨fun h => h.2, fun h => ⟨fun h => absurd h c, h⟩⟩
      simp only [e3]
      exact s1
theorem ruleOk_ops {r : Rl} (h : ruleOkB r = true) : ∀ t ∈ r.tests, t.op = 1 ∨ t.op = 2 ∨ t.op = 3 := fun t ht => by
  unfold ruleOkB at h
  simp only [Bool.and_eq_true] at h
  have := List.all_eq_true.1 h.2 t ht
  unfold testOkB inB at this
  simp only [Bool.and_eq_true, decide_eq_true_eq] at this
  omega
open Classical in
theorem RuleG.sem {g g' : List Pt} {r : Rl} {no i : Nat} {σ : Lk → Bool} {b : Int} (h : RuleG g r no g' i) (hok : ruleOkB r = true) (hn : GTo g σ no b) : Ex g g' ∧ GTo g' σ i (if FitsV σ r then r.verdict else b) := by
  obtain ⟨g1, i1, g2, i2, h1, h2, h3⟩ := h
  have hp := h1.at_.1
  have hl : GTo g1 σ i1 r.verdict := GTo.leaf hp rfl
  obtain ⟨x2, s2⟩ := TestsIs.sem hl (hn.ex h1.ex) _ _ _ (ruleOk_ops hok) h2
  obtain ⟨x3, s3⟩ := h3.sem s2 ((hn.ex h1.ex).ex x2)
  refine ⟨(h1.ex.trans x2).trans x3, ?_⟩
  by_cases c : RangeV σ r.low r.high
  · rw [if_pos c] at s3
    have e : FitsV σ r ↔ ∀ t ∈ r.tests, TestV σ t := by rw [fitsV_iff]; exact ⟨fun h => h.2, fun h => ⟨c, h⟩⟩
    simp only [e]
    exact s3
  · rw [if_neg c] at s3
    rw [if_neg (fun h => c (fitsV_iff.1 h).1)]
    exact s3
theorem RulesG.sem {els : Int} {σ : Lk → Bool} : ∀ (rs : List Rl) (g : List Pt) (i : Nat), (∀ r ∈ rs, ruleOkB r = true) → RulesG els rs g i → GTo g σ i (rulesV σ els rs)
  | [], g, i, _, h => by
    have hp := PutIs.at_ h
    exact GTo.leaf hp.1 rfl
  | r :: rs, g, i, ho, ⟨g1, i1, h1, h2⟩ => by
    have s1 := RulesG.sem (σ := σ) rs g1 i1 (fun r hr => ho r (by simp [hr])) h1
    exact (h2.sem (ho r (by simp)) s1).2

/-! That all points lead ahead. -/
theorem TestsIs.good {g : List Pt} {on no : Nat} (hg : Good g) (hy : on < g.length) (hn : no < g.length) : ∀ (ts : List Ts) (g' : List Pt) (i : Nat), TestsIs g on no ts g' i → Good g' ∧ i < g'.length ∧ g.length ≤ g'.length
  | [], g', i, ⟨e1, e2⟩ => by subst e1 e2; exact ⟨hg, hy, Nat.le_refl _⟩
  | t :: ts, g', i, ⟨g1, i1, h1, h2⟩ => by
    obtain ⟨a, b, c⟩ := TestsIs.good hg hy hn ts g1 i1 h1
    refine ⟨a.test h2 b (by omega), ?_⟩
    rcases h2 with ⟨-, h⟩ | ⟨-, -, h⟩ | ⟨-, -, -, rfl, rfl⟩ | ⟨-, -, -, h⟩
    · obtain ⟨-, h1, h2, -⟩ := a.ahead.look h b (by omega); exact ⟨h1, by omega⟩
    · obtain ⟨-, h1, h2, -⟩ := a.ahead.look h b (by omega); exact ⟨h1, by omega⟩
    · exact ⟨by omega, by omega⟩
    · obtain ⟨-, h1, h2, -⟩ := a.ahead.look h (by omega) b; exact ⟨h1, by omega⟩
theorem LookIs.good {g g' : List Pt} {f m o v : Int} {y n i : Nat} (h : LookIs g f m o v y n g' i) (ho : 0 < o) (hg : Good g) (hy : y < g.length) (hn : n < g.length) : Good g' ∧ i < g'.length ∧ g.length ≤ g'.length := by
  obtain ⟨-, h1, h2, -⟩ := hg.ahead.look h hy hn
  exact ⟨hg.look h ho hy hn, h1, h2⟩
theorem RangeG.good {g g' : List Pt} {lo hi : Int} {on no i : Nat} (h : RangeG g lo hi on no g' i) (hg : Good g) (hy : on < g.length) (hn : no < g.length) : Good g' ∧ i < g'.length ∧ g.length ≤ g'.length := by
  rcases h with ⟨e, h⟩ | ⟨e, g1, i1, h1, h2⟩
  · exact h.good (by omega) hg hy hn
  · have k1 : Good g1 ∧ i1 < g1.length ∧ g.length ≤ g1.length := by
      rcases h1 with ⟨c, h⟩ | ⟨c, rfl, rfl⟩
      · exact h.good (by omega) hg hn hy
      · exact ⟨hg, hy, Nat.le_refl _⟩
    obtain ⟨a, b, c⟩ := k1
    rcases h2 with ⟨d, h⟩ | ⟨d, rfl, rfl⟩
    · obtain ⟨a', b', c'⟩ := h.good (by omega) a b (by omega)
      exact ⟨a', b', by omega⟩
    · exact ⟨a, b, c⟩
theorem RuleG.good {g g' : List Pt} {r : Rl} {no i : Nat} (h : RuleG g r no g' i) (hg : Good g) (hn : no < g.length) : Good g' ∧ i < g'.length ∧ g.length ≤ g'.length := by
  obtain ⟨g1, i1, g2, i2, h1, h2, h3⟩ := h
  obtain ⟨-, a1, a2, -, -⟩ := h1.at_
  have g1g := hg.put h1 (.inl rfl)
  obtain ⟨b1, b2, b3⟩ := TestsIs.good g1g a1 (by omega) _ _ _ h2
  obtain ⟨c1, c2, c3⟩ := h3.good b1 b2 (by omega)
  exact ⟨c1, c2, by omega⟩
theorem RulesG.good {els : Int} : ∀ (rs : List Rl) (g : List Pt) (i : Nat), RulesG els rs g i → Good g ∧ i < g.length
  | [], g, i, h => ⟨Good.nil.put h (.inl rfl), (PutIs.at_ h).2.1⟩
  | r :: rs, g, i, ⟨g1, i1, h1, h2⟩ => by
    obtain ⟨a, b⟩ := RulesG.good rs g1 i1 h1
    obtain ⟨c, d, _⟩ := h2.good a b
    exact ⟨c, d⟩

/-! A graph that is trimmed. -/
theorem TrimTo.sem {g : List Pt} {at_ : Nat} {σ : Lk → Bool} (hg : Good g) (hat : at_ < g.length) : ∀ (k : Nat) (gs : List Pt) (ts : List Nat), k ≤ at_ + 1 → TrimTo g (usedOf g at_) k gs ts →
    (Good gs ∧ ts.length = g.length ∧ ∀ j : Nat, j < k → (usedOf g at_)[j]? = some true → ∃ t, ts[j]? = some t ∧ t < gs.length ∧ ∀ v, GTo g σ j v → GTo gs σ t v)
  | 0, gs, ts, _, ⟨e1, e2⟩ => by
    subst e1 e2
    exact ⟨Good.nil, by simp, fun j hj => absurd hj (by omega)⟩
  | k + 1, gs, ts, hk, ⟨gs0, ts0, h1, h2⟩ => by
    obtain ⟨a, b, c⟩ := TrimTo.sem (σ := σ) hg hat k gs0 ts0 (by omega) h1
    obtain ⟨d1, d2, d3, d4, d5⟩ := h2.good hg (by omega) a b (fun j hj hu => by obtain ⟨t, h1, h2, _⟩ := c j hj hu; exact ⟨t, h1, h2⟩)
    refine ⟨d1, d2, fun j hj hu => ?_⟩
    rcases h2 with ⟨nu, rfl, rfl⟩ | ⟨hu2, p, i, hp, rfl, h⟩
    · by_cases e : j = k
      · subst e; exact absurd hu nu
      · exact c j (by omega) hu
    · have hx : Ex gs0 gs := by
        rcases h with ⟨_, h⟩ | ⟨_, h⟩
        · exact h.ex
        · exact h.ex
      by_cases e : j = k
      · subst e
        obtain ⟨t, ht1, ht2⟩ := d5 j (by omega) hu
        have hkl : j < ts0.length := by rw [b]; omega
        rw [List.getElem?_set_self hkl] at ht1
        cases ht1
        refine ⟨i, List.getElem?_set_self hkl, ht2, fun v hv => ?_⟩
        rcases h with ⟨h0, h⟩ | ⟨h0, h⟩
        · cases hv with
          | leaf x _ =>
            rw [hp] at x; cases x
            exact .leaf h.at_.1 h0
          | look x y _ _ => rw [hp] at x; cases x; omega
        · obtain ⟨y, n, hy, hn, hyk, hnk, uy, un⟩ := usedOf_next hg (by omega) hu2 hp h0
          obtain ⟨ty, hty, hty2, hty3⟩ := c y hyk uy
          obtain ⟨tn, htn, htn2, htn3⟩ := c n hnk un
          have ey : ts0.getD p.yes.toNat 0 = ty := by rw [hy, Int.toNat_natCast, List.getD_eq_getElem?_getD, hty]; rfl
          have en : ts0.getD p.no.toNat 0 = tn := by rw [hn, Int.toNat_natCast, List.getD_eq_getElem?_getD, htn]; rfl
          rw [ey, en] at h
          cases hv with
          | leaf x z => rw [hp] at x; cases x; exact absurd z h0
          | @look _ j2 _ _ x z q r =>
            rw [hp] at x; cases x
            rcases h with ⟨hyn, rfl, rfl⟩ | ⟨hne, h⟩
            · by_cases e : σ ⟨p.field, p.mask, p.op, p.value⟩ = true
              · rw [if_pos e, hy] at q
                obtain rfl := Int.ofNat.inj q
                exact hty3 v r
              · rw [if_neg e, hn] at q
                obtain rfl := Int.ofNat.inj q
                rw [hyn]
                exact htn3 v r
            · by_cases e : σ ⟨p.field, p.mask, p.op, p.value⟩ = true
              · rw [if_pos e, hy] at q
                obtain rfl := Int.ofNat.inj q
                exact .look h.at_.1 z (by simp only [e, if_true]) ((hty3 v r).ex h.ex)
              · rw [if_neg e, hn] at q
                obtain rfl := Int.ofNat.inj q
                exact .look h.at_.1 z (by simp only [if_neg e]) ((htn3 v r).ex h.ex)
      · obtain ⟨t, ht1, ht2, ht3⟩ := c j (by omega) hu
        exact ⟨t, by rw [List.getElem?_set_ne (fun e2 => e e2.symm)]; exact ht1, by omega, fun v hv => (ht3 v hv).ex hx⟩
theorem TrimIs.sem {g g' : List Pt} {at_ : Nat} {σ : Lk → Bool} {v : Int} (h : TrimIs g at_ g') : Good g → at_ < g.length → GTo g σ at_ v → Good g' ∧ 0 < g'.length ∧ GTo g' σ (g'.length - 1) v := by
  induction h with
  | done h ht hl =>
    intro hg hat hv
    obtain ⟨a, b, c⟩ := TrimTo.sem (σ := σ) hg hat _ _ _ (Nat.le_refl _) h
    obtain ⟨t, h1, h2, h3⟩ := c _ (Nat.lt_succ_self _) (usedOf_at hg hat)
    rw [ht] at h1; cases h1
    refine ⟨a, by omega, ?_⟩
    rw [show _ - 1 = _ from by rw [← hl, Nat.add_sub_cancel]]
    exact h3 v hv
  | more h ht hl _ ih =>
    intro hg hat hv
    obtain ⟨a, b, c⟩ := TrimTo.sem (σ := σ) hg hat _ _ _ (Nat.le_refl _) h
    obtain ⟨t, h1, h2, h3⟩ := c _ (Nat.lt_succ_self _) (usedOf_at hg hat)
    rw [ht] at h1; cases h1
    exact ih a h2 (h3 v hv)
theorem polOk_rules {p : Pol} (h : polOkB p = true) : ∀ r ∈ p.rules, ruleOkB r = true := by
  unfold polOkB polShapeB at h
  simp only [Bool.and_eq_true] at h
  exact List.all_eq_true.1 h.1.2
/-- The graph of a policy says what its rules say. -/
theorem GraphIs.sem {p : Pol} {g : List Pt} (h : GraphIs p g) (hok : polOkB p = true) (σ : Lk → Bool) : Good g ∧ 0 < g.length ∧ GTo g σ (g.length - 1) (rulesV σ p.els p.rules) := by
  rcases h with ⟨e, _⟩ | ⟨_, g0, i0, h1, h2⟩
  · rw [hok] at e; cases e
  · obtain ⟨a, b⟩ := RulesG.good _ _ _ h1
    exact h2.sem a b (RulesG.sem _ _ _ (polOk_rules hok) h1)
end Go.Proofs.YteflnpejhhkchaaGreatDoor

-- A program that is made of a graph says what the graph says, under any truth value of each look; and a check finds nothing in a program that says what the rules say, unless it takes too long. No program in sight.
namespace Go.Proofs.YteflnpejhhkchaaGreatDoor
open Go.RowKit
set_option linter.unusedSimpArgs false
set_option linter.unusedVariables false

/-! Programs. -/
inductive CRun (g : List In4) (σ : Lk → Bool) : Nat → Int → Int → Int → Prop
  | load {a : Nat} {f m v : Int} {x : In4} : g[a]? = some x → x.op = 1 → CRun g σ (a + 1) x.k 4294967295 v → CRun g σ a f m v
  | mask {a : Nat} {f m v : Int} {x : In4} : g[a]? = some x → x.op = 2 → CRun g σ (a + 1) f (Go.bits BinOp.and IntKind.i64 m x.k) v → CRun g σ a f m v
  | jump {a : Nat} {f m v : Int} {x : In4} : g[a]? = some x → x.op = 5 → CRun g σ (a + 1 + x.k.toNat) f m v → CRun g σ a f m v
  | end_ {a : Nat} {f m : Int} {x : In4} : g[a]? = some x → x.op = 6 → CRun g σ a f m x.k
  | zero {a : Nat} {f m v : Int} {x : In4} : g[a]? = some x → (x.op = 3 ∨ x.op = 4) → m = 0 → CRun g σ (a + 1 + wayOf x (zeroB x)) f m v → CRun g σ a f m v
  | look {a : Nat} {f m v : Int} {x : In4} : g[a]? = some x → (x.op = 3 ∨ x.op = 4) → m ≠ 0 → CRun g σ (a + 1 + wayOf x (σ ⟨f, m, lookOp x, x.k⟩)) f m v → CRun g σ a f m v

theorem bits_max {m : Int} (h0 : 0 ≤ m) (h1 : m ≤ 4294967295) : Go.bits BinOp.and IntKind.i64 4294967295 m = m := by
  obtain ⟨b, rfl⟩ := Int.eq_ofNat_of_zero_le h0
  have hb : b < 4294967296 := by omega
  have e : (BitVec.ofInt 64 4294967295 &&& BitVec.ofInt 64 (b : Int)).toNat = b := by
    rw [BitVec.ofInt_natCast, show (BitVec.ofInt 64 4294967295) = BitVec.ofNat 64 4294967295 from rfl, BitVec.toNat_and, BitVec.toNat_ofNat, BitVec.toNat_ofNat]
    rw [Nat.mod_eq_of_lt (show (4294967295 : Nat) < 2 ^ 64 by decide), Nat.mod_eq_of_lt (show b < 2 ^ 64 from Nat.lt_trans hb (by decide)), Nat.and_comm]
    rw [show (4294967295 : Nat) = 2 ^ 32 - 1 from rfl, Nat.and_two_pow_sub_one_eq_mod]
    exact Nat.mod_eq_of_lt hb
  show IntKind.i64.wrap (((BitVec.ofInt 64 4294967295 &&& BitVec.ofInt 64 (b : Int)).toNat : Nat) : Int) = b
  rw [e]
  exact wrap_small _ (Int.natCast_nonneg _) (by omega)

theorem ptCode_size (g : List Pt) (ys ns : List Bool) (i : Nat) : (ptCode g ys ns i).length = szAt g ys ns i := by
  unfold ptCode szAt
  cases g[i]? with
  | none => rfl
  | some p =>
    try simp only []
    by_cases h0 : p.op = 0
    · rw [if_pos h0, if_pos h0]; rfl
    · rw [if_neg h0, if_neg h0]
      by_cases hm : p.mask = 4294967295 <;> cases (ys[i]?).getD false <;> cases (ns[i]?).getD false <;> simp [hm]
theorem codeTo_size (g : List Pt) (ys ns : List Bool) : ∀ m, m ≤ g.length → (codeTo g ys ns m).length = tailSum (szAt g ys ns) g.length (g.length - m)
  | 0, _ => by rw [Nat.sub_zero, tailSum_end]; rfl
  | m + 1, h => by
    rw [codeTo, List.length_append, codeTo_size g ys ns m (by omega), ptCode_size]
    rw [tailSum_step (k := g.length - (m + 1)) (by omega), show g.length - (m + 1) + 1 = g.length - m by omega, show g.length - 1 - m = g.length - (m + 1) by omega]
    omega
theorem code_to (g : List Pt) (ys ns : List Bool) {i d : Nat} {x : In4} (hx : (ptCode g ys ns i)[d]? = some x) (hi : i < g.length) : ∀ m, m ≤ g.length → g.length - 1 - i < m → (codeTo g ys ns m)[stAt g ys ns i + d]? = some x
  | 0, _, h => absurd h (by omega)
  | m + 1, hm, h => by
    rw [codeTo]
    by_cases e : g.length - 1 - i = m
    · have hl : (codeTo g ys ns m).length = stAt g ys ns i := by
        rw [codeTo_size g ys ns m (by omega)]
        unfold stAt
        congr 1
        omega
      rw [List.getElem?_append_right (by omega), hl, Nat.add_sub_cancel_left, show g.length - 1 - m = i by omega]
      exact hx
    · have ih := code_to g ys ns hx hi m (by omega) (by omega)
      rw [List.getElem?_append_left (List.getElem?_eq_some_iff.1 ih).1]
      exact ih
theorem code_at {g : List Pt} {ys ns : List Bool} {i d : Nat} {x : In4} (hi : i < g.length) (hx : (ptCode g ys ns i)[d]? = some x) : (codeTo g ys ns g.length)[stAt g ys ns i + d]? = some x := code_to g ys ns hx hi _ (Nat.le_refl _) (by omega)
theorem tailSum_anti (f : Nat → Nat) (n : Nat) : ∀ (d a : Nat), a + d ≤ n → tailSum f n (a + d) ≤ tailSum f n a
  | 0, a, _ => Nat.le_refl _
  | d + 1, a, h => by
    have h1 := tailSum_anti f n d a (by omega)
    have h2 := tailSum_step (f := f) (n := n) (k := a + d) (by omega)
    rw [show a + (d + 1) = a + d + 1 by omega]
    omega
theorem stAt_le_of {g : List Pt} {ys ns : List Bool} {i j : Nat} (hj : j < i) (hi : i < g.length) : stAt g ys ns i + szAt g ys ns i ≤ stAt g ys ns j := by
  unfold stAt
  have h1 := tailSum_step (f := szAt g ys ns) (n := g.length) (k := i) hi
  have h2 := tailSum_anti (szAt g ys ns) g.length (i - (j + 1)) (j + 1) (by omega)
  rw [show j + 1 + (i - (j + 1)) = i by omega] at h2
  omega

theorem code_sem {g : List Pt} {ys ns : List Bool} {σ : Lk → Bool} (hok : graphOk g) {i : Nat} {v : Int} (h : GTo g σ i v) : ∀ f m : Int, CRun (codeTo g ys ns g.length) σ (stAt g ys ns i) f m v := by
  induction h with
  | @leaf i p hp h0 =>
    intro f m
    have hi := (List.getElem?_eq_some_iff.1 hp).1
    have hc : (ptCode g ys ns i)[0]? = some ⟨6, p.verdict, 0, 0⟩ := by unfold ptCode; rw [hp]; simp [h0]
    exact CRun.end_ (x := ⟨6, p.verdict, 0, 0⟩) (code_at hi hc) rfl
  | @look i j p v hp ho hway hj ih =>
    intro f m
    have hi := (List.getElem?_eq_some_iff.1 hp).1
    have hpo := hok.2 i p hp
    rcases hpo with ⟨h0, _⟩ | ⟨hop, hvd, hfd, hmk, hvl, ⟨hy0, hy1⟩, ⟨hn0, hn1⟩⟩
    · omega
    have h0 : p.op ≠ 0 := by omega
    have hjl : j < i := by split at hway <;> omega
    have hge := stAt_le_of (ys := ys) (ns := ns) hjl hi
    obtain ⟨Y, hY⟩ : ∃ Y, Y = (ys[i]?).getD false := ⟨_, rfl⟩
    obtain ⟨N, hN⟩ : ∃ N, N = (ns[i]?).getD false := ⟨_, rfl⟩
    obtain ⟨sy, hsy⟩ : ∃ s, s = stAt g ys ns p.yes.toNat := ⟨_, rfl⟩
    obtain ⟨sn, hsn⟩ : ∃ s, s = stAt g ys ns p.no.toNat := ⟨_, rfl⟩
    obtain ⟨S, hS⟩ : ∃ s, s = stAt g ys ns i := ⟨_, rfl⟩
    have hta : testAt g i = tstP p := tstP_at hp
    have hcode : ptCode g ys ns i = [⟨1, p.field, 0, 0⟩] ++ (if p.mask = 4294967295 then [] else [⟨2, p.mask, 0, 0⟩]) ++
        [⟨if p.op = 3 then 4 else 3, p.value, if Y then 0 else (sy : Int) - (S + tstP p), if N then (Y.toNat : Int) else (sn : Int) - (S + tstP p)⟩] ++
        (if Y then [⟨5, (sy : Int) - (S + tstP p) - 1, 0, 0⟩] else []) ++ (if N then [⟨5, (sn : Int) - (S + tstP p) - Y.toNat - 1, 0, 0⟩] else []) := by
      unfold ptCode
      rw [hp]
      simp only [if_neg h0, ← hY, ← hN, ← hsy, ← hsn, ← hS, hta]
    have hsz : szAt g ys ns i = tstP p + Y.toNat + N.toNat := by
      unfold szAt tstP
      rw [hp]
      simp only [if_neg h0, ← hY, ← hN]
      split <;> omega
    rw [hsz, ← hS] at hge
    rw [← hS]
    have hat : ∀ (d : Nat) (x : In4), (ptCode g ys ns i)[d]? = some x → (codeTo g ys ns g.length)[S + d]? = some x := fun d x hx => by rw [hS]; exact code_at hi hx
    -- the look and what is behind it
    have hlook : ∀ t : Nat, t + 1 = tstP p → CRun (codeTo g ys ns g.length) σ (S + t) p.field p.mask v := by
      intro t ht
      have hL : (ptCode g ys ns i)[t]? = some ⟨if p.op = 3 then 4 else 3, p.value, if Y then 0 else (sy : Int) - (S + tstP p), if N then (Y.toNat : Int) else (sn : Int) - (S + tstP p)⟩ := by
        rw [hcode]
        unfold tstP at ht ⊢
        by_cases hm : p.mask = 4294967295
        · rw [if_pos hm] at ht
          obtain rfl : t = 1 := by omega
          simp [hm]
        · rw [if_neg hm] at ht
          obtain rfl : t = 2 := by omega
          simp [hm]
      have hJy : Y = true → (ptCode g ys ns i)[t + 1]? = some ⟨5, (sy : Int) - (S + tstP p) - 1, 0, 0⟩ := by
        intro hY1
        rw [hcode, hY1]
        unfold tstP at ht ⊢
        by_cases hm : p.mask = 4294967295
        · rw [if_pos hm] at ht
          obtain rfl : t = 1 := by omega
          simp [hm]
        · rw [if_neg hm] at ht
          obtain rfl : t = 2 := by omega
          simp [hm]
      have hJn : N = true → (ptCode g ys ns i)[t + 1 + Y.toNat]? = some ⟨5, (sn : Int) - (S + tstP p) - Y.toNat - 1, 0, 0⟩ := by
        intro hN1
        rw [hcode, hN1]
        unfold tstP at ht ⊢
        by_cases hm : p.mask = 4294967295
        · rw [if_pos hm] at ht
          obtain rfl : t = 1 := by omega
          cases Y <;> simp [hm]
        · rw [if_neg hm] at ht
          obtain rfl : t = 2 := by omega
          cases Y <;> simp [hm]
      refine CRun.look (hat t _ hL) (by simp only; split <;> omega) (by omega) ?_
      have hop2 : lookOp (⟨if p.op = 3 then 4 else 3, p.value, if Y then 0 else (sy : Int) - (S + tstP p), if N then (Y.toNat : Int) else (sn : Int) - (S + tstP p)⟩ : In4) = p.op := by
        unfold lookOp
        rcases hop with e | e <;> rw [e] <;> rfl
      rw [hop2]
      try simp only []
      by_cases hσ : σ ⟨p.field, p.mask, p.op, p.value⟩ = true
      · rw [if_pos hσ] at hway
        have ej : sy = stAt g ys ns j := by rw [hsy, hway, Int.toNat_natCast]
        rw [hσ]
        simp only [wayOf, if_true]
        cases Y with
        | true =>
          simp only [if_true]
          have hJ := hat _ _ (hJy rfl)
          rw [show S + t + 1 + Int.toNat 0 = S + (t + 1) by simp; omega]
          refine CRun.jump hJ rfl ?_
          try simp only []
          rw [show S + (t + 1) + 1 + ((sy : Int) - (S + tstP p) - 1).toNat = stAt g ys ns j by simp only [Bool.toNat_true] at hge; omega]
          exact ih _ _
        | false =>
          simp only [Bool.false_eq_true, if_false]
          rw [show S + t + 1 + ((sy : Int) - (S + tstP p)).toNat = stAt g ys ns j by omega]
          exact ih _ _
      · rw [if_neg hσ] at hway
        have ej : sn = stAt g ys ns j := by rw [hsn, hway, Int.toNat_natCast]
        rw [show σ ⟨p.field, p.mask, p.op, p.value⟩ = false by simpa using hσ]
        simp only [wayOf, Bool.false_eq_true, if_false]
        cases N with
        | true =>
          simp only [if_true]
          have hJ := hat _ _ (hJn rfl)
          rw [show S + t + 1 + ((Y.toNat : Nat) : Int).toNat = S + (t + 1 + Y.toNat) by simp; omega]
          refine CRun.jump hJ rfl ?_
          try simp only []
          rw [show S + (t + 1 + Y.toNat) + 1 + ((sn : Int) - (S + tstP p) - Y.toNat - 1).toNat = stAt g ys ns j by simp only [Bool.toNat_true] at hge; omega]
          exact ih _ _
        | false =>
          simp only [Bool.false_eq_true, if_false]
          rw [show S + t + 1 + ((sn : Int) - (S + tstP p)).toNat = stAt g ys ns j by omega]
          exact ih _ _
    have hld : (ptCode g ys ns i)[0]? = some ⟨1, p.field, 0, 0⟩ := by rw [hcode]; rfl
    have h1 := hat 0 _ hld
    rw [Nat.add_zero] at h1
    refine CRun.load h1 rfl ?_
    try simp only []
    by_cases hm : p.mask = 4294967295
    · have := hlook 1 (by unfold tstP; rw [if_pos hm])
      rw [hm] at this
      exact this
    · have hmk2 : (ptCode g ys ns i)[1]? = some ⟨2, p.mask, 0, 0⟩ := by rw [hcode, if_neg hm]; rfl
      refine CRun.mask (hat 1 _ hmk2) rfl ?_
      try simp only []
      rw [bits_max (by omega) hmk.2]
      exact hlook 2 (by unfold tstP; rw [if_neg hm])

/-- What is made of a policy says what its rules say. -/
theorem made_sem {p : Pol} {g : List Pt} {x : List In4} (hg : GraphIs p g) (hm : MakeIs g x true) (hok : polOkB p = true) (σ : Lk → Bool) (f m : Int) : CRun x σ 0 f m (rulesV σ p.els p.rules) := by
  rcases hm with ⟨_, _, e⟩ | ⟨hgo, y, ⟨ys, ns, _, rfl⟩, ⟨_, rfl, _⟩ | ⟨_, _, e⟩⟩
  · cases e
  · obtain ⟨_, hl, hs⟩ := hg.sem hok σ
    have := code_sem (ys := ys) (ns := ns) hgo hs f m
    rw [show stAt g ys ns (g.length - 1) = 0 by unfold stAt; rw [show g.length - 1 + 1 = g.length by omega, tailSum_end]] at this
    exact this
  · cases e

/-! A check. -/
inductive Ext : List (Lk × Bool) → List (Lk × Bool) → Prop
  | refl (l : List (Lk × Bool)) : Ext l l
  | step {l l' : List (Lk × Bool)} {q : Lk} (b : Bool) : Ext l l' → tellO l' q = none → Ext l (l' ++ [(q, b)])
theorem Ext.trans {a b c : List (Lk × Bool)} (h : Ext a b) (h' : Ext b c) : Ext a c := by
  induction h' with
  | refl => exact h
  | step b _ hq ih => exact .step b ih hq
/-- What is told stays told. -/
theorem tell_stays {l : List (Lk × Bool)} {q x : Lk} {h b : Bool} (hq : tellO l q = some h) (hx : tellO l x = none) : tellO (l ++ [(x, b)]) q = some h := by
  cases hs : seen l q with
  | some c =>
    rw [tellO_seen hs] at hq
    cases hq
    exact tellO_seen (by rw [seen_snoc, hs])
  | none =>
    have hne : ¬ LkSame x q := fun e => by
      rw [LkSame.eq.1 e] at hx
      rw [hx] at hq; cases hq
    have hs2 : seen (l ++ [(x, b)]) q = none := by rw [seen_snoc, hs]; simp only []; rw [if_neg hne]
    rw [tellO_room hs] at hq
    rw [tellO_room hs2]
    by_cases hf : x.field = q.field ∧ x.mask = q.mask
    · obtain ⟨hf, hm⟩ := hf
      have hxs : seen l x = none := by
        cases e : seen l x with
        | none => rfl
        | some c => rw [tellO_seen e] at hx; cases hx
      rw [tellO_room hxs] at hx
      have e1 : ∀ (l : List (Lk × Bool)), lowOf l x = lowOf l q := fun l => by
        induction l with
        | nil => rfl
        | cons y l ih => simp only [lowOf, selLow, hf, hm, ih]
      have e2 : ∀ (l : List (Lk × Bool)), highOf l x = highOf l q := fun l => by
        induction l with
        | nil => exact hm
        | cons y l ih => simp only [highOf, selHigh, hf, hm, ih]
      have e3 : ∀ (l : List (Lk × Bool)), oneOf l x = oneOf l q := fun l => by
        induction l with
        | nil => rfl
        | cons y l ih => simp only [oneOf, selOne, hf, hm, ih]
      unfold roomLow roomHigh at hx hq ⊢
      rw [e1, e2, e3] at hx
      have hl0 := lowOf_nonneg l q
      cases ho : oneOf l q with
      | some v =>
        rw [ho] at hx hq
        simp only [Option.getD_some] at hx hq
        rw [oneOf_snoc, ho]
        exact hq
      | none =>
        rw [ho] at hx hq
        simp only [Option.getD_none] at hx hq
        rw [oneOf_snoc, ho, highOf_snoc]
        obtain ⟨L, hL⟩ : ∃ L, L = lowOf l q := ⟨_, rfl⟩
        obtain ⟨H, hH⟩ : ∃ H, H = highOf l q := ⟨_, rfl⟩
        rw [← hL] at hx hq hl0
        rw [← hH] at hx hq ⊢
        by_cases h3 : x.op = 3
        · have hx' : L ≤ x.value ∧ x.value < H := by
            unfold tellRoom at hx
            rw [if_pos h3] at hx
            split at hx
            · cases hx
            · split at hx
              · cases hx
              · omega
          rw [lowOf_snoc _ _ _ (fun _ => by simp only; omega), ← hL]
          have s1 : ¬ selOne (x, b) q := fun h => by have := h.2.2.1; simp only at this; omega
          simp only [if_neg s1, Option.getD_none]
          cases b with
          | true =>
            have s2 : selLow (x, true) q := ⟨hf, hm, h3, rfl⟩
            have s3 : ¬ selHigh (x, true) q := fun h => by have := h.2.2.2; cases this
            rw [if_pos s2, if_neg s3]
            try simp only []
            unfold tellRoom at hq ⊢
            by_cases hq3 : q.op = 3
            · rw [if_pos hq3] at hq ⊢
              split at hq
              · rw [if_pos (by omega)]; exact hq
              · split at hq
                · rw [if_neg (by omega), if_pos (by omega)]; exact hq
                · cases hq
            · rw [if_neg hq3] at hq ⊢
              split at hq
              · rw [if_pos (by omega)]; exact hq
              · split at hq
                · omega
                · cases hq
          | false =>
            have s2 : ¬ selLow (x, false) q := fun h => by have := h.2.2.2; cases this
            have s3 : selHigh (x, false) q := ⟨hf, hm, h3, rfl⟩
            rw [if_neg s2, if_pos s3]
            try simp only []
            unfold tellRoom at hq ⊢
            by_cases hq3 : q.op = 3
            · rw [if_pos hq3] at hq ⊢
              split at hq
              · rw [if_pos (by omega)]; exact hq
              · split at hq
                · rw [if_neg (by omega), if_pos (by omega)]; exact hq
                · cases hq
            · rw [if_neg hq3] at hq ⊢
              split at hq
              · rw [if_pos (by omega)]; exact hq
              · split at hq
                · omega
                · cases hq
        · have hx' : L ≤ x.value ∧ x.value ≤ H ∧ L ≠ H := by
            unfold tellRoom at hx
            rw [if_neg h3] at hx
            split at hx
            · cases hx
            · split at hx
              · cases hx
              · omega
          have s2 : ¬ selLow (x, b) q := fun h => h3 h.2.2.1
          have s3 : ¬ selHigh (x, b) q := fun h => h3 h.2.2.1
          rw [lowOf_snoc _ _ _ (fun h => absurd h s2), ← hL, if_neg s2, if_neg s3]
          by_cases s1 : selOne (x, b) q
          · simp only [if_pos s1, Option.getD_some]
            have hne2 : q.op = 1 → q.value ≠ x.value := fun h1 h2 => hne ⟨hf, hm, by have := s1.2.2.1; simp only at this; omega, h2.symm⟩
            unfold tellRoom at hq ⊢
            by_cases hq3 : q.op = 3
            · rw [if_pos hq3] at hq ⊢
              split at hq
              · rw [if_pos (by omega)]; exact hq
              · split at hq
                · rw [if_neg (by omega), if_pos (by omega)]; exact hq
                · cases hq
            · rw [if_neg hq3] at hq ⊢
              split at hq
              · rw [if_pos (by omega)]; exact hq
              · split at hq
                · omega
                · cases hq
          · simp only [if_neg s1, Option.getD_none]
            exact hq
    · have e1 : lowOf (l ++ [(x, b)]) q = lowOf l q := by
        rw [lowOf_snoc _ _ _ (fun h => absurd ⟨h.1, h.2.1⟩ hf), if_neg (fun h => hf ⟨h.1, h.2.1⟩)]
      have e2 : highOf (l ++ [(x, b)]) q = highOf l q := by rw [highOf_snoc, if_neg (fun h => hf ⟨h.1, h.2.1⟩)]
      have e3 : oneOf (l ++ [(x, b)]) q = oneOf l q := by
        rw [oneOf_snoc]
        cases oneOf l q with
        | some v => rfl
        | none => simp only []; rw [if_neg (fun h => hf ⟨h.1, h.2.1⟩)]
      unfold roomLow roomHigh at hq ⊢
      rw [e1, e2, e3]
      exact hq
theorem Ext.tell {l l' : List (Lk × Bool)} (h : Ext l l') {q : Lk} {b : Bool} (hq : tellO l q = some b) : tellO l' q = some b := by
  induction h with
  | refl => exact hq
  | step c _ hx ih => exact tell_stays ih hx
theorem tell_new {l : List (Lk × Bool)} {q : Lk} (b : Bool) (h : tellO l q = none) : tellO (l ++ [(q, b)]) q = some b := by
  have hs : seen l q = none := by
    cases e : seen l q with
    | none => rfl
    | some c => rw [tellO_seen e] at h; cases h
  exact tellO_seen (by rw [seen_snoc, hs]; simp only []; rw [if_pos (LkSame.eq.2 rfl)])
def valOf (l : List (Lk × Bool)) (q : Lk) : Bool := (tellO l q).getD false
theorem valOf_told {l l' : List (Lk × Bool)} (h : Ext l l') {q : Lk} {b : Bool} (hq : tellO l q = some b) : valOf l' q = b := by
  unfold valOf; rw [h.tell hq]; rfl
theorem valOf_new {l l' : List (Lk × Bool)} {q : Lk} {b : Bool} (hq : tellO l q = none) (h : Ext (l ++ [(q, b)]) l') : Ext l l' ∧ valOf l' q = b :=
  ⟨(Ext.step b (Ext.refl l) hq).trans h, valOf_told h (tell_new b hq)⟩

open Classical in
/-- What the rules say from a rule on of which the first looks hold. -/
noncomputable def restV (σ : Lk → Bool) (last : Int) (rs : List Rl) (a k : Nat) : Int := match rs.drop a with
  | [] => last
  | r :: rest => if ¬ Never r ∧ ∀ x ∈ (looksOf r).drop k, σ x.1 = x.2 then r.verdict else rulesV σ last rest
theorem drop_at {α : Type} {l : List α} {a : Nat} {r : α} (h : l[a]? = some r) : l.drop a = r :: l.drop (a + 1) := by
  obtain ⟨hl, e⟩ := List.getElem?_eq_some_iff.1 h
  rw [List.drop_eq_getElem_cons hl, e]
open Classical in
theorem restV_zero (σ : Lk → Bool) (last : Int) (rs : List Rl) (a : Nat) : restV σ last rs a 0 = rulesV σ last (rs.drop a) := by
  unfold restV
  cases e : rs.drop a with
  | nil => rfl
  | cons r rest =>
    show (if ¬ Never r ∧ ∀ x ∈ (looksOf r).drop 0, σ x.1 = x.2 then r.verdict else rulesV σ last rest) = if FitsV σ r then r.verdict else rulesV σ last rest
    by_cases c : FitsV σ r
    · rw [if_pos c, if_pos ⟨c.1, by simpa using c.2⟩]
    · rw [if_neg c, if_neg (fun h => c ⟨h.1, by simpa using h.2⟩)]
theorem restV_never {σ : Lk → Bool} {last : Int} {rs : List Rl} {a k : Nat} {r : Rl} (h : rs[a]? = some r) (hn : Never r) : restV σ last rs a k = restV σ last rs (a + 1) 0 := by
  rw [restV_zero]
  unfold restV
  rw [drop_at h]
  try simp only []
  rw [if_neg (fun h => h.1 hn)]
theorem restV_next {σ : Lk → Bool} {last : Int} {rs : List Rl} {a k : Nat} {r : Rl} {q : Lk} {m : Bool} (h : rs[a]? = some r) (hn : ¬ Never r) (hq : (looksOf r)[k]? = some (q, m)) : restV σ last rs a k = restV σ last rs (nextA a (σ q) m) (nextK k (σ q) m) := by
  unfold nextA nextK
  by_cases e : σ q = m
  · rw [if_pos e, if_pos e]
    unfold restV
    rw [drop_at h]
    try simp only []
    by_cases c : ¬ Never r ∧ ∀ x ∈ (looksOf r).drop (k + 1), σ x.1 = x.2
    · rw [if_pos c, if_pos ⟨c.1, by rw [drop_at hq]; simpa [e] using c.2⟩]
    · rw [if_neg c, if_neg (fun h => c ⟨h.1, by have := h.2; rw [drop_at hq] at this; simpa [e] using this⟩)]
  · rw [if_neg e, if_neg e, restV_zero]
    unfold restV
    rw [drop_at h]
    try simp only []
    rw [if_neg (fun h => e (h.2 (q, m) (by rw [drop_at hq]; simp)))]
theorem restV_fits {σ : Lk → Bool} {last : Int} {rs : List Rl} {a k : Nat} {r : Rl} (h : rs[a]? = some r) (hn : ¬ Never r) (hk : (looksOf r).length ≤ k) : restV σ last rs a k = r.verdict := by
  unfold restV
  rw [drop_at h]
  try simp only []
  rw [if_pos ⟨hn, by rw [List.drop_eq_nil_of_le hk]; simp⟩]
theorem restV_done {σ : Lk → Bool} {last : Int} {rs : List Rl} {a k : Nat} (h : rs.length ≤ a) : restV σ last rs a k = last := by
  unfold restV
  rw [List.drop_eq_nil_of_le h]

theorem RuleRun.sound {rs : List Rl} {last : Int} {a k : Nat} {v : Int} {l : List (Lk × Bool)} {s s' : Nat} {b : Bool} (h : RuleRun rs last a k v l s s' b) : (∀ l', Ext l l' → restV (valOf l') last rs a k = v) → b = true ∨ 6000 < s' := by
  induction h with
  | over h => intro _; right; omega
  | done h1 h2 => intro hv; left; simpa [restV_done h2] using (hv _ (.refl _)).symm
  | never h1 h2 h3 _ ih => intro hv; exact ih fun l' hl => by rw [← restV_never h2 h3]; exact hv l' hl
  | fits h1 h2 h3 h4 => intro hv; left; simpa [restV_fits h2 h3 h4] using (hv _ (.refl _)).symm
  | told h1 h2 h3 h4 h5 _ ih =>
    intro hv
    refine ih fun l' hl => ?_
    have := hv l' hl
    rw [restV_next h2 h3 h4, valOf_told hl h5] at this
    exact this
  | both h1 h2 h3 h4 h5 _ _ ih1 ih2 =>
    intro hv
    refine ih2 fun l' hl => ?_
    obtain ⟨e1, e2⟩ := valOf_new h5 hl
    have := hv l' e1
    rw [restV_next h2 h3 h4, e2] at this
    exact this
  | stop h1 h2 h3 h4 h5 _ ih1 =>
    intro hv
    right
    have := ih1 fun l' hl => by
      obtain ⟨e1, e2⟩ := valOf_new h5 hl
      have := hv l' e1
      rw [restV_next h2 h3 h4, e2] at this
      exact this
    rcases this with h | h
    · cases h
    · omega
theorem WayRun.sound {g : List In4} {rs : List Rl} {last : Int} {a : Nat} {f m : Int} {l : List (Lk × Bool)} {s s' : Nat} {b : Bool} (h : WayRun g rs last a f m l s s' b) : (∀ l', Ext l l' → CRun g (valOf l') a f m (rulesV (valOf l') last rs)) → b = true ∨ 6000 < s' := by
  have hn : ∀ {x : Option In4} {r r' : In4}, x = some r → x = some r' → r = r' := fun a b => Option.some.inj (a.symm.trans b)
  induction h with
  | over h => intro _; right; omega
  | load h1 h2 h3 _ ih =>
    intro hv
    refine ih fun l' hl => ?_
    have hc := hv l' hl
    generalize rulesV (valOf l') last rs = u at hc ⊢
    cases hc with
    | load e _ z => obtain rfl := hn h2 e; exact z
    | mask e y _ => obtain rfl := hn h2 e; omega
    | jump e y _ => obtain rfl := hn h2 e; omega
    | end_ e y => obtain rfl := hn h2 e; omega
    | zero e y _ _ => obtain rfl := hn h2 e; omega
    | look e y _ _ => obtain rfl := hn h2 e; omega
  | mask h1 h2 h3 _ ih =>
    intro hv
    refine ih fun l' hl => ?_
    have hc := hv l' hl
    generalize rulesV (valOf l') last rs = u at hc ⊢
    cases hc with
    | load e y _ => obtain rfl := hn h2 e; omega
    | mask e _ z => obtain rfl := hn h2 e; exact z
    | jump e y _ => obtain rfl := hn h2 e; omega
    | end_ e y => obtain rfl := hn h2 e; omega
    | zero e y _ _ => obtain rfl := hn h2 e; omega
    | look e y _ _ => obtain rfl := hn h2 e; omega
  | jump h1 h2 h3 _ ih =>
    intro hv
    refine ih fun l' hl => ?_
    have hc := hv l' hl
    generalize rulesV (valOf l') last rs = u at hc ⊢
    cases hc with
    | load e y _ => obtain rfl := hn h2 e; omega
    | mask e y _ => obtain rfl := hn h2 e; omega
    | jump e _ z => obtain rfl := hn h2 e; exact z
    | end_ e y => obtain rfl := hn h2 e; omega
    | zero e y _ _ => obtain rfl := hn h2 e; omega
    | look e y _ _ => obtain rfl := hn h2 e; omega
  | end_ h1 h2 h3 hr =>
    intro hv
    refine hr.sound fun l' hl => ?_
    rw [restV_zero, List.drop_zero]
    generalize hw : rulesV (valOf l') last rs = w
    have hc := hv l' hl
    rw [hw] at hc
    cases hc with
    | load e y _ => obtain rfl := hn h2 e; omega
    | mask e y _ => obtain rfl := hn h2 e; omega
    | jump e y _ => obtain rfl := hn h2 e; omega
    | end_ e y => obtain rfl := hn h2 e; rfl
    | zero e y _ _ => obtain rfl := hn h2 e; omega
    | look e y _ _ => obtain rfl := hn h2 e; omega
  | zero h1 h2 h3 h4 _ ih =>
    intro hv
    refine ih fun l' hl => ?_
    have hc := hv l' hl
    generalize rulesV (valOf l') last rs = u at hc ⊢
    cases hc with
    | load e y _ => obtain rfl := hn h2 e; omega
    | mask e y _ => obtain rfl := hn h2 e; omega
    | jump e y _ => obtain rfl := hn h2 e; omega
    | end_ e y => obtain rfl := hn h2 e; omega
    | zero e _ _ z => obtain rfl := hn h2 e; exact z
    | look e _ n _ => exact absurd h4 n
  | told h1 h2 h3 h4 h5 _ ih =>
    intro hv
    refine ih fun l' hl => ?_
    have hc := hv l' hl
    generalize rulesV (valOf l') last rs = u at hc ⊢
    cases hc with
    | load e y _ => obtain rfl := hn h2 e; omega
    | mask e y _ => obtain rfl := hn h2 e; omega
    | jump e y _ => obtain rfl := hn h2 e; omega
    | end_ e y => obtain rfl := hn h2 e; omega
    | zero e _ n _ => exact absurd n h4
    | look e _ _ z => obtain rfl := hn h2 e; rw [valOf_told hl h5] at z; exact z
  | both h1 h2 h3 h4 h5 _ _ ih1 ih2 =>
    intro hv
    refine ih2 fun l' hl => ?_
    obtain ⟨e1, e2⟩ := valOf_new h5 hl
    have hc := hv l' e1
    generalize rulesV (valOf l') last rs = u at hc ⊢
    cases hc with
    | load e y _ => obtain rfl := hn h2 e; omega
    | mask e y _ => obtain rfl := hn h2 e; omega
    | jump e y _ => obtain rfl := hn h2 e; omega
    | end_ e y => obtain rfl := hn h2 e; omega
    | zero e _ n _ => exact absurd n h4
    | look e _ _ z => obtain rfl := hn h2 e; rw [e2] at z; exact z
  | stop h1 h2 h3 h4 h5 _ ih1 =>
    intro hv
    right
    have := ih1 fun l' hl => by
      obtain ⟨e1, e2⟩ := valOf_new h5 hl
      have hc := hv l' e1
      generalize rulesV (valOf l') last rs = u at hc ⊢
      cases hc with
      | load e y _ => obtain rfl := hn h2 e; omega
      | mask e y _ => obtain rfl := hn h2 e; omega
      | jump e y _ => obtain rfl := hn h2 e; omega
      | end_ e y => obtain rfl := hn h2 e; omega
      | zero e _ n _ => exact absurd n h4
      | look e _ _ z => obtain rfl := hn h2 e; rw [e2] at z; exact z
    rcases this with h | h
    · cases h
    · omega

/-- How a check ends. -/
theorem ChkIs.ends {g : List In4} {p : Pol} {s : Nat} {b : Bool} (h : ChkIs g p s b) : 1 ≤ s ∧ s ≤ 12000 ∧ (b = true → s ≤ 6000) := by
  have h0 := WayRun.bound h (by omega)
  refine ⟨by omega, ?_, h0.2.2⟩
  cases h with
  | over h => omega
  | load _ _ _ z => have := z.bound (by omega); omega
  | mask _ _ _ z => have := z.bound (by omega); omega
  | jump _ _ _ z => have := z.bound (by omega); omega
  | end_ _ _ _ z => have := z.bound (by omega); omega
  | zero _ _ _ _ z => have := z.bound (by omega); omega
  | told _ _ _ n _ _ => exact absurd rfl n
  | both _ _ _ n _ _ _ => exact absurd rfl n
  | stop _ _ _ n _ _ => exact absurd rfl n
/-- What is made is found right, unless that takes too long. -/
theorem ChkIs.made {p : Pol} {x : List In4} {s : Nat} {b : Bool} (hx : ∃ g, GraphIs p g ∧ MakeIs g x true) (hok : polOkB p = true) (h : ChkIs x p s b) : b = decide (s ≤ 6000) := by
  obtain ⟨g, hg, hm⟩ := hx
  have h1 := WayRun.sound h fun l' _ => made_sem hg hm hok _ _ _
  have h2 := h.ends
  cases b with
  | true => have := h2.2.2 rfl; simpa using this
  | false =>
    rcases h1 with h1 | h1
    · cases h1
    · simp; omega
end Go.Proofs.YteflnpejhhkchaaGreatDoor
