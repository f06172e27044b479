/- Joined texts: GmP GmR PList Put PutR. -/
import Derived.Test.YtkiacbfpnidjlaaGreatDoorMak
import Derived.Test.YtkiacbfpnidjlaaGreatDoorKit
import Derived.Test.YtkiacbfpnidjlaaGreatDoorFrame
import Derived.Maps.OwnSet
import Derived.DeepKeys4
import Derived.Deep.RegionHeld3
import Derived.Deep.QuietTactic
import Derived.BigQuiet
import Derived.Deep.CutBlock
import Derived.Deep.RegionLaw
-- The graph of a policy, step by step: plain words; no Go function is walked here.
namespace Go.Proofs.YtkiacbfpnidjlaaGreatDoor
open Go.RowKit
set_option linter.unusedSimpArgs false
set_option linter.unusedVariables false

theorem TestIs.one {g g1 g2 : List Pt} {t : Ts} {y n i j : Nat} (h : TestIs g t y n g1 i) (h' : TestIs g t y n g2 j) : g1 = g2 ∧ i = j := by
  rcases h with ⟨a, h⟩ | ⟨a, b, h⟩ | ⟨a, b, c, rfl, rfl⟩ | ⟨a, b, c, h⟩ <;> rcases h' with ⟨a', h'⟩ | ⟨a', b', h'⟩ | ⟨a', b', c', rfl, rfl⟩ | ⟨a', b', c', h'⟩
  all_goals first
    | exact h.one h'
    | exact ⟨rfl, rfl⟩
    | exact absurd a a'
    | exact absurd a' a
    | exact absurd b b'
    | exact absurd b' b
    | exact absurd c c'
    | exact absurd c' c
/-- The tests of a rule, the last one first. -/
def TestsIs (g : List Pt) (on no : Nat) : List Ts → List Pt → Nat → Prop
  | [], g', i => g' = g ∧ i = on
  | t :: ts, g', i => ∃ g1 i1, TestsIs g on no ts g1 i1 ∧ TestIs g1 t i1 no g' i
theorem TestsIs.one {g : List Pt} {on no : Nat} : ∀ {ts : List Ts} {g1 g2 : List Pt} {i j : Nat}, TestsIs g on no ts g1 i → TestsIs g on no ts g2 j → g1 = g2 ∧ i = j
  | [], _, _, _, _, ⟨rfl, rfl⟩, ⟨rfl, rfl⟩ => ⟨rfl, rfl⟩
  | _ :: ts, _, _, _, _, ⟨_, _, h1, h2⟩, ⟨_, _, h3, h4⟩ => by
    obtain ⟨rfl, rfl⟩ := TestsIs.one h1 h3
    exact h2.one h4
def HighG (g : List Pt) (hi : Int) (on no : Nat) (g' : List Pt) (i : Nat) : Prop := (hi < 4294967295 ∧ LookIs g 0 4294967295 3 hi no on g' i) ∨ (¬ hi < 4294967295 ∧ g' = g ∧ i = on)
def LowG (g : List Pt) (lo : Int) (on no : Nat) (g' : List Pt) (i : Nat) : Prop := (0 < lo ∧ LookIs g 0 4294967295 3 (lo - 1) on no g' i) ∨ (¬ 0 < lo ∧ g' = g ∧ i = on)
theorem HighG.one {g g1 g2 : List Pt} {hi : Int} {on no i j : Nat} (h : HighG g hi on no g1 i) (h' : HighG g hi on no g2 j) : g1 = g2 ∧ i = j := by
  rcases h with ⟨a, h⟩ | ⟨a, rfl, rfl⟩ <;> rcases h' with ⟨b, h'⟩ | ⟨b, rfl, rfl⟩
  · exact h.one h'
  · exact absurd a b
  · exact absurd b a
  · exact ⟨rfl, rfl⟩
theorem LowG.one {g g1 g2 : List Pt} {lo : Int} {on no i j : Nat} (h : LowG g lo on no g1 i) (h' : LowG g lo on no g2 j) : g1 = g2 ∧ i = j := by
  rcases h with ⟨a, h⟩ | ⟨a, rfl, rfl⟩ <;> rcases h' with ⟨b, h'⟩ | ⟨b, rfl, rfl⟩
  · exact h.one h'
  · exact absurd a b
  · exact absurd b a
  · exact ⟨rfl, rfl⟩
/-- The numbers of a rule. -/
def RangeG (g : List Pt) (lo hi : Int) (on no : Nat) (g' : List Pt) (i : Nat) : Prop :=
  (lo = hi ∧ LookIs g 0 4294967295 1 lo on no g' i) ∨ (lo ≠ hi ∧ ∃ g1 i1, HighG g hi on no g1 i1 ∧ LowG g1 lo i1 no g' i)
theorem RangeG.one {g g1 g2 : List Pt} {lo hi : Int} {on no i j : Nat} (h : RangeG g lo hi on no g1 i) (h' : RangeG g lo hi on no g2 j) : g1 = g2 ∧ i = j := by
  rcases h with ⟨a, h⟩ | ⟨a, x, y, h1, h2⟩ <;> rcases h' with ⟨b, h'⟩ | ⟨b, x', y', h1', h2'⟩
  · exact h.one h'
  · exact absurd a b
  · exact absurd b a
  · obtain ⟨rfl, rfl⟩ := h1.one h1'
    exact h2.one h2'
/-- A rule. -/
def RuleG (g : List Pt) (r : Rl) (no : Nat) (g' : List Pt) (i : Nat) : Prop :=
  ∃ g1 i1 g2 i2, PutIs g ⟨r.verdict, 0, 0, 0, 0, 0, 0⟩ g1 i1 ∧ TestsIs g1 i1 no r.tests g2 i2 ∧ RangeG g2 r.low r.high i2 no g' i
theorem RuleG.one {g g1 g2 : List Pt} {r : Rl} {no i j : Nat} (h : RuleG g r no g1 i) (h' : RuleG g r no g2 j) : g1 = g2 ∧ i = j := by
  obtain ⟨a1, a2, a3, a4, h1, h2, h3⟩ := h
  obtain ⟨b1, b2, b3, b4, k1, k2, k3⟩ := h'
  obtain ⟨rfl, rfl⟩ := h1.one k1
  obtain ⟨rfl, rfl⟩ := h2.one k2
  exact h3.one k3
/-- All rules, the last one first. -/
def RulesG (els : Int) : List Rl → List Pt → Nat → Prop
  | [], g, i => PutIs [] ⟨els, 0, 0, 0, 0, 0, 0⟩ g i
  | r :: rs, g, i => ∃ g1 i1, RulesG els rs g1 i1 ∧ RuleG g1 r i1 g i
theorem RulesG.one {els : Int} : ∀ {rs : List Rl} {g1 g2 : List Pt} {i j : Nat}, RulesG els rs g1 i → RulesG els rs g2 j → g1 = g2 ∧ i = j
  | [], _, _, _, _, h, h' => PutIs.one h h'
  | _ :: rs, _, _, _, _, ⟨_, _, h1, h2⟩, ⟨_, _, h3, h4⟩ => by
    obtain ⟨rfl, rfl⟩ := RulesG.one h1 h3
    exact h2.one h4

/-- A point as all that are put are: a verdict, or a look at points ahead of it. -/
def PtGood (p : Pt) (i : Nat) : Prop := p.op = 0 ∨ (0 < p.op ∧ p.verdict = 0 ∧ ∃ y n : Nat, p.yes = y ∧ p.no = n ∧ y < i ∧ n < i)
def Good (g : List Pt) : Prop := ∀ (i : Nat) (p : Pt), g[i]? = some p → PtGood p i
theorem Good.nil : Good [] := fun i p h => by simp at h
theorem Good.ahead {g : List Pt} (h : Good g) : Ahead g := fun i p hp ho => by
  rcases h i p hp with h0 | ⟨_, _, h⟩
  · omega
  · exact h
theorem Good.put {g g' : List Pt} {x : Pt} {i : Nat} (h : Good g) (hp : PutIs g x g' i) (hx : PtGood x g.length) : Good g' := by
  rcases hp with ⟨rfl, -, -⟩ | ⟨rfl, rfl, -⟩
  · exact h
  · intro j p hj
    by_cases e : j < g.length
    · rw [List.getElem?_append_left e] at hj
      exact h j p hj
    · rw [List.getElem?_append_right (by omega)] at hj
      have e2 : j - g.length = 0 := by have := (List.getElem?_eq_some_iff.1 hj).1; simp at this; omega
      rw [e2] at hj
      simp at hj
      subst hj
      obtain rfl : j = g.length := by omega
      exact hx
theorem Good.look {g g' : List Pt} {f m o v : Int} {y n i : Nat} (h : Good g) (hl : LookIs g f m o v y n g' i) (ho : 0 < o) (hy : y < g.length) (hn : n < g.length) : Good g' := by
  rcases hl with ⟨-, rfl, rfl⟩ | ⟨-, hp⟩
  · exact h
  · exact h.put hp (.inr ⟨ho, rfl, y, n, rfl, rfl, hy, hn⟩)
theorem Good.test {g g' : List Pt} {t : Ts} {y n i : Nat} (h : Good g) (hl : TestIs g t y n g' i) (hy : y < g.length) (hn : n < g.length) : Good g' := by
  rcases hl with ⟨-, hl⟩ | ⟨-, -, hl⟩ | ⟨-, -, -, rfl, rfl⟩ | ⟨-, -, -, hl⟩
  · exact h.look hl (by omega) hy hn
  · exact h.look hl (by omega) hy hn
  · exact h
  · exact h.look hl (by omega) hn hy

/-- To which points something comes: one point's marks. -/
def useAt (g : List Pt) (us : List Bool) (k : Nat) : List Bool := match g[k]? with
  | some p => if us.getD k false = true ∧ p.op ≠ 0 then (us.set p.yes.toNat true).set p.no.toNat true else us
  | none => us
/-- All marks, from a place down. -/
def useDown (g : List Pt) : Nat → List Bool → List Bool
  | 0, us => us
  | k + 1, us => useDown g k (useAt g us k)
def usedOf (g : List Pt) (at_ : Nat) : List Bool := useDown g (at_ + 1) ((List.replicate g.length false).set at_ true)
theorem useAt_len (g : List Pt) (us : List Bool) (k : Nat) : (useAt g us k).length = us.length := by
  unfold useAt
  split
  · split <;> simp
  · rfl
theorem useDown_len (g : List Pt) : ∀ (k : Nat) (us : List Bool), (useDown g k us).length = us.length
  | 0, _ => rfl
  | k + 1, us => by rw [useDown, useDown_len g k, useAt_len]
theorem useAt_skip {g : List Pt} {us : List Bool} {k : Nat} {p : Pt} (hp : g[k]? = some p) (h : us[k]? = some false ∨ p.op = 0) : useAt g us k = us := by
  unfold useAt
  rw [hp]
  simp only []
  rw [if_neg]
  rintro ⟨a, b⟩
  rcases h with h | h
  · rw [List.getD_eq_getElem?_getD, h] at a; cases a
  · exact b h
theorem useAt_mark {g : List Pt} {us : List Bool} {k y n : Nat} {p : Pt} (hp : g[k]? = some p) (h : us[k]? = some true) (h0 : p.op ≠ 0) (hy : p.yes = y) (hn : p.no = n) : useAt g us k = (us.set y true).set n true := by
  unfold useAt
  rw [hp]
  simp only []
  rw [if_pos ⟨by rw [List.getD_eq_getElem?_getD, h]; rfl, h0⟩, hy, hn]
  rfl
/-- Marks stay, and none lies behind. -/
theorem useAt_keep {g : List Pt} (hg : Good g) {us : List Bool} {k j : Nat} (hj : k ≤ j) : (useAt g us k)[j]? = us[j]? := by
  unfold useAt
  split
  · rename_i p hp
    split
    · rename_i h
      rcases hg k p hp with h0 | ⟨_, _, y, n, hy, hn, hyk, hnk⟩
      · exact absurd h0 h.2
      · rw [hy, hn]
        simp only [Int.toNat_natCast]
        rw [List.getElem?_set_ne (by omega), List.getElem?_set_ne (by omega)]
    · rfl
  · rfl
theorem useDown_keep {g : List Pt} (hg : Good g) : ∀ (k : Nat) (us : List Bool) (j : Nat), k ≤ j + 1 → (useDown g k us)[j]? = us[j]?
  | 0, _, _, _ => rfl
  | k + 1, us, j, h => by
    rw [useDown, useDown_keep hg k _ j (by omega), useAt_keep hg (by omega)]
theorem usedOf_len (g : List Pt) (at_ : Nat) : (usedOf g at_).length = g.length := by unfold usedOf; rw [useDown_len]; simp
theorem usedOf_at {g : List Pt} (hg : Good g) {at_ : Nat} (h : at_ < g.length) : (usedOf g at_)[at_]? = some true := by
  unfold usedOf
  rw [useDown_keep hg _ _ _ (by omega), List.getElem?_set_self (by simpa using h)]
theorem usedOf_far {g : List Pt} (hg : Good g) {at_ j : Nat} (hj : at_ < j) (hl : j < g.length) : (usedOf g at_)[j]? = some false := by
  unfold usedOf
  rw [useDown_keep hg _ _ _ (by omega), List.getElem?_set_ne (by omega)]
  simp [hl]
theorem useAt_true {g : List Pt} {us : List Bool} {k j : Nat} (h : us[j]? = some true) : (useAt g us k)[j]? = some true := by
  unfold useAt
  split
  · split
    · exact set_true_keep (set_true_keep h)
    · exact h
  · exact h
theorem useDown_true {g : List Pt} : ∀ (k : Nat) (us : List Bool) (j : Nat), us[j]? = some true → (useDown g k us)[j]? = some true
  | 0, _, _, h => h
  | k + 1, us, j, h => useDown_true k _ j (useAt_true h)
theorem useDown_next {g : List Pt} (hg : Good g) : ∀ (k : Nat) (us : List Bool) (i : Nat) (p : Pt), us.length = g.length → i < k → (useDown g k us)[i]? = some true → g[i]? = some p → p.op ≠ 0 → ∃ y n : Nat, p.yes = y ∧ p.no = n ∧ y < i ∧ n < i ∧ (useDown g k us)[y]? = some true ∧ (useDown g k us)[n]? = some true
  | 0, _, _, _, _, h, _, _, _ => absurd h (by omega)
  | k + 1, us, i, p, hl, hi, hu, hp, h0 => by
    rw [useDown] at hu ⊢
    by_cases e : i = k
    · subst e
      rw [useDown_keep hg i _ i (by omega), useAt_keep hg (Nat.le_refl _)] at hu
      rcases hg i p hp with h0' | ⟨_, _, y, n, hy, hn, hyk, hnk⟩
      · exact absurd h0' h0
      · have hm := useAt_mark hp hu h0 hy hn
        have hk := (List.getElem?_eq_some_iff.1 hp).1
        refine ⟨y, n, hy, hn, hyk, hnk, useDown_true _ _ _ ?_, useDown_true _ _ _ ?_⟩
        · rw [hm]; exact set_true_keep (by rw [List.getElem?_set_self (by omega)])
        · rw [hm]; rw [List.getElem?_set_self (by simp; omega)]
    · exact useDown_next hg k _ i p (by rw [useAt_len]; exact hl) (by omega) hu hp h0
theorem usedOf_next {g : List Pt} (hg : Good g) {at_ i : Nat} {p : Pt} (hi : i ≤ at_) (hu : (usedOf g at_)[i]? = some true) (hp : g[i]? = some p) (h0 : p.op ≠ 0) : ∃ y n : Nat, p.yes = y ∧ p.no = n ∧ y < i ∧ n < i ∧ (usedOf g at_)[y]? = some true ∧ (usedOf g at_)[n]? = some true :=
  useDown_next hg _ _ i p (by simp) (by omega) hu hp h0

/-- One point is put anew. -/
def StepT (g : List Pt) (us : List Bool) (k : Nat) (gs : List Pt) (ts : List Nat) (gs' : List Pt) (ts' : List Nat) : Prop :=
  (us[k]? ≠ some true ∧ gs' = gs ∧ ts' = ts) ∨
  (us[k]? = some true ∧ ∃ p i, g[k]? = some p ∧ ts' = ts.set k i ∧
    ((p.op = 0 ∧ PutIs gs p gs' i) ∨ (p.op ≠ 0 ∧ LookIs gs p.field p.mask p.op p.value (ts.getD p.yes.toNat 0) (ts.getD p.no.toNat 0) gs' i)))
theorem StepT.one {g : List Pt} {us : List Bool} {k : Nat} {gs : List Pt} {ts : List Nat} {g1 g2 : List Pt} {t1 t2 : List Nat} (h : StepT g us k gs ts g1 t1) (h' : StepT g us k gs ts g2 t2) : g1 = g2 ∧ t1 = t2 := by
  rcases h with ⟨a, rfl, rfl⟩ | ⟨a, p, i, hp, rfl, h⟩ <;> rcases h' with ⟨b, rfl, rfl⟩ | ⟨b, p', i', hp', rfl, h'⟩
  · exact ⟨rfl, rfl⟩
  · exact absurd b a
  · exact absurd a b
  · rw [hp] at hp'
    cases hp'
    rcases h with ⟨c, h⟩ | ⟨c, h⟩ <;> rcases h' with ⟨d, h'⟩ | ⟨d, h'⟩
    · obtain ⟨rfl, rfl⟩ := h.one h'; exact ⟨rfl, rfl⟩
    · exact absurd c d
    · exact absurd d c
    · obtain ⟨rfl, rfl⟩ := h.one h'; exact ⟨rfl, rfl⟩
/-- The first points are put anew. -/
def TrimTo (g : List Pt) (us : List Bool) : Nat → List Pt → List Nat → Prop
  | 0, gs, ts => gs = [] ∧ ts = List.replicate g.length 0
  | k + 1, gs, ts => ∃ gs0 ts0, TrimTo g us k gs0 ts0 ∧ StepT g us k gs0 ts0 gs ts
theorem TrimTo.one {g : List Pt} {us : List Bool} : ∀ {k : Nat} {g1 g2 : List Pt} {t1 t2 : List Nat}, TrimTo g us k g1 t1 → TrimTo g us k g2 t2 → g1 = g2 ∧ t1 = t2
  | 0, _, _, _, _, ⟨rfl, rfl⟩, ⟨rfl, rfl⟩ => ⟨rfl, rfl⟩
  | k + 1, _, _, _, _, ⟨_, _, h1, h2⟩, ⟨_, _, h3, h4⟩ => by
    obtain ⟨rfl, rfl⟩ := TrimTo.one h1 h3
    exact h2.one h4
theorem TrimTo.far {g : List Pt} (hg : Good g) {at_ : Nat} {gs : List Pt} {ts : List Nat} (h : TrimTo g (usedOf g at_) (at_ + 1) gs ts) : ∀ k, at_ + 1 ≤ k → k ≤ g.length → TrimTo g (usedOf g at_) k gs ts
  | 0, hk, _ => absurd hk (by omega)
  | k + 1, hk, hl => by
    by_cases e : k = at_
    · subst e; exact h
    · exact ⟨gs, ts, TrimTo.far hg h k (by omega) (by omega), .inl ⟨by rw [usedOf_far hg (by omega) (by omega)]; simp, rfl, rfl⟩⟩
/-- A graph from a place on, trimmed. -/
inductive TrimIs : List Pt → Nat → List Pt → Prop
  | done {g gs : List Pt} {at_ t : Nat} {ts : List Nat} (h : TrimTo g (usedOf g at_) (at_ + 1) gs ts) (ht : ts[at_]? = some t) (hl : t + 1 = gs.length) : TrimIs g at_ gs
  | more {g gs g' : List Pt} {at_ t : Nat} {ts : List Nat} (h : TrimTo g (usedOf g at_) (at_ + 1) gs ts) (ht : ts[at_]? = some t) (hl : t + 1 ≠ gs.length) (r : TrimIs gs t g') : TrimIs g at_ g'
theorem TrimIs.one {g a : List Pt} {at_ : Nat} (h : TrimIs g at_ a) : ∀ {b : List Pt}, TrimIs g at_ b → a = b := by
  induction h with
  | done h ht hl =>
    intro b h'
    cases h' with
    | done h2 _ _ => exact (h.one h2).1
    | more h2 ht2 hl2 _ =>
      obtain ⟨rfl, rfl⟩ := h.one h2
      rw [ht] at ht2
      cases ht2
      exact absurd hl hl2
  | more h ht hl r ih =>
    intro b h'
    cases h' with
    | done h2 ht2 hl2 =>
      obtain ⟨rfl, rfl⟩ := h.one h2
      rw [ht] at ht2
      cases ht2
      exact absurd hl2 hl
    | more h2 ht2 _ r2 =>
      obtain ⟨rfl, rfl⟩ := h.one h2
      rw [ht] at ht2
      cases ht2
      exact ih r2
/-- The graph of a policy. -/
def MadeG (p : Pol) (g : List Pt) : Prop := ∃ g0 i0, RulesG p.els p.rules g0 i0 ∧ TrimIs g0 i0 g
theorem MadeG.one {p : Pol} {a b : List Pt} (h : MadeG p a) (h' : MadeG p b) : a = b := by
  obtain ⟨g, i, h1, h2⟩ := h
  obtain ⟨g', i', h3, h4⟩ := h'
  obtain ⟨rfl, rfl⟩ := h1.one h3
  exact h2.one h4
def GraphIs (p : Pol) (g : List Pt) : Prop := (polOkB p = false ∧ g = []) ∨ (polOkB p = true ∧ MadeG p g)
theorem GraphIs.one {p : Pol} {a b : List Pt} (h : GraphIs p a) (h' : GraphIs p b) : a = b := by
  rcases h with ⟨c, rfl⟩ | ⟨c, h⟩ <;> rcases h' with ⟨d, rfl⟩ | ⟨d, h'⟩
  · rfl
  · rw [c] at d; cases d
  · rw [c] at d; cases d
  · exact h.one h'
/-- What is put anew stays good. -/
theorem StepT.good {g : List Pt} {at_ k : Nat} {gs gs' : List Pt} {ts ts' : List Nat} (hg : Good g) (hk : k ≤ at_) (h : StepT g (usedOf g at_) k gs ts gs' ts') (hgs : Good gs) (hl : ts.length = g.length)
    (hto : ∀ j : Nat, j < k → (usedOf g at_)[j]? = some true → ∃ t, ts[j]? = some t ∧ t < gs.length) :
    Good gs' ∧ ts'.length = g.length ∧ gs.length ≤ gs'.length ∧ gs'.length ≤ gs.length + 1 ∧ ∀ j : Nat, j < k + 1 → (usedOf g at_)[j]? = some true → ∃ t, ts'[j]? = some t ∧ t < gs'.length := by
  rcases h with ⟨a, rfl, rfl⟩ | ⟨a, p, i, hp, rfl, h⟩
  · refine ⟨hgs, hl, Nat.le_refl _, by omega, fun j hj hu => ?_⟩
    by_cases e : j = k
    · subst e; exact absurd hu a
    · exact hto j (by omega) hu
  · have hkl := (List.getElem?_eq_some_iff.1 hp).1
    have key : Good gs' ∧ i < gs'.length ∧ gs.length ≤ gs'.length ∧ gs'.length ≤ gs.length + 1 := by
      rcases h with ⟨h0, h⟩ | ⟨h0, h⟩
      · obtain ⟨-, a1, a2, a3, -⟩ := h.at_
        exact ⟨hgs.put h (.inl h0), a1, a2, a3⟩
      · obtain ⟨y, n, hy, hn, hyk, hnk, uy, un⟩ := usedOf_next hg hk a hp h0
        obtain ⟨ty, hty, hty2⟩ := hto y hyk uy
        obtain ⟨tn, htn, htn2⟩ := hto n hnk un
        have ey : ts.getD p.yes.toNat 0 = ty := by rw [hy, Int.toNat_natCast, List.getD_eq_getElem?_getD, hty]; rfl
        have en : ts.getD p.no.toNat 0 = tn := by rw [hn, Int.toNat_natCast, List.getD_eq_getElem?_getD, htn]; rfl
        rw [ey, en] at h
        have hop : 0 < p.op := by
          rcases hg k p hp with h0' | ⟨h0', _⟩
          · exact absurd h0' h0
          · exact h0'
        obtain ⟨-, b1, b2, b3⟩ := hgs.ahead.look h hty2 htn2
        exact ⟨hgs.look h hop hty2 htn2, b1, b2, b3⟩
    obtain ⟨k1, k2, k3, k4⟩ := key
    refine ⟨k1, by simp [hl], k3, k4, fun j hj hu => ?_⟩
    by_cases e : j = k
    · subst e; exact ⟨i, List.getElem?_set_self (by omega), k2⟩
    · obtain ⟨t, h1, h2⟩ := hto j (by omega) hu
      exact ⟨t, by rw [List.getElem?_set_ne (fun e2 => e e2.symm)]; exact h1, by omega⟩
end Go.Proofs.YtkiacbfpnidjlaaGreatDoor

-- spec's graphs of policies, exactly: l4Rule, l4Make.
namespace Go.Proofs.YtkiacbfpnidjlaaGreatDoor
open Go.RowKit
set_option linter.unusedSimpArgs false
set_option linter.unusedVariables false

end Go.Proofs.YtkiacbfpnidjlaaGreatDoor

-- impl's lists of points: a map from points to their places.
namespace Go.Proofs.YtkiacbfpnidjlaaGreatDoor
open Go.RowKit Go.Maps
set_option linter.unusedSimpArgs false
set_option linter.unusedVariables false

theorem two_few : 2 + 1 ≤ 10000 := by omega
theorem pt_zero (w : World) : (zeroValue 3).run Tryz.prog w = .ok (.int .i64 0) w := by kernel_rfl
def ptV (p : Pt) : Value := .agg #[.int .i64 p.verdict, .int .i64 p.field, .int .i64 p.mask, .int .i64 p.op, .int .i64 p.value, .int .i64 p.yes, .int .i64 p.no]
theorem ptV_inj {p q : Pt} (h : ptV p = ptV q) : p = q := by
  simp only [ptV, Value.agg.injEq, Array.mk.injEq, List.cons.injEq, Value.int.injEq, true_and, and_true] at h
  exact Pt.ext_iff'.2 h
/-- All numbers are words. -/
def Small (p : Pt) : Prop := (0 ≤ p.verdict ∧ p.verdict ≤ 4294967295) ∧ (0 ≤ p.field ∧ p.field ≤ 4294967295) ∧ (0 ≤ p.mask ∧ p.mask ≤ 4294967295) ∧ (0 ≤ p.op ∧ p.op ≤ 4294967295) ∧ (0 ≤ p.value ∧ p.value ≤ 4294967295) ∧ (0 ≤ p.yes ∧ p.yes ≤ 4294967295) ∧ (0 ≤ p.no ∧ p.no ≤ 4294967295)
theorem wf_word {n : Int} (h : 0 ≤ n ∧ n ≤ 4294967295) : (Lit.int .i64 n).wf = true := by
  simp [Lit.wf, IntKind.min, IntKind.max, IntKind.signed, IntKind.bits]
  omega
end Go.Proofs.YtkiacbfpnidjlaaGreatDoor

-- impl's lists of points: newPointList, put.
namespace Go.Proofs.YtkiacbfpnidjlaaGreatDoor
open Go.RowKit Go.Maps
set_option linter.unusedSimpArgs false
set_option linter.unusedVariables false

theorem pdrewN (w : World) (m : Nat) : Below w.heap.size w (w.drewN m) := ⟨rfl, rfl, rfl, Nat.le_refl _, fun _ _ => rfl⟩
end Go.Proofs.YtkiacbfpnidjlaaGreatDoor

-- impl's lists of points: putLook, lookOf, putTest, putRule.
namespace Go.Proofs.YtkiacbfpnidjlaaGreatDoor
open Go.RowKit Go.Maps
set_option linter.unusedSimpArgs false
set_option linter.unusedVariables false

def isW (n : Int) : Prop := 0 ≤ n ∧ n ≤ 4294967295
theorem small_look {f m o v : Int} {y n : Nat} (hf : isW f) (hm : isW m) (ho : isW o) (hv : isW v) (hy : y ≤ 100000) (hn : n ≤ 100000) : Small ⟨0, f, m, o, v, y, n⟩ := by
  unfold isW at *
  refine ⟨?_, hf, hm, ho, hv, ?_, ?_⟩ <;> dsimp only <;> omega
theorem small_verd {v : Int} (hv : isW v) : Small ⟨v, 0, 0, 0, 0, 0, 0⟩ := by
  refine ⟨hv, ?_, ?_, ?_, ?_, ?_, ?_⟩ <;> dsimp only <;> omega

/-- A look is made and put. -/
theorem two_cells (w : World) (a b : Int) : let W := w.alloc (.cells #[.int .i64 a, .int .i64 b] 3)
    W.cell? ⟨w.heap.size, 0, none⟩ = some (.int .i64 a) ∧ W.cell? ⟨w.heap.size, 1, none⟩ = some (.int .i64 b) ∧ w.heap.size < W.heap.size ∧ Below w.heap.size w W :=
  ⟨(Blk.new w _ _).cell 0, (Blk.new w _ _).cell 1, by simp, by go_grown⟩

end Go.Proofs.YtkiacbfpnidjlaaGreatDoor
