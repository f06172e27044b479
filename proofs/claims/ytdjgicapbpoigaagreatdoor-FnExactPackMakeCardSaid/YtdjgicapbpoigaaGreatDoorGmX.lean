/- Joined texts: GmP GmR PList Put PutR. -/
import Derived.Test.YtdjgicapbpoigaaGreatDoorMak
import Derived.Test.YtdjgicapbpoigaaGreatDoorKit
import Derived.Test.YtdjgicapbpoigaaGreatDoorFrame
import Derived.Maps.OwnSet
import Derived.DeepKeys4
import Derived.Deep.RegionHeld3
import Derived.Deep.QuietTactic
import Derived.BigQuiet
import Derived.Deep.CutBlock
import Derived.Deep.RegionLaw
namespace Go.Proofs.YtdjgicapbpoigaaGreatDoor
open Go.RowKit
set_option linter.unusedSimpArgs false
set_option linter.unusedVariables false

theorem TestIs.one {g g1 g2 : List Pt} {t : Ts} {y n i j : Nat} (h : TestIs g t y n g1 i) (h' : TestIs g t y n g2 j) : g1 = g2 ∧ i = j := by
 rcases h with ⟨a, h⟩ | ⟨a, b, h⟩ | ⟨a, b, c, rfl, rfl⟩ | ⟨a, b, c, h⟩ <;> rcases h' with ⟨a', h'⟩ | ⟨a', b', h'⟩ | ⟨a', b', c', rfl, rfl⟩ | ⟨a', b', c', h'⟩
 all_goals first
   | exact h.one h'
   | exact ⟨rfl, rfl⟩
   | exact absurd a a'
   | exact absurd a' a
   | exact absurd b b'
   | exact absurd b' b
   | exact absurd c c'
   | exact absurd c' c
def TestsIs (g : List Pt) (on no : Nat) : List Ts → List Pt → Nat → Prop
 | [], g', i => g' = g ∧ i = on
 | t :: ts, g', i => ∃ g1 i1, TestsIs g on no ts g1 i1 ∧ TestIs g1 t i1 no g' i
theorem TestsIs.one {g : List Pt} {on no : Nat} : ∀ {ts : List Ts} {g1 g2 : List Pt} {i j : Nat}, TestsIs g on no ts g1 i → TestsIs g on no ts g2 j → g1 = g2 ∧ i = j
 | [], _, _, _, _, ⟨rfl, rfl⟩, ⟨rfl, rfl⟩ => ⟨rfl, rfl⟩
 | _ :: ts, _, _, _, _, ⟨_, _, h1, h2⟩, ⟨_, _, h3, h4⟩ => by
   obtain ⟨rfl, rfl⟩ := TestsIs.one h1 h3
   exact h2.one h4
def HighG (g : List Pt) (hi : Int) (on no : Nat) (g' : List Pt) (i : Nat) : Prop := (hi < 4294967295 ∧ LookIs g 0 4294967295 3 hi no on g' i) ∨ (¬ hi < 4294967295 ∧ g' = g ∧ i = on)
def LowG (g : List Pt) (lo : Int) (on no : Nat) (g' : List Pt) (i : Nat) : Prop := (0 < lo ∧ LookIs g 0 4294967295 3 (lo - 1) on no g' i) ∨ (¬ 0 < lo ∧ g' = g ∧ i = on)
theorem HighG.one {g g1 g2 : List Pt} {hi : Int} {on no i j : Nat} (h : HighG g hi on no g1 i) (h' : HighG g hi on no g2 j) : g1 = g2 ∧ i = j := by
 rcases h with ⟨a, h⟩ | ⟨a, rfl, rfl⟩ <;> rcases h' with ⟨b, h'⟩ | ⟨b, rfl, rfl⟩
 · exact h.one h'
 · exact absurd a b
 · exact absurd b a
 · exact ⟨rfl, rfl⟩
theorem LowG.one {g g1 g2 : List Pt} {lo : Int} {on no i j : Nat} (h : LowG g lo on no g1 i) (h' : LowG g lo on no g2 j) : g1 = g2 ∧ i = j := by
 rcases h with ⟨a, h⟩ | ⟨a, rfl, rfl⟩ <;> rcases h' with ⟨b, h'⟩ | ⟨b, rfl, rfl⟩
 · exact h.one h'
 · exact absurd a b
 · exact absurd b a
 · exact ⟨rfl, rfl⟩
def RangeG (g : List Pt) (lo hi : Int) (on no : Nat) (g' : List Pt) (i : Nat) : Prop :=
 (lo = hi ∧ LookIs g 0 4294967295 1 lo on no g' i) ∨ (lo ≠ hi ∧ ∃ g1 i1, HighG g hi on no g1 i1 ∧ LowG g1 lo i1 no g' i)
theorem RangeG.one {g g1 g2 : List Pt} {lo hi : Int} {on no i j : Nat} (h : RangeG g lo hi on no g1 i) (h' : RangeG g lo hi on no g2 j) : g1 = g2 ∧ i = j := by
 rcases h with ⟨a, h⟩ | ⟨a, x, y, h1, h2⟩ <;> rcases h' with ⟨b, h'⟩ | ⟨b, x', y', h1', h2'⟩
 · exact h.one h'
 · exact absurd a b
 · exact absurd b a
 · obtain ⟨rfl, rfl⟩ := h1.one h1'
   exact h2.one h2'
def RuleG (g : List Pt) (r : Rl) (no : Nat) (g' : List Pt) (i : Nat) : Prop :=
 ∃ g1 i1 g2 i2, PutIs g ⟨r.verdict, 0, 0, 0, 0, 0, 0⟩ g1 i1 ∧ TestsIs g1 i1 no r.tests g2 i2 ∧ RangeG g2 r.low r.high i2 no g' i
theorem RuleG.one {g g1 g2 : List Pt} {r : Rl} {no i j : Nat} (h : RuleG g r no g1 i) (h' : RuleG g r no g2 j) : g1 = g2 ∧ i = j := by
 obtain ⟨a1, a2, a3, a4, h1, h2, h3⟩ := h
 obtain ⟨b1, b2, b3, b4, k1, k2, k3⟩ := h'
 obtain ⟨rfl, rfl⟩ := h1.one k1
 obtain ⟨rfl, rfl⟩ := h2.one k2
 exact h3.one k3
def RulesG (els : Int) : List Rl → List Pt → Nat → Prop
 | [], g, i => PutIs [] ⟨els, 0, 0, 0, 0, 0, 0⟩ g i
 | r :: rs, g, i => ∃ g1 i1, RulesG els rs g1 i1 ∧ RuleG g1 r i1 g i
theorem RulesG.one {els : Int} : ∀ {rs : List Rl} {g1 g2 : List Pt} {i j : Nat}, RulesG els rs g1 i → RulesG els rs g2 j → g1 = g2 ∧ i = j
 | [], _, _, _, _, h, h' => PutIs.one h h'
 | _ :: rs, _, _, _, _, ⟨_, _, h1, h2⟩, ⟨_, _, h3, h4⟩ => by
   obtain ⟨rfl, rfl⟩ := RulesG.one h1 h3
   exact h2.one h4

def PtGood (p : Pt) (i : Nat) : Prop := p.op = 0 ∨ (0 < p.op ∧ p.verdict = 0 ∧ ∃ y n : Nat, p.yes = y ∧ p.no = n ∧ y < i ∧ n < i)
def Good (g : List Pt) : Prop := ∀ (i : Nat) (p : Pt), g[i]? = some p → PtGood p i
theorem Good.nil : Good [] := fun i p h => by simp at h
theorem Good.ahead {g : List Pt} (h : Good g) : Ahead g := fun i p hp ho => by
 rcases h i p hp with h0 | ⟨_, _, h⟩
 · omega
 · exact h
theorem Good.put {g g' : List Pt} {x : Pt} {i : Nat} (h : Good g) (hp : PutIs g x g' i) (hx : PtGood x g.length) : Good g' := by
 rcases hp with ⟨rfl, -, -⟩ | ⟨rfl, rfl, -⟩
 · exact h
 · intro j p hj
   by_cases e : j < g.length
   · rw [List.getElem?_append_left e] at hj
     exact h j p hj
   · rw [List.getElem?_append_right (by omega)] at hj
     have e2 : j - g.length = 0 := by have := (List.getElem?_eq_some_iff.1 hj).1; simp at this; omega
     rw [e2] at hj
     simp at hj
     subst hj
     obtain rfl : j = g.length := by omega
     exact hx
theorem Good.look {g g' : List Pt} {f m o v : Int} {y n i : Nat} (h : Good g) (hl : LookIs g f m o v y n g' i) (ho : 0 < o) (hy : y < g.length) (hn : n < g.length) : Good g' := by
 rcases hl with ⟨-, rfl, rfl⟩ | ⟨-, hp⟩
 · exact h
 · exact h.put hp (.inr ⟨ho, rfl, y, n, rfl, rfl, hy, hn⟩)
theorem Good.test {g g' : List Pt} {t : Ts} {y n i : Nat} (h : Good g) (hl : TestIs g t y n g' i) (hy : y < g.length) (hn : n < g.length) : Good g' := by
 rcases hl with ⟨-, hl⟩ | ⟨-, -, hl⟩ | ⟨-, -, -, rfl, rfl⟩ | ⟨-, -, -, hl⟩
 · exact h.look hl (by omega) hy hn
 · exact h.look hl (by omega) hy hn
 · exact h
 · exact h.look hl (by omega) hn hy

def useAt (g : List Pt) (us : List Bool) (k : Nat) : List Bool := match g[k]? with
 | some p => if us.getD k false = true ∧ p.op ≠ 0 then (us.set p.yes.toNat true).set p.no.toNat true else us
 | none => us
def useDown (g : List Pt) : Nat → List Bool → List Bool
 | 0, us => us
 | k + 1, us => useDown g k (useAt g us k)
def usedOf (g : List Pt) (at_ : Nat) : List Bool := useDown g (at_ + 1) ((List.replicate g.length false).set at_ true)
theorem useAt_len (g : List Pt) (us : List Bool) (k : Nat) : (useAt g us k).length = us.length := by
 unfold useAt
 split
 · split <;> simp
 · rfl
theorem useDown_len (g : List Pt) : ∀ (k : Nat) (us : List Bool), (useDown g k us).length = us.length
 | 0, _ => rfl
 | k + 1, us => by rw [useDown, useDown_len g k, useAt_len]
theorem useAt_skip {g : List Pt} {us : List Bool} {k : Nat} {p : Pt} (hp : g[k]? = some p) (h : us[k]? = some false ∨ p.op = 0) : useAt g us k = us := by
 unfold useAt
 rw [hp]
 simp only []
 rw [if_neg]
 rintro ⟨a, b⟩
 rcases h with h | h
 · rw [List.getD_eq_getElem?_getD, h] at a; cases a
 · exact b h
theorem useAt_mark {g : List Pt} {us : List Bool} {k y n : Nat} {p : Pt} (hp : g[k]? = some p) (h : us[k]? = some true) (h0 : p.op ≠ 0) (hy : p.yes = y) (hn : p.no = n) : useAt g us k = (us.set y true).set n true := by
 unfold useAt
 rw [hp]
 simp only []
 rw [if_pos ⟨by rw [List.getD_eq_getElem?_getD, h]; rfl, h0⟩, hy, hn]
 rfl
theorem useAt_keep {g : List Pt} (hg : Good g) {us : List Bool} {k j : Nat} (hj : k ≤ j) : (useAt g us k)[j]? = us[j]? := by
 unfold useAt
 split
 · rename_i p hp
   split
   · rename_i h
     rcases hg k p hp with h0 | ⟨_, _, y, n, hy, hn, hyk, hnk⟩
     · exact absurd h0 h.2
     · rw [hy, hn]
       simp only [Int.toNat_natCast]
       rw [List.getElem?_set_ne (by omega), List.getElem?_set_ne (by omega)]
   · rfl
 · rfl
theorem useDown_keep {g : List Pt} (hg : Good g) : ∀ (k : Nat) (us : List Bool) (j : Nat), k ≤ j + 1 → (useDown g k us)[j]? = us[j]?
 | 0, _, _, _ => rfl
 | k + 1, us, j, h => by
   rw [useDown, useDown_keep hg k _ j (by omega), useAt_keep hg (by omega)]
theorem usedOf_len (g : List Pt) (at_ : Nat) : (usedOf g at_).length = g.length := by unfold usedOf; rw [useDown_len]; simp
theorem usedOf_at {g : List Pt} (hg : Good g) {at_ : Nat} (h : at_ < g.length) : (usedOf g at_)[at_]? = some true := by
 unfold usedOf
 rw [useDown_keep hg _ _ _ (by omega), List.getElem?_set_self (by simpa using h)]
theorem usedOf_far {g : List Pt} (hg : Good g) {at_ j : Nat} (hj : at_ < j) (hl : j < g.length) : (usedOf g at_)[j]? = some false := by
 unfold usedOf
 rw [useDown_keep hg _ _ _ (by omega), List.getElem?_set_ne (by omega)]
 simp [hl]
theorem useAt_true {g : List Pt} {us : List Bool} {k j : Nat} (h : us[j]? = some true) : (useAt g us k)[j]? = some true := by
 unfold useAt
 split
 · split
   · exact set_true_keep (set_true_keep h)
   · exact h
 · exact h
theorem useDown_true {g : List Pt} : ∀ (k : Nat) (us : List Bool) (j : Nat), us[j]? = some true → (useDown g k us)[j]? = some true
 | 0, _, _, h => h
 | k + 1, us, j, h => useDown_true k _ j (useAt_true h)
theorem useDown_next {g : List Pt} (hg : Good g) : ∀ (k : Nat) (us : List Bool) (i : Nat) (p : Pt), us.length = g.length → i < k → (useDown g k us)[i]? = some true → g[i]? = some p → p.op ≠ 0 → ∃ y n : Nat, p.yes = y ∧ p.no = n ∧ y < i ∧ n < i ∧ (useDown g k us)[y]? = some true ∧ (useDown g k us)[n]? = some true
 | 0, _, _, _, _, h, _, _, _ => absurd h (by omega)
 | k + 1, us, i, p, hl, hi, hu, hp, h0 => by
   rw [useDown] at hu ⊢
   by_cases e : i = k
   · subst e
     rw [useDown_keep hg i _ i (by omega), useAt_keep hg (Nat.le_refl _)] at hu
     rcases hg i p hp with h0' | ⟨_, _, y, n, hy, hn, hyk, hnk⟩
     · exact absurd h0' h0
     · have hm := useAt_mark hp hu h0 hy hn
       have hk := (List.getElem?_eq_some_iff.1 hp).1
       refine ⟨y, n, hy, hn, hyk, hnk, useDown_true _ _ _ ?_, useDown_true _ _ _ ?_⟩
       · rw [hm]; exact set_true_keep (by rw [List.getElem?_set_self (by omega)])
       · rw [hm]; rw [List.getElem?_set_self (by simp; omega)]
   · exact useDown_next hg k _ i p (by rw [useAt_len]; exact hl) (by omega) hu hp h0
theorem usedOf_next {g : List Pt} (hg : Good g) {at_ i : Nat} {p : Pt} (hi : i ≤ at_) (hu : (usedOf g at_)[i]? = some true) (hp : g[i]? = some p) (h0 : p.op ≠ 0) : ∃ y n : Nat, p.yes = y ∧ p.no = n ∧ y < i ∧ n < i ∧ (usedOf g at_)[y]? = some true ∧ (usedOf g at_)[n]? = some true :=
 useDown_next hg _ _ i p (by simp) (by omega) hu hp h0

def StepT (g : List Pt) (us : List Bool) (k : Nat) (gs : List Pt) (ts : List Nat) (gs' : List Pt) (ts' : List Nat) : Prop :=
 (us[k]? ≠ some true ∧ gs' = gs ∧ ts' = ts) ∨
 (us[k]? = some true ∧ ∃ p i, g[k]? = some p ∧ ts' = ts.set k i ∧
   ((p.op = 0 ∧ PutIs gs p gs' i) ∨ (p.op ≠ 0 ∧ LookIs gs p.field p.mask p.op p.value (ts.getD p.yes.toNat 0) (ts.getD p.no.toNat 0) gs' i)))
theorem StepT.one {g : List Pt} {us : List Bool} {k : Nat} {gs : List Pt} {ts : List Nat} {g1 g2 : List Pt} {t1 t2 : List Nat} (h : StepT g us k gs ts g1 t1) (h' : StepT g us k gs ts g2 t2) : g1 = g2 ∧ t1 = t2 := by
 rcases h with ⟨a, rfl, rfl⟩ | ⟨a, p, i, hp, rfl, h⟩ <;> rcases h' with ⟨b, rfl, rfl⟩ | ⟨b, p', i', hp', rfl, h'⟩
 · exact ⟨rfl, rfl⟩
 · exact absurd b a
 · exact absurd a b
 · rw [hp] at hp'
   cases hp'
   rcases h with ⟨c, h⟩ | ⟨c, h⟩ <;> rcases h' with ⟨d, h'⟩ | ⟨d, h'⟩
   · obtain ⟨rfl, rfl⟩ := h.one h'; exact ⟨rfl, rfl⟩
   · exact absurd c d
   · exact absurd d c
   · obtain ⟨rfl, rfl⟩ := h.one h'; exact ⟨rfl, rfl⟩
def TrimTo (g : List Pt) (us : List Bool) : Nat → List Pt → List Nat → Prop
 | 0, gs, ts => gs = [] ∧ ts = List.replicate g.length 0
 | k + 1, gs, ts => ∃ gs0 ts0, TrimTo g us k gs0 ts0 ∧ StepT g us k gs0 ts0 gs ts
theorem TrimTo.one {g : List Pt} {us : List Bool} : ∀ {k : Nat} {g1 g2 : List Pt} {t1 t2 : List Nat}, TrimTo g us k g1 t1 → TrimTo g us k g2 t2 → g1 = g2 ∧ t1 = t2
 | 0, _, _, _, _, ⟨rfl, rfl⟩, ⟨rfl, rfl⟩ => ⟨rfl, rfl⟩
 | k + 1, _, _, _, _, ⟨_, _, h1, h2⟩, ⟨_, _, h3, h4⟩ => by
   obtain ⟨rfl, rfl⟩ := TrimTo.one h1 h3
   exact h2.one h4
theorem TrimTo.far {g : List Pt} (hg : Good g) {at_ : Nat} {gs : List Pt} {ts : List Nat} (h : TrimTo g (usedOf g at_) (at_ + 1) gs ts) : ∀ k, at_ + 1 ≤ k → k ≤ g.length → TrimTo g (usedOf g at_) k gs ts
 | 0, hk, _ => absurd hk (by omega)
 | k + 1, hk, hl => by
   by_cases e : k = at_
   · subst e; exact h
   · exact ⟨gs, ts, TrimTo.far hg h k (by omega) (by omega), .inl ⟨by rw [usedOf_far hg (by omega) (by omega)]; simp, rfl, rfl⟩⟩
inductive TrimIs : List Pt → Nat → List Pt → Prop
 | done {g gs : List Pt} {at_ t : Nat} {ts : List Nat} (h : TrimTo g (usedOf g at_) (at_ + 1) gs ts) (ht : ts[at_]? = some t) (hl : t + 1 = gs.length) : TrimIs g at_ gs
 | more {g gs g' : List Pt} {at_ t : Nat} {ts : List Nat} (h : TrimTo g (usedOf g at_) (at_ + 1) gs ts) (ht : ts[at_]? = some t) (hl : t + 1 ≠ gs.length) (r : TrimIs gs t g') : TrimIs g at_ g'
theorem TrimIs.one {g a : List Pt} {at_ : Nat} (h : TrimIs g at_ a) : ∀ {b : List Pt}, TrimIs g at_ b → a = b := by
 induction h with
 | done h ht hl =>
   intro b h'
   cases h' with
   | done h2 _ _ => exact (h.one h2).1
   | more h2 ht2 hl2 _ =>
     obtain ⟨rfl, rfl⟩ := h.one h2
     rw [ht] at ht2
     cases ht2
     exact absurd hl hl2
 | more h ht hl r ih =>
   intro b h'
   cases h' with
   | done h2 ht2 hl2 =>
     obtain ⟨rfl, rfl⟩ := h.one h2
     rw [ht] at ht2
     cases ht2
     exact absurd hl2 hl
   | more h2 ht2 _ r2 =>
     obtain ⟨rfl, rfl⟩ := h.one h2
     rw [ht] at ht2
     cases ht2
     exact ih r2
def MadeG (p : Pol) (g : List Pt) : Prop := ∃ g0 i0, RulesG p.els p.rules g0 i0 ∧ TrimIs g0 i0 g
theorem MadeG.one {p : Pol} {a b : List Pt} (h : MadeG p a) (h' : MadeG p b) : a = b := by
 obtain ⟨g, i, h1, h2⟩ := h
 obtain ⟨g', i', h3, h4⟩ := h'
 obtain ⟨rfl, rfl⟩ := h1.one h3
 exact h2.one h4
def GraphIs (p : Pol) (g : List Pt) : Prop := (polOkB p = false ∧ g = []) ∨ (polOkB p = true ∧ MadeG p g)
theorem GraphIs.one {p : Pol} {a b : List Pt} (h : GraphIs p a) (h' : GraphIs p b) : a = b := by
 rcases h with ⟨c, rfl⟩ | ⟨c, h⟩ <;> rcases h' with ⟨d, rfl⟩ | ⟨d, h'⟩
 · rfl
 · rw [c] at d; cases d
 · rw [c] at d; cases d
 · exact h.one h'
theorem StepT.good {g : List Pt} {at_ k : Nat} {gs gs' : List Pt} {ts ts' : List Nat} (hg : Good g) (hk : k ≤ at_) (h : StepT g (usedOf g at_) k gs ts gs' ts') (hgs : Good gs) (hl : ts.length = g.length)
   (hto : ∀ j : Nat, j < k → (usedOf g at_)[j]? = some true → ∃ t, ts[j]? = some t ∧ t < gs.length) :
   Good gs' ∧ ts'.length = g.length ∧ gs.length ≤ gs'.length ∧ gs'.length ≤ gs.length + 1 ∧ ∀ j : Nat, j < k + 1 → (usedOf g at_)[j]? = some true → ∃ t, ts'[j]? = some t ∧ t < gs'.length := by
 rcases h with ⟨a, rfl, rfl⟩ | ⟨a, p, i, hp, rfl, h⟩
 · refine ⟨hgs, hl, Nat.le_refl _, by omega, fun j hj hu => ?_⟩
   by_cases e : j = k
   · subst e; exact absurd hu a
   · exact hto j (by omega) hu
 · have hkl := (List.getElem?_eq_some_iff.1 hp).1
   have key : Good gs' ∧ i < gs'.length ∧ gs.length ≤ gs'.length ∧ gs'.length ≤ gs.length + 1 := by
     rcases h with ⟨h0, h⟩ | ⟨h0, h⟩
     · obtain ⟨-, a1, a2, a3, -⟩ := h.at_
       exact ⟨hgs.put h (.inl h0), a1, a2, a3⟩
     · obtain ⟨y, n, hy, hn, hyk, hnk, uy, un⟩ := usedOf_next hg hk a hp h0
       obtain ⟨ty, hty, hty2⟩ := hto y hyk uy
       obtain ⟨tn, htn, htn2⟩ := hto n hnk un
       have ey : ts.getD p.yes.toNat 0 = ty := by rw [hy, Int.toNat_natCast, List.getD_eq_getElem?_getD, hty]; rfl
       have en : ts.getD p.no.toNat 0 = tn := by rw [hn, Int.toNat_natCast, List.getD_eq_getElem?_getD, htn]; rfl
       rw [ey, en] at h
       have hop : 0 < p.op := by
         rcases hg k p hp with h0' | ⟨h0', _⟩
         · exact absurd h0' h0
         · exact h0'
       obtain ⟨-, b1, b2, b3⟩ := hgs.ahead.look h hty2 htn2
       exact ⟨hgs.look h hop hty2 htn2, b1, b2, b3⟩
   obtain ⟨k1, k2, k3, k4⟩ := key
   refine ⟨k1, by simp [hl], k3, k4, fun j hj hu => ?_⟩
   by_cases e : j = k
   · subst e; exact ⟨i, List.getElem?_set_self (by omega), k2⟩
   · obtain ⟨t, h1, h2⟩ := hto j (by omega) hu
     exact ⟨t, by rw [List.getElem?_set_ne (fun e2 => e e2.symm)]; exact h1, by omega⟩
end Go.Proofs.YtdjgicapbpoigaaGreatDoor

namespace Go.Proofs.YtdjgicapbpoigaaGreatDoor
open Go.RowKit
set_option linter.unusedSimpArgs false
set_option linter.unusedVariables false

set_option maxHeartbeats 4000000 in
theorem gRule_any (w0 : World) (u : Value) (g : List Pt) (r : Rl) (tv : Value) (no : Nat) (w : World) (h : w.ownsRow w0.heap.size 151 7 u g.length (g.map Pt.cells).flatten) (hw0 : Below w0.heap.size w0 w) (hn : g.length ≤ 1000) (hA : Good g) (hno : no < g.length) (hok : ruleOkB r = true) (hT : Sl w0 4 tv (tsR r.tests)) :
   Calls Tryz.prog 106 #[u, .agg #[.int .i64 r.verdict, .int .i64 r.low, .int .i64 r.high, tv], .int .i64 no] w fun e w' =>
     ∃ v' g' i, e = .returned (.tuple #[v', .int .i64 (i : Nat)]) ∧ RuleG g r no g' i ∧ Good g' ∧ i < g'.length ∧ g.length ≤ g'.length ∧ g'.length ≤ g.length + 7 ∧ w'.ownsRow w0.heap.size 151 7 v' g'.length (g'.map Pt.cells).flatten ∧ PtFrame w0.heap.size w w' := by
 have hw := ruleOkB_words hok
 clear hok
 obtain ⟨vd, lo, hi, ts⟩ := r
 simp only at hT hw ⊢
 obtain ⟨⟨v0, v1⟩, ⟨l0, l1⟩, h1, n4, hts⟩ := hw
 obtain ⟨A, n, c, rfl, hSA⟩ := hT
 have htn : ts.length = n := by have := hSA.len; rwa [tsR_len] at this
 have hc := hSA.cap
 have hm := hSA.max
 unfold maxLen at hm
 rw [htn] at n4
 have hbs := hw0.size
 have hb0 : Below w.heap.size w (w.alloc (.cells #[.int .i64 vd, .int .i64 lo, .int .i64 hi, .slice A n c] 58)) := by go_grown
 have h2 := own_below h hb0
 have hz : w0.heap.size ≤ (w.alloc (.cells #[.int .i64 vd, .int .i64 lo, .int .i64 hi, .slice A n c] 58)).heap.size := by simp; omega
 have F0 : PtFrame w0.heap.size w (w.alloc (.cells #[.int .i64 vd, .int .i64 lo, .int .i64 hi, .slice A n c] 58)) := PtFrame.of_below hb0 hbs
 have B0 := Blk.new w 58 #[.int .i64 vd, .int .i64 lo, .int .i64 hi, .slice A n c]
 have HT := Lib.hid hts; have HO := Lib.hid h2; have HA := Lib.hid hA; clear hts h h2 hA hb0
 go_enter Tryz.func106, Tryz.ntmps106
 go_wp2_with fail
 refine (l4Point_any w0.heap.size u g ⟨vd, 0, 0, 0, 0, 0, 0⟩ _ HO.out hz (by omega)).mono ?_
 rintro e W1 ⟨u1, g1, a1, rfl, hP, ho1, hf1⟩
 obtain ⟨-, p2, p3, p4⟩ := HA.out.ahead.put hP (fun h => absurd h (Int.lt_irrefl 0))
 have p1 := HA.out.put hP (.inl rfl)
 have HPP := Lib.hid hP
 have F1 := F0.trans hf1
 have B1 := hf1.blk B0 (by decide)
 have b3 : W1.cell? ⟨w.heap.size, 3, none⟩ = some (.slice A n c) := B1.cell 3
 have HA1 := Lib.hid p1; have HO1 := Lib.hid ho1; clear p1 ho1 hP HA HO F0 hf1 B0 hz
 go_wp2
 go_loopw [0, 8, 9] (fun uu at_ i wr => ∃ (k : Nat) (z : Int) (g' : List Pt) (a : Nat), k ≤ n ∧ z + 1 = k ∧ i = .int .i64 z ∧ at_ = .int .i64 a ∧ Hid (TestsIs g1 a1 no (ts.drop k) g' a) ∧ Good g' ∧ a < g'.length ∧ g.length ≤ g'.length ∧ g'.length + k ≤ g.length + 1 + n ∧ wr.ownsRow w0.heap.size 151 7 uu g'.length (g'.map Pt.cells).flatten ∧ PtFrame w0.heap.size w wr ∧ Blk wr w.heap.size 58 #[.int .i64 vd, .int .i64 lo, .int .i64 hi, .slice A n c]) (fun _ _ i _ => (intOf i + 1).toNat)
 case atStart => exact ⟨n, (n : Int) - 1, g1, a1, by omega, by omega, by go_num, rfl, Lib.hid (by rw [List.drop_of_length_le (by omega)]; exact ⟨rfl, rfl⟩), HA1.out, p2, p3, by omega, HO1.out, F1, B1⟩
 case round =>
   obtain ⟨k, z, g', a, hk, hkz, rfl, rfl, HTI, hA, ha, hg1, hg2, ho, hf, hB⟩ := hrel
   clear HA1 HO1 F1 B1 b3 p2 p3 p4
   have HA := Lib.hid hA; have HO := Lib.hid ho; clear hA ho
   have b1 : wr.cell? ⟨w.heap.size, 1, none⟩ = some (.int .i64 lo) := hB.cell 1
   have b2 : wr.cell? ⟨w.heap.size, 2, none⟩ = some (.int .i64 hi) := hB.cell 2
   have b3 : wr.cell? ⟨w.heap.size, 3, none⟩ = some (.slice A n c) := hB.cell 3
   have hzw : w0.heap.size ≤ wr.heap.size := Nat.le_trans hbs (by have := hB.lt; omega)
   by_cases hge : 0 ≤ z
   · obtain ⟨m, rfl⟩ : ∃ m : Nat, z = m := ⟨z.toNat, by omega⟩
     have hmn : m < n := by omega
     obtain ⟨b, off, t, rfl, hab, hgp, hcell⟩ := ts_get hSA hmn
     obtain ⟨c0, c1, c2, c3⟩ := hcell wr _ (hw0.trans hf.below) hab
     obtain ⟨t1, t2, t3, t4⟩ := testOkB_words (HT.out t (List.mem_of_getElem? hgp))
     have HDR := Lib.hid (show ts.drop m = t :: ts.drop (m + 1) from (List.drop_eq_getElem_cons (by omega)).trans (by rw [(List.getElem?_eq_some_iff.1 hgp).2]))
     obtain rfl : k = m + 1 := by omega
     clear hcell hgp
     obtain ⟨f, m', op, v⟩ := t
     simp only at c0 c1 c2 c3 t1 t2 t3 t4
     go_wp2_with fail
     refine (l4Test_any w0.heap.size u0 g' ⟨f, m', op, v⟩ a no _ HO.out hzw (by omega) t3).mono ?_
     rintro e W2 ⟨u2, g2, a2, rfl, hP, ho2, hf2⟩
     obtain ⟨-, q2, q3, q4⟩ := HA.out.ahead.test hP ha (by omega)
     have q1 := HA.out.test hP ha (by omega)
     have HTN := Lib.hid (show TestsIs g1 a1 no (ts.drop m) g2 a2 by rw [HDR.out]; exact ⟨g', a, HTI.out, hP⟩)
     have F2 := hf.trans hf2
     have B2 := hf2.blk hB (by decide)
     have HA2 := Lib.hid q1; have HO2 := Lib.hid ho2; clear q1 ho2 hP HA HO hf hf2 hB
     go_wp2
     exact ⟨⟨m, (m : Int) - 1, g2, a2, by omega, by omega, by go_num, rfl, HTN, HA2.out, q2, by omega, by omega, HO2.out, F2, B2⟩, by simp [intOf]⟩
   · have HTT := Lib.hid (show TestsIs g1 a1 no ts g' a by have := HTI.out; rwa [show k = 0 by omega, List.drop_zero] at this)
     by_cases e1 : lo = hi
     · have hd : (lo == hi) = true := by simp [e1]
       go_wp2_with fail
       refine (l4Look_any w0.heap.size u0 g' 0 4294967295 1 _ a no _ HO.out hzw (by omega)).mono ?_
       rintro e W2 ⟨u2, g2, a2, rfl, hP, ho2, hf2⟩
       obtain ⟨-, q2, q3, q4⟩ := HA.out.ahead.look hP ha (by omega)
       have q1 := HA.out.look hP (by omega) ha (by omega)
       have HRG := Lib.hid (show RuleG g ⟨vd, lo, hi, ts⟩ no g2 a2 from ⟨g1, a1, g', a, HPP.out, HTT.out, .inl ⟨e1, by simp only; rw [e1]; exact hP⟩⟩)
       have HA2 := Lib.hid q1; have HO2 := Lib.hid ho2; clear q1 ho2 hP HA HO
       go_wp2
       go_ret2
       exact ⟨u2, g2, a2, rfl, HRG.out, HA2.out, q2, by omega, by omega, HO2.out, hf.trans hf2⟩
     · have hd : (lo == hi) = false := by simp [e1]
       rcases Decidable.em (hi < 4294967295) with e2 | e2
       case' inl =>
         go_wp2_with fail
         refine (l4Look_any w0.heap.size u0 g' 0 4294967295 3 hi no a _ HO.out hzw (by omega)).mono ?_
         rintro e W2 ⟨u2, g2, a2, rfl, hP, ho2, hf2⟩
         obtain ⟨-, q2, q3, q4⟩ := HA.out.ahead.look hP (by omega) ha
         have q1 := HA.out.look hP (by omega) (by omega) ha
         have HHI := Lib.hid (show ∃ gA aA, TestsIs g1 a1 no ts gA aA ∧ HighG gA hi aA no g2 a2 from ⟨g', a, HTT.out, .inl ⟨e2, hP⟩⟩)
         have F2 := hf.trans hf2
         have B2 := hf2.blk hB (by decide)
         have s1 : W2.cell? ⟨w.heap.size, 1, none⟩ = some (.int .i64 lo) := B2.cell 1
         have hz2 : w0.heap.size ≤ W2.heap.size := Nat.le_trans hzw hf2.below.size
         have HA2 := Lib.hid q1; have HO2 := Lib.hid ho2; clear q1 ho2 hP HA HO b1 b2 b3 hf hf2 hB B2
       case' inr =>
         have HHI := Lib.hid (show ∃ gA aA, TestsIs g1 a1 no ts gA aA ∧ HighG gA hi aA no g' a from ⟨g', a, HTT.out, .inr ⟨e2, rfl, rfl⟩⟩)
         clear HTT HTI
         obtain ⟨W2, hW2⟩ : ∃ W2, W2 = wr := ⟨_, rfl⟩
         subst hW2
         obtain ⟨u2, hu2⟩ : ∃ u2, u2 = u0 := ⟨_, rfl⟩
         subst hu2
         obtain ⟨a2, ha2⟩ : ∃ a2, a2 = a := ⟨_, rfl⟩
         subst ha2
         obtain ⟨g2, hg2e⟩ : ∃ g2, g2 = g' := ⟨_, rfl⟩
         subst hg2e
         have q2 := ha
         have q3 := Nat.le_refl g2.length
         have q4 : g2.length ≤ g2.length + 1 := by omega
         have F2 := hf
         have s1 := b1
         have hz2 := hzw
         have HA2 := HA; have HO2 := HO; clear HA HO
       all_goals
         by_cases e3 : 0 < lo
         · go_wp2_with fail
           refine (l4Look_any w0.heap.size u2 g2 0 4294967295 3 (lo - 1) a2 no _ HO2.out hz2 (by omega)).mono ?_
           rintro e W3 ⟨u3, g3, a3, rfl, hP3, ho3, hf3⟩
           obtain ⟨-, r2, r3, r4⟩ := HA2.out.ahead.look hP3 q2 (by omega)
           have r1 := HA2.out.look hP3 (by omega) q2 (by omega)
           have HRG := Lib.hid (show RuleG g ⟨vd, lo, hi, ts⟩ no g3 a3 by obtain ⟨gA, aA, x1, x2⟩ := HHI.out; exact ⟨g1, a1, gA, aA, HPP.out, x1, .inr ⟨e1, g2, a2, x2, .inl ⟨e3, hP3⟩⟩⟩)
           have HA3 := Lib.hid r1; have HO3 := Lib.hid ho3; clear r1 ho3 hP3
           go_wp2
           go_ret2
           exact ⟨u3, g3, a3, rfl, HRG.out, HA3.out, r2, by omega, by omega, HO3.out, F2.trans hf3⟩
         · have HRG := Lib.hid (show RuleG g ⟨vd, lo, hi, ts⟩ no g2 a2 by obtain ⟨gA, aA, x1, x2⟩ := HHI.out; exact ⟨g1, a1, gA, aA, HPP.out, x1, .inr ⟨e1, g2, a2, x2, .inr ⟨e3, rfl, rfl⟩⟩⟩)
           go_wp2
           go_ret2
           exact ⟨u2, g2, a2, rfl, HRG.out, HA2.out, q2, by omega, by omega, HO2.out, F2⟩

set_option maxHeartbeats 4000000 in
theorem gMake_any (p : Pol) (v : Value) (w : World) (hP : PolIs w p v) (hok : polShapeB p = true) :
   Calls Tryz.prog 70 #[v] w fun e w' =>
     ∃ v' g' i, e = .returned (.tuple #[v', .int .i64 (i : Nat)]) ∧ RulesG p.els p.rules g' i ∧ Good g' ∧ i < g'.length ∧ g'.length ≤ 57 ∧ w'.ownsRow w.heap.size 151 7 v' g'.length (g'.map Pt.cells).flatten ∧ PtFrame w.heap.size w w' := by
 obtain ⟨k8, hels, hrs⟩ := polShapeB_words hok
 clear hok
 obtain ⟨rs, els⟩ := p
 obtain ⟨rv, css, rfl, hS, hR⟩ := hP
 simp only at k8 hels hrs hR ⊢
 obtain ⟨A, n, c, rfl, hSA⟩ := hS
 have htn : rs.length = n := by rw [← hR.1]; exact hSA.len
 have hc := hSA.cap
 have hm := hSA.max
 unfold maxLen at hm
 rw [htn] at k8
 have B0 := Blk.new w 35 #[.slice A n c, .int .i64 els]
 have hb0 : Below w.heap.size w ((w.alloc (.cells #[.slice A n c, .int .i64 els] 35)).alloc (.cells #[] 151)) := by go_grown
 have F0 := PtFrame.of_below hb0 (Nat.le_refl _)
 have O0 : ((w.alloc (.cells #[.slice A n c, .int .i64 els] 35)).alloc (.cells #[] 151)).ownsRow w.heap.size 151 7 (.slice (some ⟨w.heap.size + 1, 0, none⟩) 0 0) 0 [] := by
   have := World.ownsRow_lit (base := w.heap.size) (e := 151) (size := 7) (w.alloc (.cells #[.slice A n c, .int .i64 els] 35)) #[] 0 (by simp) (by unfold maxLen; omega) rfl
   simpa using this
 have B1 := B0.below (show Below (w.alloc (.cells #[.slice A n c, .int .i64 els] 35)).heap.size _ ((w.alloc (.cells #[.slice A n c, .int .i64 els] 35)).alloc (.cells #[] 151)) by go_grown) (by simp)
 have HR := Lib.hid hrs; have HRA := Lib.hid hR; have HO := Lib.hid O0; clear hrs hR hb0 O0 B0
 go_enter Tryz.func70, Tryz.ntmps70
 go_wp2_with fail
 refine (l4Point_any w.heap.size _ [] ⟨els, 0, 0, 0, 0, 0, 0⟩ _ HO.out (by simp; omega) (by simp)).mono ?_
 rintro e W1 ⟨v1, g1, a1, rfl, hP, ho1, hf1⟩
 obtain ⟨-, p2, p3, p4⟩ := Ahead.nil.put hP (fun h => absurd h (Int.lt_irrefl 0))
 have p1 := Good.nil.put hP (.inl rfl)
 have HPP := Lib.hid hP
 have F1 := F0.trans hf1
 have B2 := hf1.blk B1 (by decide)
 have b0 : W1.cell? ⟨w.heap.size, 0, none⟩ = some (.slice A n c) := B2.cell 0
 have HA1 := Lib.hid p1; have HO1 := Lib.hid ho1; clear p1 ho1 hP HO F0 hf1 B1
 simp only [List.length_nil] at p4
 go_wp2
 go_loopw [4, 5, 6] (fun u at_ i wr => ∃ (k : Nat) (z : Int) (g' : List Pt) (a : Nat), k ≤ n ∧ z + 1 = k ∧ i = .int .i64 z ∧ at_ = .int .i64 a ∧ Hid (RulesG els (rs.drop k) g' a) ∧ Good g' ∧ a < g'.length ∧ g'.length + 7 * k ≤ 1 + 7 * n ∧ wr.ownsRow w.heap.size 151 7 u g'.length (g'.map Pt.cells).flatten ∧ PtFrame w.heap.size w wr ∧ Blk wr w.heap.size 35 #[.slice A n c, .int .i64 els]) (fun _ _ i _ => (intOf i + 1).toNat)
 case atStart => exact ⟨n, (n : Int) - 1, g1, a1, by omega, by omega, by go_num, rfl, Lib.hid (by rw [List.drop_of_length_le (by omega)]; exact HPP.out), HA1.out, p2, by omega, HO1.out, F1, B2⟩
 case round =>
   obtain ⟨k, z, g', a, hk, hkz, rfl, rfl, HRU, hA, ha, hg2, ho, hf, hB⟩ := hrel
   clear HA1 HO1 F1 B2 b0 p2 p3 p4
   have HA := Lib.hid hA; have HO := Lib.hid ho; clear hA ho
   have b0 : wr.cell? ⟨w.heap.size, 0, none⟩ = some (.slice A n c) := hB.cell 0
   by_cases hge : 0 ≤ z
   · obtain ⟨m, rfl⟩ : ∃ m : Nat, z = m := ⟨z.toNat, by omega⟩
     have hmn : m < n := by omega
     obtain ⟨b, off, r, tv, rfl, hab, hgp, hsl, hcell⟩ := rules_get hSA HRA.out hmn
     obtain ⟨c0, c1, c2, c3⟩ := hcell wr _ hf.below hab
     have hrok := HR.out r (List.mem_of_getElem? hgp)
     have HROK := Lib.hid hrok; have HSL := Lib.hid hsl
     have HDR := Lib.hid (show rs.drop m = r :: rs.drop (m + 1) from (List.drop_eq_getElem_cons (by omega)).trans (by rw [(List.getElem?_eq_some_iff.1 hgp).2]))
     obtain rfl : k = m + 1 := by omega
     clear hcell hgp hrok hsl
     go_wp2_with fail
     refine (gRule_any w u4 g' r tv a _ HO.out hf.below (by omega) HA.out ha HROK.out HSL.out).mono ?_
     rintro e W2 ⟨u2, g2, a2, rfl, q0, q1, q2, q3, q4, ho2, hf2⟩
     have HRN := Lib.hid (show RulesG els (rs.drop m) g2 a2 by rw [HDR.out]; exact ⟨g', a, HRU.out, q0⟩)
     have F2 := hf.trans hf2
     have B2 := hf2.blk hB (by decide)
     have HA2 := Lib.hid q1; have HO2 := Lib.hid ho2; clear q0 q1 ho2 HA HO hf hf2 hB
     go_wp2
     exact ⟨⟨m, (m : Int) - 1, g2, a2, by omega, by omega, by go_num, rfl, HRN, HA2.out, q2, by omega, HO2.out, F2, B2⟩, by simp [intOf]⟩
   · have HRF := Lib.hid (show RulesG els rs g' a by have := HRU.out; rwa [show k = 0 by omega, List.drop_zero] at this)
     go_wp2
     go_ret2
     exact ⟨u4, g', a, rfl, HRF.out, HA.out, ha, by omega, HO.out, hf⟩
end Go.Proofs.YtdjgicapbpoigaaGreatDoor

namespace Go.Proofs.YtdjgicapbpoigaaGreatDoor
open Go.RowKit Go.Maps
set_option linter.unusedSimpArgs false
set_option linter.unusedVariables false

theorem pt_row : (151 : TypeId) < Tryz.prog.types.size := of_decide_eq_true (by kernel_rfl)
theorem pt_wide : (match Tryz.prog.underlying 151 with | some (.array _ _) | some (.struct _) => true | _ => false) = true := by kernel_rfl
theorem pt_deep : Tryz.prog.keyTypeAt 2 151 = true := by kernel_rfl
theorem two_few : 2 + 1 ≤ 10000 := by omega
set_option maxRecDepth 100000 in
theorem pt_law : WideMaps.KeyLaw Tryz.prog 151 := deep_law_laid laidOut two_few pt_row pt_deep pt_wide
theorem pt_keyed : Keyed Tryz.prog 151 := Keyed.of_law pt_law
theorem pt_zero (w : World) : (zeroValue 3).run Tryz.prog w = .ok (.int .i64 0) w := by kernel_rfl
def ptV (p : Pt) : Value := .agg #[.int .i64 p.verdict, .int .i64 p.field, .int .i64 p.mask, .int .i64 p.op, .int .i64 p.value, .int .i64 p.yes, .int .i64 p.no]
theorem ptV_inj {p q : Pt} (h : ptV p = ptV q) : p = q := by
 simp only [ptV, Value.agg.injEq, Array.mk.injEq, List.cons.injEq, Value.int.injEq, true_and, and_true] at h
 exact Pt.ext_iff'.2 h
def Small (p : Pt) : Prop := (0 ≤ p.verdict ∧ p.verdict ≤ 4294967295) ∧ (0 ≤ p.field ∧ p.field ≤ 4294967295) ∧ (0 ≤ p.mask ∧ p.mask ≤ 4294967295) ∧ (0 ≤ p.op ∧ p.op ≤ 4294967295) ∧ (0 ≤ p.value ∧ p.value ≤ 4294967295) ∧ (0 ≤ p.yes ∧ p.yes ≤ 4294967295) ∧ (0 ≤ p.no ∧ p.no ≤ 4294967295)
theorem wf_word {n : Int} (h : 0 ≤ n ∧ n ≤ 4294967295) : (Lit.int .i64 n).wf = true := by
 simp [Lit.wf, IntKind.min, IntKind.max, IntKind.signed, IntKind.bits]
 omega
theorem pt_key {p : Pt} (h : Small p) : ∃ kl, keyOf Tryz.prog 151 (ptV p) = some kl := by
 have hc : Tryz.prog.cellsOf 151 = 7 := by kernel_rfl
 have hi : Tryz.prog.cellsOf 3 = 1 := by kernel_rfl
 have hkt : Tryz.prog.keyType 151 = true := by kernel_rfl
 obtain ⟨d, hd⟩ : ∃ d, Tryz.prog.types.size + 1 = d + 2 := by
   have h0 : (0 : Nat) < Tryz.prog.types.size := Nat.lt_of_le_of_lt (Nat.zero_le _) pt_row
   generalize Tryz.prog.types.size = N at h0
   exact ⟨N - 1, by omega⟩
 obtain ⟨h1, h2, h3, h4, h5, h6, h7⟩ := h
 have w1 := wf_word h1; have w2 := wf_word h2; have w3 := wf_word h3; have w4 := wf_word h4; have w5 := wf_word h5; have w6 := wf_word h6; have w7 := wf_word h7
 have hf : (ptV p).formed Tryz.prog 151 = true := by simp [ptV, Value.formed, Tryz.underlying151, hc]
 have hl : ∃ ls, Tryz.prog.keyLits (d + 2) 151 (ptV p).cells.toList = some ls := by
   refine ⟨[.int .i64 p.verdict, .int .i64 p.field, .int .i64 p.mask, .int .i64 p.op, .int .i64 p.value, .int .i64 p.yes, .int .i64 p.no], ?_⟩
   simp [Program.keyLits, ptV, Value.cells, Tryz.underlying151, Tryz.underlying3, hc, hi, w1, w2, w3, w4, w5, w6, w7]
 obtain ⟨ls, hls⟩ := hl
 refine ⟨.string (keyBytes ls), ?_⟩
 unfold keyOf
 rw [Tryz.underlying151]
 simp only []
 rw [hkt, hf, hd, hls]
 rfl

def MapIs (w : World) (M : Nat) (g : List Pt) : Prop :=
 ∃ D : DataW Unit, w.ownsMap Tryz.prog 151 (plainElem Tryz.prog 3) M g.length D ∧
   ∀ (p : Pt) (kl : Lit), keyOf Tryz.prog 151 (ptV p) = some kl →
     (∀ i : Nat, g[i]? = some p → Maps.has D kl = true ∧ D.atKey kl (.lit (.int .i64 0)) = .lit (.int .i64 (i : Int))) ∧ ((∀ i : Nat, g[i]? ≠ some p) → Maps.has D kl = false)
theorem MapIs.made (w : World) : MapIs (w.alloc (.map #[] 0)) w.heap.size [] := by
 refine ⟨.map [], World.ownsMap_made _ _ _ _, fun p kl h => ⟨fun i hi => by simp at hi, fun _ => rfl⟩⟩
theorem MapIs.lt {w : World} {M : Nat} {g : List Pt} (h : MapIs w M g) : M < w.heap.size := by
 obtain ⟨D, h, _⟩ := h; exact h.lt
theorem MapIs.kept {w w' : World} {M : Nat} {g : List Pt} {row : Option Nat} (h : MapIs w M g) (hg : w.grownBy w' row) (hne : some M ≠ row) : MapIs w' M g := by
 obtain ⟨D, h, hD⟩ := h; exact ⟨D, h.kept hg hne, hD⟩
theorem MapIs.setCell {w : World} {M : Nat} {g : List Pt} (h : MapIs w M g) {a : Addr} (ha : M ≠ a.block) (u : Value) : MapIs (w.setCell a u) M g := by
 obtain ⟨D, h, hD⟩ := h; exact ⟨D, h.setCell ha u, hD⟩
theorem MapIs.heap {w w' : World} {M : Nat} {g : List Pt} (h : MapIs w M g) (hh : w'.heap = w.heap) : MapIs w' M g := by
 obtain ⟨D, ⟨es, clock, hb, r⟩, hD⟩ := h
 exact ⟨D, ⟨es, clock, by rw [hh]; exact hb, r⟩, hD⟩
theorem MapIs.look {w : World} {M : Nat} {g : List Pt} {p : Pt} (h : MapIs w M g) (hp : Small p) :
   (∃ i : Nat, g[i]? = some p ∧ (∀ j : Nat, j < i → g[j]? ≠ some p) ∧ (Instr.lookup 153 (.map (some M)) (ptV p) true).run Tryz.prog w = .ok (.tuple #[.int .i64 (i : Int), .bool true]) w) ∨
   ((∀ i : Nat, g[i]? ≠ some p) ∧ (Instr.lookup 153 (.map (some M)) (ptV p) true).run Tryz.prog w = .ok (.tuple #[.int .i64 0, .bool false]) w) := by
 obtain ⟨kl, hkl⟩ := pt_key hp
 obtain ⟨D, hown, hD⟩ := h
 obtain ⟨h1, h0⟩ := hD p kl hkl
 obtain ⟨v, ps, hrun, hv⟩ := hown.look_ok pt_keyed Tryz.underlying153 (pt_zero w) (plainElem_int Tryz.underlying3 (by decide)) hkl
 obtain ⟨c, rfl, hc, hwc⟩ := plainElem_int_inv Tryz.underlying3 hv
 simp only [Prod.mk.injEq] at hc
 by_cases hex : ∃ i : Nat, g[i]? = some p
 · obtain ⟨i, hi⟩ := hex
   obtain ⟨a, b⟩ := h1 i hi
   left
   refine ⟨i, hi, fun j hj hgj => ?_, ?_⟩
   · obtain ⟨_, b'⟩ := h1 j hgj
     rw [b] at b'
     simp at b'
     omega
   · rw [hrun, a]
     have := hc.1
     rw [b] at this
     simp at this
     rw [this]
 · right
   have hno : ∀ i : Nat, g[i]? ≠ some p := fun i hi => hex ⟨i, hi⟩
   refine ⟨hno, ?_⟩
   have h2 := hc.1
   rw [atKey_of_not_has (h0 hno)] at h2
   simp at h2
   rw [hrun, h0 hno, ← h2]
theorem MapIs.put {w : World} {M : Nat} {g : List Pt} {p : Pt} (h : MapIs w M g) (hp : Small p) (hno : ∀ i : Nat, g[i]? ≠ some p) (hl : g.length ≤ 100000) :
   ∃ w', (Instr.mapUpdate 153 (.map (some M)) (ptV p) (.int .i64 (g.length : Int))).run Tryz.prog w = .ok () w' ∧ MapIs w' M (g ++ [p]) ∧ w.grownBy w' (some M) := by
 obtain ⟨kl, hkl⟩ := pt_key hp
 obtain ⟨D, hown, hD⟩ := h
 have hwf : (Lit.int .i64 (g.length : Int)).wf = true := wf_word ⟨by omega, by omega⟩
 obtain ⟨w', hrun, hown', hg⟩ := hown.update pt_keyed Tryz.underlying153 (by unfold maxLen; omega) hkl (plainElem_int Tryz.underlying3 hwf)
 refine ⟨w', hrun, ⟨_, by rw [List.length_append]; exact hown', fun q kq hq => ?_⟩, hg⟩
 have him := hown.isMap
 have hkk := pt_keyed.key hkl
 by_cases e : q = p
 · subst e
   rw [hkl] at hq
   cases hq
   refine ⟨fun i hi => ?_, fun hn => ?_⟩
   · have : i = g.length := by
       by_cases e2 : i < g.length
       · rw [List.getElem?_append_left e2] at hi; exact absurd hi (hno i)
       · have := (List.getElem?_eq_some_iff.1 hi).1; simp at this; omega
     subst this
     exact ⟨has_put_same him hkk _, atKey_put_same him hkk _ _⟩
   · exact absurd (by simp) (hn g.length)
 · have hne : kq ≠ kl := fun e2 => e (ptV_inj (pt_keyed.inj hq (e2 ▸ hkl)))
   obtain ⟨h1, h0⟩ := hD q kq hq
   rw [has_put_other hne, atKey_put_other hne]
   refine ⟨fun i hi => ?_, fun hn => h0 fun i hi => hn i (by rw [List.getElem?_append_left (List.getElem?_eq_some_iff.1 hi).1]; exact hi)⟩
   by_cases e2 : i < g.length
   · rw [List.getElem?_append_left e2] at hi; exact h1 i hi
   · rw [List.getElem?_append_right (by omega)] at hi
     have e3 : i - g.length = 0 := by have := (List.getElem?_eq_some_iff.1 hi).1; simp at this; omega
     rw [e3] at hi
     simp at hi
     exact absurd hi.symm e
end Go.Proofs.YtdjgicapbpoigaaGreatDoor

namespace Go.Proofs.YtdjgicapbpoigaaGreatDoor
open Go.RowKit Go.Maps
set_option linter.unusedSimpArgs false
set_option linter.unusedVariables false

theorem pdrewN (w : World) (m : Nat) : Below w.heap.size w (w.drewN m) := ⟨rfl, rfl, rfl, Nat.le_refl _, fun _ _ => rfl⟩
structure PL (w : World) (base L M : Nat) (pv : Value) (g : List Pt) : Prop where
 box : Blk w L 155 #[pv, .map (some M)]
 own : w.ownsRow base 151 7 pv g.length (g.map Pt.cells).flatten
 map : MapIs w M g
 lowL : base ≤ L
 lowM : base ≤ M
structure PlFrame (base L M : Nat) (w w' : World) : Prop where
 below : Below base w w'
 kept : ∀ (q : Nat) (o : Obj), w.heap[q]? = some o → q ≠ L → q ≠ M → (∀ c fz, o ≠ .cells c 151 fz) → w'.heap[q]? = some o
theorem PlFrame.refl (base L M : Nat) (w : World) : PlFrame base L M w w := ⟨Below.refl _ _, fun _ _ h _ _ _ => h⟩
theorem PlFrame.trans {base L M : Nat} {a b c : World} (h : PlFrame base L M a b) (k : PlFrame base L M b c) : PlFrame base L M a c :=
 ⟨h.below.trans k.below, fun q o hq h1 h2 h3 => k.kept q o (h.kept q o hq h1 h2 h3) h1 h2 h3⟩
theorem PlFrame.of_below {base L M : Nat} {w w' : World} (h : Below w.heap.size w w') (hb : base ≤ w.heap.size) : PlFrame base L M w w' :=
 ⟨h.mono hb, fun q o hq _ _ _ => by rw [h.block q (Array.getElem?_eq_some_iff.1 hq).1]; exact hq⟩
theorem PlFrame.blk {base L M : Nat} {w w' : World} (h : PlFrame base L M w w') {q : Nat} {t : TypeId} {cs : Array Value} (hq : Blk w q t cs) (h1 : q ≠ L) (h2 : q ≠ M) (ht : t ≠ 151) : Blk w' q t cs :=
 h.kept q _ hq h1 h2 (fun c fz e => by cases e; exact ht rfl)
theorem PlFrame.row {base L M n : Nat} {w w' : World} {v : Value} {xs : List Value} (ho : w.ownsRow base 151 7 v n xs) (hb : base ≤ w.heap.size) (hg : w.grownBy w' v.ownBlock) : PlFrame base L M w w' :=
 ⟨(Below.refl base w).grown hg hb (fun k hk => (ho.lt k hk).1), fun q o hq _ _ h3 => by
   rw [hg.block q (Array.getElem?_eq_some_iff.1 hq).1]
   · exact hq
   · intro e
     rcases ho.2 with ⟨rfl, _⟩ | ⟨g', cap', cur, rfl, _, hh, _⟩
     · simp [Value.ownBlock] at e
     · simp only [Value.ownBlock, Option.some.injEq] at e
       subst e
       have := hq.symm.trans hh
       exact h3 cur (0, 0) (Option.some.inj this)⟩
theorem PlFrame.cell {base L M : Nat} {w : World} (hb : base ≤ L) (i : Nat) (v : Value) : PlFrame base L M w (w.setCell ⟨L, i, none⟩ v) :=
 ⟨(Below.refl base w).setCell (p := ⟨L, i, none⟩) hb v, fun q o hq h1 _ _ => (Below.heap_setCell w ⟨L, i, none⟩ v q h1).trans hq⟩
theorem PlFrame.map {base L M : Nat} {w w' : World} (hM : base ≤ M) (hb : base ≤ w.heap.size) (hg : w.grownBy w' (some M)) : PlFrame base L M w w' :=
 ⟨(Below.refl base w).grown hg hb (fun k hk => by cases hk; exact hM), fun q o hq _ h2 _ => by
   rw [hg.block q (Array.getElem?_eq_some_iff.1 hq).1 (fun e => h2 (Option.some.inj e))]; exact hq⟩
theorem PL.ne {w : World} {base L M : Nat} {pv : Value} {g : List Pt} (h : PL w base L M pv g) : L ≠ M := by
 intro e
 subst e
 obtain ⟨D, ⟨es, clock, hb, _⟩, _⟩ := h.map
 have := (show w.heap[L]? = _ from h.box).symm.trans hb
 cases this
theorem own_far_map {w : World} {base k m : Nat} {e : TypeId} {size : Nat} {v : Value} {xs : List Value} {g : List Pt} (h : w.ownsRow base e size v m xs) (hk : MapIs w k g) : some k ≠ v.ownBlock := by
 obtain ⟨D, ⟨es, clock, hb, _⟩, _⟩ := hk
 rcases h.2 with ⟨rfl, _⟩ | ⟨g, cap, cur, rfl, _, hg, _⟩
 · simp [Value.ownBlock]
 · simp only [Value.ownBlock]
   intro e2
   cases e2
   have := hg.symm.trans hb
   cases this
theorem PL.next {w w' : World} {base L M : Nat} {pv : Value} {g : List Pt} (h : PL w base L M pv g) (hb : Below w.heap.size w w') : PL w' base L M pv g :=
 ⟨h.box.below hb h.box.lt, own_below h.own hb, h.map.kept (grown_of_below hb none) (by simp), h.lowL, h.lowM⟩

set_option maxHeartbeats 1000000 in
theorem newPointList_any (w : World) :
   Calls Tryz.prog 82 #[] w fun e w' => e = .returned (.pointer (some ⟨w.heap.size + 1, 0, none⟩)) ∧ PL w' w.heap.size (w.heap.size + 1) w.heap.size (.slice none 0 0) [] ∧ Below w.heap.size w w' := by
 have hmm := @run_makeMap Tryz.prog
 have H1 : PL ((w.alloc (.map #[] 0)).alloc (.cells #[.slice none 0 0, .map (some w.heap.size)] 155)) w.heap.size (w.heap.size + 1) w.heap.size (.slice none 0 0) [] := by
   refine ⟨?_, World.ownsRow_nil _ _ _ _, ((MapIs.made w).kept (World.grownBy_alloc _ _ none) (by simp)), by omega, Nat.le_refl _⟩
   have := Blk.new (w.alloc (.map #[] 0)) 155 #[.slice none 0 0, .map (some w.heap.size)]
   simpa using this
 have HH := Lib.hid H1; clear H1
 go_enter Tryz.func82, Tryz.ntmps82
 go_wp2
 go_ret
 exact ⟨rfl, HH.out, by go_grown⟩

set_option maxRecDepth 100000 in
set_option maxHeartbeats 8000000 in
theorem put_any (base L M : Nat) (pv : Value) (g : List Pt) (x : Pt) (w : World) (h : PL w base L M pv g) (hx : Small x) (hb : base ≤ w.heap.size) (hl : g.length ≤ 1000) :
   Calls Tryz.prog 83 #[.pointer (some ⟨L, 0, none⟩), .agg #[.int .i64 x.verdict, .int .i64 x.field, .int .i64 x.mask, .int .i64 x.op, .int .i64 x.value, .int .i64 x.yes, .int .i64 x.no]] w fun e w' =>
     ∃ (pv' : Value) (g' : List Pt) (i : Nat), e = .returned (.int .i64 (i : Int)) ∧ PutIs g x g' i ∧ PL w' base L M pv' g' ∧ PlFrame base L M w w' := by
 obtain ⟨W, hW⟩ : ∃ W, W = w.alloc (.cells #[.int .i64 x.verdict, .int .i64 x.field, .int .i64 x.mask, .int .i64 x.op, .int .i64 x.value, .int .i64 x.yes, .int .i64 x.no] 151) := ⟨_, rfl⟩
 have hbW : Below w.heap.size w W := by rw [hW]; go_grown
 have P0 : Blk W w.heap.size 151 #[.int .i64 x.verdict, .int .i64 x.field, .int .i64 x.mask, .int .i64 x.op, .int .i64 x.value, .int .i64 x.yes, .int .i64 x.no] := by rw [hW]; exact Blk.new _ _ _
 have HPL := h.next hbW
 have hL := h.box.lt
 have hM := h.map.lt
 have hLM := h.ne
 have c1 := (show _ = some (Value.map (some M)) from HPL.box.cell 1)
 have p0 := (show _ = some (Value.int .i64 x.verdict) from P0.cell 0); have p1 := (show _ = some (Value.int .i64 x.field) from P0.cell 1); have p2 := (show _ = some (Value.int .i64 x.mask) from P0.cell 2); have p3 := (show _ = some (Value.int .i64 x.op) from P0.cell 3); have p4 := (show _ = some (Value.int .i64 x.value) from P0.cell 4); have p5 := (show _ = some (Value.int .i64 x.yes) from P0.cell 5); have p6 := (show _ = some (Value.int .i64 x.no) from P0.cell 6)
 have hne2 : some w.heap.size ≠ pv.ownBlock := fun e => by have := (h.own.lt _ e.symm).2; omega
 have hmap : ∀ m : Nat, MapIs (W.drewN m) M g := fun m => HPL.map.heap rfl
 have HW := Lib.hid hW
 rcases HPL.map.look hx with ⟨i, hi, hmin, -⟩ | ⟨hno, -⟩
 · have hrun : ∀ m : Nat, (Instr.lookup 153 (.map (some M)) (.agg #[.int .i64 x.verdict, .int .i64 x.field, .int .i64 x.mask, .int .i64 x.op, .int .i64 x.value, .int .i64 x.yes, .int .i64 x.no]) true).run Tryz.prog (W.drewN m) = .ok (.tuple #[.int .i64 (i : Int), .bool true]) (W.drewN m) := by
     intro m
     rcases (hmap m).look hx with ⟨j, hj, hminj, hr⟩ | ⟨hno, -⟩
     · have : j = i := by
         rcases Nat.lt_trichotomy i j with h | h | h
         · exact absurd hi (hminj i h)
         · exact h.symm
         · exact absurd hj (hmin j h)
       subst this
       exact hr
     · exact absurd hi (hno i)
   have HI := Lib.hid hi; have HMI := Lib.hid hmin; have HP := Lib.hid HPL
   clear hmap hi hmin HPL h hW P0
   go_enter Tryz.func83, Tryz.ntmps83
   go_wp2
   try rw [← HW.out]
   go_quiet (fail)
   go_wp2
   go_ret
   exact ⟨pv, g, i, rfl, .inl ⟨rfl, HI.out, HMI.out⟩, HP.out.next (pdrewN _ _), PlFrame.of_below (below_then hbW (pdrewN _ _)) hb⟩
 · have hrun : ∀ m : Nat, (Instr.lookup 153 (.map (some M)) (.agg #[.int .i64 x.verdict, .int .i64 x.field, .int .i64 x.mask, .int .i64 x.op, .int .i64 x.value, .int .i64 x.yes, .int .i64 x.no]) true).run Tryz.prog (W.drewN m) = .ok (.tuple #[.int .i64 0, .bool false]) (W.drewN m) := by
     intro m
     rcases (hmap m).look hx with ⟨j, hj, -, -⟩ | ⟨-, h⟩
     · exact absurd hj (hno j)
     · exact h
   obtain ⟨A, n, c, rfl, hA⟩ := SlA.of_own HPL.own (by simp) (Pt.rows g)
   have hgn : g.length = n := by have := hA.len; simpa using this
   have hcn := hA.cap
   have hmx := hA.max
   unfold maxLen at hmx
   have c0 := (show _ = some (Value.slice A n c) from HPL.box.cell 0)
   have HNO := Lib.hid hno; have HP := Lib.hid HPL; have HGN := Lib.hid hgn; have HPT := Lib.hid P0
   have hn : n ≤ 1000 := by omega
   clear hmap hno HPL h hW P0 hA hgn
   go_enter Tryz.func83, Tryz.ntmps83
   go_wp2
   try rw [← HW.out]
   go_quiet (fail)
   obtain ⟨V, hV⟩ : ∃ V, V = W.drewN nq := ⟨_, rfl⟩
   go_upto_region 5 with (fail)
   rw [← hV]
   have hWV : Below W.heap.size W V := by rw [hV]; exact pdrewN _ _
   have HPV := Lib.hid (HP.out.next hWV)
   have HPTV := Lib.hid (HPT.out.below hWV HPT.out.lt)
   have hVz : V.heap.size = W.heap.size := by rw [hV]; rfl
   have hWz : W.heap.size = w.heap.size + 1 := by rw [HW.out]; simp
   clear hV c0 c1 p0 p1 p2 p3 p4 p5 p6 hrun HP HPT
   obtain ⟨bv, hbv⟩ : ∃ v : Value, v = .slice A n c := ⟨_, rfl⟩
   rw [← hbv] at HPV hne2
   have HBV := Lib.hid (show V.drew.ownsRow base 151 7 bv n (g.map Pt.cells).flatten by have := HPV.out.own; rw [HGN.out] at this; exact this)
   have c0 := (show V.drew.cell? ⟨L, 0, none⟩ = some bv from HPV.out.box.cell 0)
   have f0 := (show V.drew.frozen? ⟨L, 0, none⟩ = false from HPV.out.box.frozen 0)
   have p0 := (show V.cell? ⟨w.heap.size, 0, none⟩ = some (Value.int .i64 x.verdict) from HPTV.out.cell 0); have p1 := (show V.cell? ⟨w.heap.size, 1, none⟩ = some (Value.int .i64 x.field) from HPTV.out.cell 1); have p2 := (show V.cell? ⟨w.heap.size, 2, none⟩ = some (Value.int .i64 x.mask) from HPTV.out.cell 2); have p3 := (show V.cell? ⟨w.heap.size, 3, none⟩ = some (Value.int .i64 x.op) from HPTV.out.cell 3); have p4 := (show V.cell? ⟨w.heap.size, 4, none⟩ = some (Value.int .i64 x.value) from HPTV.out.cell 4); have p5 := (show V.cell? ⟨w.heap.size, 5, none⟩ = some (Value.int .i64 x.yes) from HPTV.out.cell 5); have p6 := (show V.cell? ⟨w.heap.size, 6, none⟩ = some (Value.int .i64 x.no) from HPTV.out.cell 6)
   have hzb : base ≤ V.heap.size := by omega
   have HNE1 := Lib.hid (show some L ≠ bv.ownBlock from own_far_type HPV.out.own HPV.out.box (by decide))
   have HNE2 := Lib.hid hne2
   have HNE3 := Lib.hid (own_far_map HPV.out.own HPV.out.map)
   clear hbv hne2
   have nV : ¬ V.heap.size = w.heap.size := by omega
   have nV' : ¬ w.heap.size = V.heap.size := by omega
   have nL : ¬ L = V.heap.size := by omega
   have nL' : ¬ V.heap.size = L := by omega
   have HVZ := Lib.hid hVz; have HWZ := Lib.hid hWz
   have c0v : V.cell? ⟨L, 0, none⟩ = some bv := c0
   have XA := HPTV.out.alloc (.cells #[.int .i64 x.verdict, .int .i64 x.field, .int .i64 x.mask, .int .i64 x.op, .int .i64 x.value, .int .i64 x.yes, .int .i64 x.no] 151)
   have c0a : (V.alloc (.cells #[.int .i64 x.verdict, .int .i64 x.field, .int .i64 x.mask, .int .i64 x.op, .int .i64 x.value, .int .i64 x.yes, .int .i64 x.no] 151)).cell? ⟨L, 0, none⟩ = some bv := (HPV.out.box.alloc _).cell 0
   have HXA := Lib.hid XA
   have NWL := Lib.hid (show w.heap.size ≠ (⟨L, 0, none⟩ : Addr).block from fun e => by simp only at e; omega)
   clear XA
   clear hVz hWz
   go_region_law
     ((refine step_app0g (w0 := V.drew) rfl (.tmp 28) (.tmp 30) _ rfl base 151 Tryz.underlying82 info_PointM rfl (by omega) (by omega) bv n (g.map Pt.cells) rfl (by exact HBV.out) rfl (by simp [Value.oneCell']) rfl (by omega) (by exact hzb) ?_; intro v9 w9 hown9 hg9 _; obtain ⟨g9, cap9, rfl, hg9a, hg9b⟩ := hown9.form (by omega); have X9 := (show Blk V.drew _ _ _ from HPTV.out).grown hg9 HNE2.out; have Y9 := X9.far (p := ⟨L, 0, none⟩) NWL.out (.slice (some ⟨g9, 0, none⟩) (n + 1) cap9); have B9 := (show Blk V.drew _ _ _ from HPV.out.box).grown hg9 HNE1.out; have c9 := (show _ = some bv from B9.cell 0); have f9 := B9.frozen 0))
   all_goals
     have B10 := B9.set_ 0 (.slice (some ⟨g9, 0, none⟩) (n + 1) cap9)
     obtain ⟨R, hR⟩ : ∃ R, R = w9.setCell ⟨L, 0, none⟩ (.slice (some ⟨g9, 0, none⟩) (n + 1) cap9) := ⟨_, rfl⟩
     rw [← hR] at Y9 B10
     have M9 := ((show MapIs V.drew M g from HPV.out.map.heap rfl).kept hg9 HNE3.out)
     have M10 : MapIs R M g := by rw [hR]; exact M9.setCell (a := ⟨L, 0, none⟩) (Ne.symm hLM) _
     have O9 : R.ownsRow base 151 7 (.slice (some ⟨g9, 0, none⟩) (n + 1) cap9) (n + 1) (g.map Pt.cells ++ [Pt.cells x]).flatten := by
       rw [hR]; exact ownsRow_setCell_other hown9 (fun e => own_far_type hown9 B9 (by decide) e.symm) _
     have F9 : PlFrame base L M w R := by
       rw [hR]
       refine ((PlFrame.of_below (below_then hbW hWV) hb).trans ?_).trans (PlFrame.cell HPV.out.lowL 0 _)
       refine (PlFrame.of_below (show Below V.heap.size V V.drew by go_grown) hzb).trans ?_
       exact PlFrame.row HBV.out hzb hg9
     obtain ⟨w6, hrun6, M6, g6⟩ := (show MapIs R.drew M g from M10.heap rfl).put hx HNO.out (by omega)
     have hrun7 : (Instr.mapUpdate 153 (.map (some M)) (.agg #[.int .i64 x.verdict, .int .i64 x.field, .int .i64 x.mask, .int .i64 x.op, .int .i64 x.value, .int .i64 x.yes, .int .i64 x.no]) (.int .i64 (n : Int))).run Tryz.prog R.drew = .ok () w6 := by
       have := hrun6
       rw [HGN.out] at this
       exact this
     have hzR : base ≤ R.heap.size := Nat.le_trans hb F9.below.size
     have HB6 := Lib.hid ((show Blk R.drew _ _ _ from B10).grown g6 (fun e => hLM (Option.some.inj e)))
     have HY6 := Lib.hid ((show Blk R.drew _ _ _ from Y9).grown g6 (fun e => by have := Option.some.inj e; omega))
     have HR := Lib.hid hR; have HB10 := Lib.hid B10; have HO9 := Lib.hid O9; have HF9 := Lib.hid F9; have HM6 := Lib.hid M6; have HG6 := Lib.hid g6; have HM10 := Lib.hid M10
     have c1 := (show R.cell? ⟨L, 1, none⟩ = some (Value.map (some M)) from B10.cell 1)
     have p0 := (show _ = some (Value.int .i64 x.verdict) from Y9.cell 0); have p1 := (show _ = some (Value.int .i64 x.field) from Y9.cell 1); have p2 := (show _ = some (Value.int .i64 x.mask) from Y9.cell 2); have p3 := (show _ = some (Value.int .i64 x.op) from Y9.cell 3); have p4 := (show _ = some (Value.int .i64 x.value) from Y9.cell 4); have p5 := (show _ = some (Value.int .i64 x.yes) from Y9.cell 5); have p6 := (show _ = some (Value.int .i64 x.no) from Y9.cell 6)
     clear hR B10 O9 F9 M6 g6 M10 M9 hrun6 hown9 hg9 X9 B9 c9 f9 c0 f0 c0v c0a Y9
     go_wp2
     rw [← HR.out]
     go_region_held3 (fun w' => w'.cell? ⟨L, 1, none⟩ = some (Value.map (some M)) ∧ w'.cell? ⟨w.heap.size, 0, none⟩ = some (.int .i64 x.verdict) ∧ w'.cell? ⟨w.heap.size, 1, none⟩ = some (.int .i64 x.field) ∧ w'.cell? ⟨w.heap.size, 2, none⟩ = some (.int .i64 x.mask) ∧ w'.cell? ⟨w.heap.size, 3, none⟩ = some (.int .i64 x.op) ∧ w'.cell? ⟨w.heap.size, 4, none⟩ = some (.int .i64 x.value) ∧ w'.cell? ⟨w.heap.size, 5, none⟩ = some (.int .i64 x.yes) ∧ w'.cell? ⟨w.heap.size, 6, none⟩ = some (.int .i64 x.no))
       (first | exact ⟨c1, p0, p1, p2, p3, p4, p5, p6⟩ | exact ⟨HB6.out.cell 1, HY6.out.cell 0, HY6.out.cell 1, HY6.out.cell 2, HY6.out.cell 3, HY6.out.cell 4, HY6.out.cell 5, HY6.out.cell 6⟩ | go_keep) (fail)
     go_wp2
     go_ret
     refine ⟨.slice (some ⟨g9, 0, none⟩) (n + 1) cap9, g ++ [x], n, rfl, .inr ⟨rfl, HGN.out.symm, HNO.out⟩, ⟨HB6.out, ?_, HM6.out, HPV.out.lowL, HPV.out.lowM⟩, ?_⟩
     · have hk := (show R.drew.ownsRow _ _ _ _ _ _ from HO9.out).kept HG6.out (.inr (fun e => own_far_map HO9.out HM10.out e.symm))
       rw [List.length_append, HGN.out]
       simpa using hk
     · exact (HF9.out.trans (PlFrame.of_below (show Below R.heap.size R R.drew by go_grown) hzR)).trans (PlFrame.map HPV.out.lowM hzR HG6.out)
end Go.Proofs.YtdjgicapbpoigaaGreatDoor

namespace Go.Proofs.YtdjgicapbpoigaaGreatDoor
open Go.RowKit Go.Maps
set_option linter.unusedSimpArgs false
set_option linter.unusedVariables false

def isW (n : Int) : Prop := 0 ≤ n ∧ n ≤ 4294967295
theorem small_look {f m o v : Int} {y n : Nat} (hf : isW f) (hm : isW m) (ho : isW o) (hv : isW v) (hy : y ≤ 100000) (hn : n ≤ 100000) : Small ⟨0, f, m, o, v, y, n⟩ := by
 unfold isW at *
 refine ⟨?_, hf, hm, ho, hv, ?_, ?_⟩ <;> dsimp only <;> omega
theorem small_verd {v : Int} (hv : isW v) : Small ⟨v, 0, 0, 0, 0, 0, 0⟩ := by
 refine ⟨hv, ?_, ?_, ?_, ?_, ?_, ?_⟩ <;> dsimp only <;> omega

set_option maxHeartbeats 2000000 in
theorem lookOf_any (f m o v yes no : Int) (b : Nat) (w : World) (h0 : w.cell? ⟨b, 0, none⟩ = some (.int .i64 yes)) (h1 : w.cell? ⟨b, 1, none⟩ = some (.int .i64 no)) (hb : b < w.heap.size) :
   Calls Tryz.prog 122 #[.int .i64 f, .int .i64 m, .int .i64 o, .int .i64 v, .slice (some ⟨b, 0, none⟩) 2 2] w fun e w' => e = .returned (.agg #[.int .i64 0, .int .i64 f, .int .i64 m, .int .i64 o, .int .i64 v, .int .i64 yes, .int .i64 no]) ∧ Below w.heap.size w w' := by
 have hne : ¬ b = w.heap.size := by omega
 have hne' : ¬ w.heap.size = b := by omega
 go_enter Tryz.func122, Tryz.ntmps122
 go_wp2
 go_region
 go_wp2
 refine bodyPost_ret (v := .agg #[.int .i64 0, .int .i64 f, .int .i64 m, .int .i64 o, .int .i64 v, .int .i64 yes, .int .i64 no]) (by simp [results, Tryz.results122, go_sem]) rfl ⟨rfl, by go_grown⟩

set_option maxHeartbeats 2000000 in
theorem putLook_any (base L M : Nat) (pv : Value) (g : List Pt) (f m o v : Int) (yes no : Nat) (w : World) (h : PL w base L M pv g) (hx : Small ⟨0, f, m, o, v, yes, no⟩) (hb : base ≤ w.heap.size) (hl : g.length ≤ 1000) :
   Calls Tryz.prog 121 #[.pointer (some ⟨L, 0, none⟩), .agg #[.int .i64 0, .int .i64 f, .int .i64 m, .int .i64 o, .int .i64 v, .int .i64 yes, .int .i64 no]] w fun e w' =>
     ∃ (pv' : Value) (g' : List Pt) (i : Nat), e = .returned (.int .i64 (i : Int)) ∧ LookIs g f m o v yes no g' i ∧ PL w' base L M pv' g' ∧ PlFrame base L M w w' := by
 have hbW : Below w.heap.size w (w.alloc (.cells #[.int .i64 0, .int .i64 f, .int .i64 m, .int .i64 o, .int .i64 v, .int .i64 yes, .int .i64 no] 151)) := by go_grown
 have HP := Lib.hid (h.next hbW)
 have HF := Lib.hid (PlFrame.of_below (base := base) (L := L) (M := M) hbW hb)
 clear h
 by_cases e : yes = no
 · have hd : ((yes : Int) == (no : Int)) = true := by simp [e]
   have HE := Lib.hid e; clear e
   go_enter Tryz.func121, Tryz.ntmps121
   go_wp2
   go_ret
   exact ⟨pv, g, yes, rfl, .inl ⟨HE.out, rfl, rfl⟩, HP.out, HF.out⟩
 · have hd : ((yes : Int) == (no : Int)) = false := by simp; omega
   have HE := Lib.hid e; have HX := Lib.hid hx; clear e hx
   go_enter Tryz.func121, Tryz.ntmps121
   go_wp2_with fail
   refine (put_any base L M pv g ⟨0, f, m, o, v, yes, no⟩ _ HP.out HX.out (by simp; omega) hl).mono ?_; rintro e w1 ⟨pv1, g1, i1, rfl, hP, hPL, hF⟩
   have H1 := Lib.hid hP; have H2 := Lib.hid hPL; have H3 := Lib.hid (HF.out.trans hF); clear hP hPL hF
   go_wp2
   go_ret
   exact ⟨pv1, g1, i1, rfl, .inr ⟨HE.out, H1.out⟩, H2.out, H3.out⟩

theorem two_cells (w : World) (a b : Int) : let W := w.alloc (.cells #[.int .i64 a, .int .i64 b] 3)
   W.cell? ⟨w.heap.size, 0, none⟩ = some (.int .i64 a) ∧ W.cell? ⟨w.heap.size, 1, none⟩ = some (.int .i64 b) ∧ w.heap.size < W.heap.size ∧ Below w.heap.size w W :=
 ⟨(Blk.new w _ _).cell 0, (Blk.new w _ _).cell 1, by simp, by go_grown⟩

set_option maxHeartbeats 4000000 in
theorem putTest_any (base L M : Nat) (pv : Value) (g : List Pt) (t : Ts) (on no : Nat) (w : World) (h : PL w base L M pv g) (ht : testOkB t = true) (hon : on ≤ 1000) (hno : no ≤ 1000) (hb : base ≤ w.heap.size) (hl : g.length ≤ 1000) :
   Calls Tryz.prog 120 #[.pointer (some ⟨L, 0, none⟩), .agg #[.int .i64 t.field, .int .i64 t.mask, .int .i64 t.op, .int .i64 t.value], .int .i64 on, .int .i64 no] w fun e w' =>
     ∃ (pv' : Value) (g' : List Pt) (i : Nat), e = .returned (.int .i64 (i : Int)) ∧ TestIs g t on no g' i ∧ PL w' base L M pv' g' ∧ PlFrame base L M w w' := by
 obtain ⟨⟨hf1, hf2⟩, ⟨hm1, hm2⟩, ⟨hv1, hv2⟩, ho1, ho2⟩ := testOkB_words ht
 obtain ⟨f, m, o, v⟩ := t
 simp only at hf1 hf2 hm1 hm2 hv1 hv2 ho1 ho2
 clear ht
 obtain ⟨W, hW⟩ : ∃ W, W = w.alloc (.cells #[.int .i64 f, .int .i64 m, .int .i64 o, .int .i64 v] 99) := ⟨_, rfl⟩
 have hbW : Below w.heap.size w W := by rw [hW]; go_grown
 have T0 : Blk W w.heap.size 99 #[.int .i64 f, .int .i64 m, .int .i64 o, .int .i64 v] := by rw [hW]; exact Blk.new _ _ _
 have t0 := (show _ = some (Value.int .i64 f) from T0.cell 0); have t1 := (show _ = some (Value.int .i64 m) from T0.cell 1); have t2 := (show _ = some (Value.int .i64 o) from T0.cell 2); have t3 := (show _ = some (Value.int .i64 v) from T0.cell 3)
 have HP := Lib.hid (h.next hbW)
 have hzW : base ≤ W.heap.size := Nat.le_trans hb hbW.size
 have HF := Lib.hid (PlFrame.of_below (base := base) (L := L) (M := M) hbW hb)
 have HW := Lib.hid hW
 clear h hW T0
 by_cases h2 : o = 2
 · have hd : (o != 2) = false := by simp [h2]
   by_cases h0 : v = 0
   · have hd0 : (v == 0) = true := by simp [h0]
     have H2 := Lib.hid h2; have H0 := Lib.hid h0; clear h2 h0
     go_enter Tryz.func120, Tryz.ntmps120
     obtain ⟨-, -, -, -⟩ : True ∧ True ∧ True ∧ True := ⟨trivial, trivial, trivial, trivial⟩
     go_wp2
     try rw [← HW.out]
     go_wp2
     go_ret
     have h2 := H2.out
     exact ⟨pv, g, no, rfl, .inr (.inr (.inl ⟨by simp only; omega, by simp only; omega, H0.out, rfl, rfl⟩)), by first | exact HP.out | (rw [← HW.out]; exact HP.out), by first | exact HF.out | (rw [← HW.out]; exact HF.out)⟩
   · have hd0 : (v == 0) = false := by simp [h0]
     have H2 := Lib.hid h2; have H0 := Lib.hid h0; clear h2
     obtain ⟨q0, q1, q2, q3⟩ := two_cells W no on
     obtain ⟨U, hU⟩ : ∃ U, U = W.alloc (.cells #[.int .i64 no, .int .i64 on] 3) := ⟨_, rfl⟩
     have HQ := Lib.hid (show U.cell? ⟨W.heap.size, 0, none⟩ = some (.int .i64 (no : Int)) ∧ U.cell? ⟨W.heap.size, 1, none⟩ = some (.int .i64 (on : Int)) ∧ W.heap.size < U.heap.size ∧ Below W.heap.size W U by rw [hU]; exact ⟨q0, q1, q2, q3⟩)
     have HU := Lib.hid hU
     clear hU q0 q1 q2 q3
     go_enter Tryz.func120, Tryz.ntmps120
     go_upto_region 1 with (fail)
     rw [← HW.out]
     go_wp2_with fail
     rw [← HU.out]
     refine (lookOf_any f m 3 (v - 1) no on W.heap.size U HQ.out.1 HQ.out.2.1 HQ.out.2.2.1).mono ?_; rintro e w1 ⟨rfl, hb1⟩
     have hbU := HQ.out.2.2.2
     have hb2 := below_then hbU hb1
     have hPL1 := Lib.hid (HP.out.next hb2)
     have hz1 := Nat.le_trans hzW hb2.size
     go_wp2_with fail
     refine (putLook_any base L M pv g f m 3 (v - 1) no on _ hPL1.out (small_look ⟨by omega, by omega⟩ ⟨by omega, by omega⟩ ⟨by omega, by omega⟩ ⟨by omega, by omega⟩ (by omega) (by omega)) hz1 hl).mono ?_; rintro e w2 ⟨pv2, g2, i2, rfl, hP, hPL, hF⟩
     have h2 := H2.out
     have H1 := Lib.hid (show TestIs g ⟨f, m, o, v⟩ on no g2 i2 from .inr (.inr (.inr ⟨by simp only; omega, by simp only; omega, H0.out, hP⟩))); have H3 := Lib.hid hPL; have H4 := Lib.hid ((HF.out.trans (PlFrame.of_below hb2 hzW)).trans hF); clear hP hPL hF h2
     go_wp2
     go_ret
     exact ⟨pv2, g2, i2, rfl, H1.out, H3.out, H4.out⟩
 · have hd : (o != 2) = true := by simp [h2]
   have H2 := Lib.hid h2; clear h2
   obtain ⟨q0, q1, q2, q3⟩ := two_cells W on no
   obtain ⟨U, hU⟩ : ∃ U, U = W.alloc (.cells #[.int .i64 on, .int .i64 no] 3) := ⟨_, rfl⟩
   have HQ := Lib.hid (show U.cell? ⟨W.heap.size, 0, none⟩ = some (.int .i64 (on : Int)) ∧ U.cell? ⟨W.heap.size, 1, none⟩ = some (.int .i64 (no : Int)) ∧ W.heap.size < U.heap.size ∧ Below W.heap.size W U by rw [hU]; exact ⟨q0, q1, q2, q3⟩)
   have HU := Lib.hid hU
   clear hU q0 q1 q2 q3
   go_enter Tryz.func120, Tryz.ntmps120
   go_upto_region 1 with (fail)
   rw [← HW.out]
   go_wp2_with fail
   rw [← HU.out]
   refine (lookOf_any f m o v on no W.heap.size U HQ.out.1 HQ.out.2.1 HQ.out.2.2.1).mono ?_; rintro e w1 ⟨rfl, hb1⟩
   have hbU := HQ.out.2.2.2
   have hb2 := below_then hbU hb1
   have hPL1 := Lib.hid (HP.out.next hb2)
   have hz1 := Nat.le_trans hzW hb2.size
   go_wp2_with fail
   refine (putLook_any base L M pv g f m o v on no _ hPL1.out (small_look ⟨by omega, by omega⟩ ⟨by omega, by omega⟩ ⟨by omega, by omega⟩ ⟨by omega, by omega⟩ (by omega) (by omega)) hz1 hl).mono ?_; rintro e w2 ⟨pv2, g2, i2, rfl, hP, hPL, hF⟩
   have h2 := H2.out
   have H1 := Lib.hid (show TestIs g ⟨f, m, o, v⟩ on no g2 i2 by
     have h13 : o = 1 ∨ o = 3 := by omega
     rcases h13 with e | e
     · exact .inl ⟨e, by rw [e] at hP; exact hP⟩
     · exact .inr (.inl ⟨by simp only; omega, e, by rw [e] at hP; exact hP⟩))
   have H3 := Lib.hid hPL; have H4 := Lib.hid ((HF.out.trans (PlFrame.of_below hb2 hzW)).trans hF); clear hP hPL hF h2
   go_wp2
   go_ret
   exact ⟨pv2, g2, i2, rfl, H1.out, H3.out, H4.out⟩
end Go.Proofs.YtdjgicapbpoigaaGreatDoor
