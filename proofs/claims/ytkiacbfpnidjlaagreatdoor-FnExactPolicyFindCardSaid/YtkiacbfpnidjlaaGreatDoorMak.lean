/- Joined texts: MakeS MakeR MakeU MakeT. -/
import Derived.Test.YtkiacbfpnidjlaaGreatDoorPts
import Derived.Test.YtkiacbfpnidjlaaGreatDoorKit
import Derived.Lib.OthersKept
import Derived.Lib.BufferKept
import Derived.BigRegion
import Derived.Test.YtkiacbfpnidjlaaGreatDoorTxt
import Derived.Deep.RegionHeld3
-- spec's graphs of policies: l4Point: a point put behind others, or found among them.
namespace Go.Proofs.YtkiacbfpnidjlaaGreatDoor
open Go.RowKit
set_option linter.unusedSimpArgs false
set_option linter.unusedVariables false

/-- Where a point is put among others. -/
def PutIs (g : List Pt) (x : Pt) (g' : List Pt) (i : Nat) : Prop :=
  (g' = g ∧ g[i]? = some x ∧ ∀ j : Nat, j < i → g[j]? ≠ some x) ∨ (g' = g ++ [x] ∧ i = g.length ∧ ∀ j : Nat, g[j]? ≠ some x)
theorem PutIs.one {g g1 g2 : List Pt} {x : Pt} {i j : Nat} (h : PutIs g x g1 i) (h' : PutIs g x g2 j) : g1 = g2 ∧ i = j := by
  rcases h with ⟨rfl, h1, h2⟩ | ⟨rfl, rfl, h2⟩ <;> rcases h' with ⟨rfl, h1', h2'⟩ | ⟨rfl, rfl, h2'⟩
  · refine ⟨rfl, ?_⟩
    rcases Nat.lt_trichotomy i j with h | h | h
    · exact absurd h1 (h2' i h)
    · exact h
    · exact absurd h1' (h2 j h)
  · exact absurd h1 (h2' i)
  · exact absurd h1' (h2 j)
  · exact ⟨rfl, rfl⟩
theorem PutIs.at_ {g g' : List Pt} {x : Pt} {i : Nat} (h : PutIs g x g' i) : g'[i]? = some x ∧ i < g'.length ∧ g.length ≤ g'.length ∧ g'.length ≤ g.length + 1 ∧ ∀ (j : Nat) (p : Pt), g[j]? = some p → g'[j]? = some p := by
  rcases h with ⟨rfl, h1, _⟩ | ⟨rfl, rfl, _⟩
  · exact ⟨h1, (List.getElem?_eq_some_iff.1 h1).1, Nat.le_refl _, by omega, fun _ _ h => h⟩
  · exact ⟨by simp, by simp, by simp, by simp, fun j p hj => by rw [List.getElem?_append_left (List.getElem?_eq_some_iff.1 hj).1]; exact hj⟩

/-- No block but the row's own may have changed. -/
def RowApart (v : Value) (w w' : World) : Prop := ∀ q : Nat, q < w.heap.size → v.ownBlock ≠ some q → w'.heap[q]? = w.heap[q]?
theorem RowApart.of_below {v : Value} {w w' : World} (h : Below w.heap.size w w') : RowApart v w w' := fun q hq _ => h.block q hq
theorem RowApart.grown {v : Value} {w w1 w' : World} (h : Below w.heap.size w w1) (hg : w1.grownBy w' v.ownBlock) : RowApart v w w' := fun q hq hv => (hg.block q (Nat.lt_of_lt_of_le hq h.size) (fun e => hv e.symm)).trans (h.block q hq)
theorem RowApart.blk {v : Value} {w w' : World} {q : Nat} {t : TypeId} {cs : Array Value} (h : RowApart v w w') (hq : Blk w q t cs) (hv : v.ownBlock ≠ some q) : Blk w' q t cs := (h q hq.lt hv).trans hq

/-- Where a look is put: nowhere, if it makes no difference. -/
def LookIs (g : List Pt) (f m o v : Int) (yes no : Nat) (g' : List Pt) (i : Nat) : Prop :=
  (yes = no ∧ g' = g ∧ i = yes) ∨ (yes ≠ no ∧ PutIs g ⟨0, f, m, o, v, yes, no⟩ g' i)
theorem LookIs.one {g g1 g2 : List Pt} {f m o v : Int} {yes no i j : Nat} (h : LookIs g f m o v yes no g1 i) (h' : LookIs g f m o v yes no g2 j) : g1 = g2 ∧ i = j := by
  rcases h with ⟨e, rfl, rfl⟩ | ⟨e, h⟩ <;> rcases h' with ⟨e', rfl, rfl⟩ | ⟨e', h'⟩
  · exact ⟨rfl, rfl⟩
  · exact absurd e e'
  · exact absurd e' e
  · exact h.one h'

/-- Where a test is put as a look. -/
def TestIs (g : List Pt) (t : Ts) (yes no : Nat) (g' : List Pt) (i : Nat) : Prop :=
  (t.op = 1 ∧ LookIs g t.field t.mask 1 t.value yes no g' i) ∨ (t.op ≠ 1 ∧ t.op = 3 ∧ LookIs g t.field t.mask 3 t.value yes no g' i) ∨
  (t.op ≠ 1 ∧ t.op ≠ 3 ∧ t.value = 0 ∧ g' = g ∧ i = no) ∨ (t.op ≠ 1 ∧ t.op ≠ 3 ∧ t.value ≠ 0 ∧ LookIs g t.field t.mask 3 (t.value - 1) no yes g' i)

end Go.Proofs.YtkiacbfpnidjlaaGreatDoor

-- spec's graphs of policies: l4Rule, l4Make: every look leads to points ahead of it.
namespace Go.Proofs.YtkiacbfpnidjlaaGreatDoor
open Go.RowKit
set_option linter.unusedSimpArgs false
set_option linter.unusedVariables false

/-- Every look leads to points ahead of it. -/
def Ahead (g : List Pt) : Prop := ∀ (i : Nat) (p : Pt), g[i]? = some p → p.op > 0 → ∃ y n : Nat, p.yes = y ∧ p.no = n ∧ y < i ∧ n < i
theorem Ahead.nil : Ahead [] := fun i p h => by simp at h
theorem Ahead.put {g g' : List Pt} {x : Pt} {i : Nat} (h : Ahead g) (hp : PutIs g x g' i) (hx : x.op > 0 → ∃ y n : Nat, x.yes = y ∧ x.no = n ∧ y < g.length ∧ n < g.length) : Ahead g' ∧ i < g'.length ∧ g.length ≤ g'.length ∧ g'.length ≤ g.length + 1 := by
  obtain ⟨-, a1, a2, a3, -⟩ := hp.at_
  refine ⟨?_, a1, a2, a3⟩
  rcases hp with ⟨rfl, -, -⟩ | ⟨rfl, rfl, -⟩
  · exact h
  · intro j p hj hop
    by_cases e : j < g.length
    · rw [List.getElem?_append_left e] at hj
      exact h j p hj hop
    · rw [List.getElem?_append_right (by omega)] at hj
      have e2 : j - g.length = 0 := by have := (List.getElem?_eq_some_iff.1 hj).1; simp at this; omega
      rw [e2] at hj
      simp at hj
      subst hj
      obtain ⟨y, n, h1, h2, h3, h4⟩ := hx hop
      exact ⟨y, n, h1, h2, by omega, by omega⟩
theorem Ahead.look {g g' : List Pt} {f m o v : Int} {y n i : Nat} (h : Ahead g) (hl : LookIs g f m o v y n g' i) (hy : y < g.length) (hn : n < g.length) : Ahead g' ∧ i < g'.length ∧ g.length ≤ g'.length ∧ g'.length ≤ g.length + 1 := by
  rcases hl with ⟨-, rfl, rfl⟩ | ⟨-, hp⟩
  · exact ⟨h, hy, Nat.le_refl _, by omega⟩
  · exact h.put hp fun _ => ⟨y, n, rfl, rfl, hy, hn⟩
theorem Ahead.test {g g' : List Pt} {t : Ts} {y n i : Nat} (h : Ahead g) (hl : TestIs g t y n g' i) (hy : y < g.length) (hn : n < g.length) : Ahead g' ∧ i < g'.length ∧ g.length ≤ g'.length ∧ g'.length ≤ g.length + 1 := by
  rcases hl with ⟨-, hl⟩ | ⟨-, -, hl⟩ | ⟨-, -, -, rfl, rfl⟩ | ⟨-, -, -, hl⟩
  · exact h.look hl hy hn
  · exact h.look hl hy hn
  · exact ⟨h, hn, Nat.le_refl _, by omega⟩
  · exact h.look hl hn hy

end Go.Proofs.YtkiacbfpnidjlaaGreatDoor

-- spec's graphs of policies: l4Used: to which points something comes.
namespace Go.Proofs.YtkiacbfpnidjlaaGreatDoor
open Go.RowKit
set_option linter.unusedSimpArgs false
set_option linter.unusedVariables false

/-- Marked: a place, and whatever a marked look from a place on leads to. -/
def UsedFrom (g : List Pt) (at_ k : Nat) (us : List Bool) : Prop :=
  us.length = g.length ∧ us[at_]? = some true ∧ ∀ (i : Nat) (p : Pt), k ≤ i → i ≤ at_ → us[i]? = some true → g[i]? = some p → p.op > 0 → ∃ y n : Nat, p.yes = y ∧ p.no = n ∧ y < i ∧ n < i ∧ us[y]? = some true ∧ us[n]? = some true
theorem UsedFrom.start {g : List Pt} {at_ n : Nat} (hl : g.length = n) (h : at_ < n) : UsedFrom g at_ (at_ + 1) ((List.replicate n false).set at_ true) :=
  ⟨by simp [hl], by simp [List.getElem?_set, h], fun i p h1 h2 => by omega⟩
theorem UsedFrom.skip {g : List Pt} {at_ k : Nat} {us : List Bool} {p : Pt} (h : UsedFrom g at_ (k + 1) us) (hg : g[k]? = some p) (hs : us[k]? = some false ∨ ¬ p.op > 0) : UsedFrom g at_ k us := by
  refine ⟨h.1, h.2.1, fun i q h1 h2 h3 h4 h5 => ?_⟩
  by_cases e : i = k
  · subst e
    rw [hg] at h4
    cases h4
    rcases hs with hs | hs
    · rw [hs] at h3; cases h3
    · exact absurd h5 hs
  · exact h.2.2 i q (by omega) h2 h3 h4 h5
theorem UsedFrom.mark {g : List Pt} {at_ k y n : Nat} {us : List Bool} {p : Pt} (h : UsedFrom g at_ (k + 1) us) (hg : g[k]? = some p) (hy : p.yes = y) (hn : p.no = n) (hyk : y < k) (hnk : n < k) : UsedFrom g at_ k ((us.set y true).set n true) := by
  have hk := (List.getElem?_eq_some_iff.1 hg).1
  have hl := h.1
  have key : ∀ j : Nat, k ≤ j → ((us.set y true).set n true)[j]? = us[j]? := fun j hj => by
    rw [List.getElem?_set_ne (by omega), List.getElem?_set_ne (by omega)]
  have ky : ((us.set y true).set n true)[y]? = some true := set_true_keep (by rw [List.getElem?_set_self (by omega)])
  have kn : ((us.set y true).set n true)[n]? = some true := by rw [List.getElem?_set_self (by simp; omega)]
  refine ⟨by simp [hl], set_true_keep (set_true_keep h.2.1), fun i q h1 h2 h3 h4 h5 => ?_⟩
  rw [key i h1] at h3
  by_cases e : i = k
  · subst e
    rw [hg] at h4
    cases h4
    exact ⟨y, n, hy, hn, hyk, hnk, ky, kn⟩
  · obtain ⟨y', n', a, b, c, d, e1, e2⟩ := h.2.2 i q (by omega) h2 h3 h4 h5
    exact ⟨y', n', a, b, c, d, set_true_keep (set_true_keep e1), set_true_keep (set_true_keep e2)⟩

end Go.Proofs.YtkiacbfpnidjlaaGreatDoor

-- spec's graphs of policies: l4Trim.
namespace Go.Proofs.YtkiacbfpnidjlaaGreatDoor
open Go.RowKit
set_option linter.unusedSimpArgs false
set_option linter.unusedVariables false

/-- Where what was marked has been put. -/
def ToOk (us : List Bool) (ts : List Nat) (k m : Nat) : Prop := ∀ j : Nat, j < k → us[j]? = some true → ∃ t, ts[j]? = some t ∧ t < m
theorem ToOk.skip {us : List Bool} {ts : List Nat} {k m : Nat} (h : ToOk us ts k m) (hk : us[k]? = some false) : ToOk us ts (k + 1) m := fun j hj hu => by
  by_cases e : j = k
  · subst e; rw [hk] at hu; cases hu
  · exact h j (by omega) hu
theorem ToOk.put {us : List Bool} {ts : List Nat} {k m m' a : Nat} (h : ToOk us ts k m) (hk : k < ts.length) (hm : m ≤ m') (ha : a < m') : ToOk us (ts.set k a) (k + 1) m' := fun j hj hu => by
  by_cases e : j = k
  · subst e; exact ⟨a, List.getElem?_set_self hk, ha⟩
  · obtain ⟨t, h1, h2⟩ := h j (by omega) hu
    exact ⟨t, by rw [List.getElem?_set_ne (fun e2 => e e2.symm)]; exact h1, by omega⟩

theorem own_ne_int {w : World} {base n k : Nat} {e t : TypeId} {size : Nat} {v : Value} {xs : List Value} {cs : Array Value} (h : w.ownsRow base e size v n xs) (hk : Blk w k t cs) (ht : t ≠ e) : v.ownBlock ≠ some k := by
  rcases h.2 with ⟨rfl, _⟩ | ⟨g', cap', cur, rfl, _, hg, _⟩
  · intro e; cases e
  · intro e
    cases e
    have := hg.symm.trans hk
    exact ht (by injection this with h1; injection h1 with h2 h3; exact h3.symm)

end Go.Proofs.YtkiacbfpnidjlaaGreatDoor
