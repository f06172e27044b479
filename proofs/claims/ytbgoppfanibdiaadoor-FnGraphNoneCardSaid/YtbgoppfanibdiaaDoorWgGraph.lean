/- The laws' helper wgGraph: two graphs are the same. -/
import Derived.Test.YtbgoppfanibdiaaDoorPts
import Derived.Deep.OwnRows
import Derived.Deep.QuietTactic
import Derived.BigQuiet
namespace Go.Proofs.YtbgoppfanibdiaaDoor
open Go.RowKit Go.Sort
set_option linter.unusedSimpArgs false
set_option linter.unusedVariables false

noncomputable def ptsEqG (g h : List Pt) : Bool := @decide (g = h) (Classical.propDecidable _)
theorem ptsEqG_iff {g h : List Pt} : ptsEqG g h = true ↔ g = h := by simp [ptsEqG]
theorem ptsEqG_of {g h : List Pt} {b : Bool} (e : b = true ↔ g = h) : b = ptsEqG g h := by rw [Bool.eq_iff_iff, e, ptsEqG_iff]
def ptsSameG (g h : List Pt) (k : Nat) : Prop := ∀ j : Nat, j < k → g[j]? = h[j]?
theorem ptsSameG_zero (g h : List Pt) : ptsSameG g h 0 := fun _ hj => absurd hj (by omega)
theorem ptsSameG_succ {g h : List Pt} {k : Nat} {p q : Pt} (hs : ptsSameG g h k) (hp : g[k]? = some p) (hq : h[k]? = some q) (e : p = q) : ptsSameG g h (k + 1) := fun j hj => by
  by_cases hjk : j = k
  · subst hjk; rw [hp, hq, e]
  · exact hs j (by omega)
theorem ptsSameG_all {g h : List Pt} {n : Nat} (hs : ptsSameG g h n) (hg : g.length = n) (hh : h.length = n) : g = h := by
  apply List.ext_getElem?
  intro j
  by_cases hj : j < n
  · exact hs j hj
  · rw [List.getElem?_eq_none (by omega), List.getElem?_eq_none (by omega)]
theorem wgDrewP (w : World) (m : Nat) : Below w.heap.size w (w.drewN m) := ⟨rfl, rfl, rfl, Nat.le_refl _, fun _ _ => rfl⟩
theorem pt_cases {p q : Pt} (e : p ≠ q) : (p.verdict == q.verdict) = false ∨ ((p.verdict == q.verdict) = true ∧ (p.field == q.field) = false) ∨ ((p.verdict == q.verdict) = true ∧ (p.field == q.field) = true ∧ (p.mask == q.mask) = false) ∨
    ((p.verdict == q.verdict) = true ∧ (p.field == q.field) = true ∧ (p.mask == q.mask) = true ∧ (p.op == q.op) = false) ∨
    ((p.verdict == q.verdict) = true ∧ (p.field == q.field) = true ∧ (p.mask == q.mask) = true ∧ (p.op == q.op) = true ∧ (p.value == q.value) = false) ∨
    ((p.verdict == q.verdict) = true ∧ (p.field == q.field) = true ∧ (p.mask == q.mask) = true ∧ (p.op == q.op) = true ∧ (p.value == q.value) = true ∧ (p.yes == q.yes) = false) ∨
    ((p.verdict == q.verdict) = true ∧ (p.field == q.field) = true ∧ (p.mask == q.mask) = true ∧ (p.op == q.op) = true ∧ (p.value == q.value) = true ∧ (p.yes == q.yes) = true ∧ (p.no == q.no) = false) := by
  have hne : ¬ (p.verdict = q.verdict ∧ p.field = q.field ∧ p.mask = q.mask ∧ p.op = q.op ∧ p.value = q.value ∧ p.yes = q.yes ∧ p.no = q.no) := fun e2 => e (Pt.ext_iff'.2 e2)
  simp only [beq_iff_eq, beq_eq_false_iff_ne]
  by_cases a1 : p.verdict = q.verdict
  · by_cases a2 : p.field = q.field
    · by_cases a3 : p.mask = q.mask
      · by_cases a4 : p.op = q.op
        · by_cases a5 : p.value = q.value
          · by_cases a6 : p.yes = q.yes
            · by_cases a7 : p.no = q.no
              · exact absurd ⟨a1, a2, a3, a4, a5, a6, a7⟩ hne
              · exact .inr (.inr (.inr (.inr (.inr (.inr ⟨a1, a2, a3, a4, a5, a6, a7⟩)))))
            · exact .inr (.inr (.inr (.inr (.inr (.inl ⟨a1, a2, a3, a4, a5, a6⟩)))))
          · exact .inr (.inr (.inr (.inr (.inl ⟨a1, a2, a3, a4, a5⟩))))
        · exact .inr (.inr (.inr (.inl ⟨a1, a2, a3, a4⟩)))
      · exact .inr (.inr (.inl ⟨a1, a2, a3⟩))
    · exact .inr (.inl ⟨a1, a2⟩)
  · exact .inl a1

set_option maxHeartbeats 2000000 in
theorem wgGraph_any (u v : Value) (g h : List Pt) (w : World) (hu : Sl w 7 u (g.map Pt.cells)) (hv : Sl w 7 v (h.map Pt.cells)) :
    Calls Tryd.prog 5 #[u, v] w fun e w' => e = .returned (.bool (ptsEqG g h)) ∧ Below w.heap.size w w' := by
  obtain ⟨A, n, c, rfl, hA⟩ := hu
  obtain ⟨A', n', c', rfl, hA'⟩ := hv
  have hl : g.length = n := by have := hA.len; simpa using this
  have hl' : h.length = n' := by have := hA'.len; simpa using this
  have hc := hA.cap
  have hm := hA.max
  have hc' := hA'.cap
  have hm' := hA'.max
  unfold maxLen at hm hm'
  have HL := Lib.hid hl; have HL' := Lib.hid hl'; clear hl hl'
  by_cases hn : n = n'
  · subst hn
    go_enter Tryd.func5, Tryd.ntmps5
    go_wp2
    go_loopw [5] (fun i wr => ∃ k : Nat, k ≤ n ∧ i = .int .i64 k ∧ ptsSameG g h k ∧ Below w.heap.size w wr) (fun i _ => n - (intOf i).toNat)
    case atStart => exact ⟨0, Nat.zero_le _, rfl, ptsSameG_zero g h, Below.refl _ _⟩
    case round =>
      obtain ⟨k, hk, rfl, hto, hb⟩ := hrel
      have hsz := hb.size
      by_cases hlt : k < n
      · obtain ⟨b, off, p, rfl, hab, hgp, hcell⟩ := pts_get hA hlt
        obtain ⟨b', off', q, rfl, hab', hgq, hcell'⟩ := pts_get hA' hlt
        obtain ⟨c0, c1, c2, c3, c4, c5, c6⟩ := hcell wr _ hb hab
        obtain ⟨d0, d1, d2, d3, d4, d5, d6⟩ := hcell' wr _ hb hab'
        have HP := Lib.hid hgp; have HQ := Lib.hid hgq; clear hgp hcell hgq hcell'
        have hki : (k : Int) < n := by omega
        by_cases e : p = q
        · subst e
          go_wp2
          go_quiet (fail)
          go_wp2
          exact ⟨⟨k + 1, by omega, by go_num, ptsSameG_succ hto HP.out HQ.out rfl, below_step hb hsz (wgDrewP _ _)⟩, by simp [intOf]; omega⟩
        · have HE := Lib.hid e
          rcases pt_cases e with h1 | ⟨h1, h2⟩ | ⟨h1, h2, h3⟩ | ⟨h1, h2, h3, h4⟩ | ⟨h1, h2, h3, h4, h5⟩ | ⟨h1, h2, h3, h4, h5, h6⟩ | ⟨h1, h2, h3, h4, h5, h6, h7⟩
          all_goals
            clear e
            go_wp2
            go_quiet (fail)
            go_wp2
            go_ret
            refine ⟨ret_bool (ptsEqG_of ?_), below_step hb hsz (wgDrewP _ _)⟩
            simp only [Bool.false_eq_true, false_iff]
            intro e2
            have h1 := HP.out
            rw [e2, HQ.out] at h1
            exact HE.out (Option.some.inj h1).symm
      · obtain rfl : k = n := by omega
        go_wp2
        go_ret
        exact ⟨ret_bool (ptsEqG_of (by simpa using ptsSameG_all hto HL.out HL'.out)), hb⟩
  · go_enter Tryd.func5, Tryd.ntmps5
    have hd : ((n : Int) != (n' : Int)) = true := by simp; omega
    go_wp2
    go_ret
    exact ⟨ret_bool (ptsEqG_of (by simp; intro e; rw [e] at HL; exact hn (HL.out.symm.trans HL'.out))), Below.refl _ _⟩
end Go.Proofs.YtbgoppfanibdiaaDoor
