/- impl.GraphOk and spec.GraphOk: both say whether points are a graph. -/
import Derived.Test.YtoibocaaeimplaaDoorPoint
namespace Go.Proofs.YtoibocaaeimplaaDoor
open Go.RowKit
set_option linter.unusedSimpArgs false
set_option linter.unusedVariables false

def graphOk (g : List Pt) : Prop := (1 ≤ g.length ∧ g.length ≤ 120) ∧ ∀ (k : Nat) (p : Pt), g[k]? = some p → ptOk p k
noncomputable def graphOkB (g : List Pt) : Bool := @decide (graphOk g) (Classical.propDecidable _)
theorem graphOkB_of {g : List Pt} {b : Bool} (h : b = true ↔ graphOk g) : b = graphOkB g := by
  unfold graphOkB
  rw [Bool.eq_iff_iff, h]; simp
theorem graphOkB_iff {g : List Pt} : graphOkB g = true ↔ graphOk g := by simp [graphOkB]

def okTo (g : List Pt) (k : Nat) : Prop := ∀ (j : Nat) (p : Pt), j < k → g[j]? = some p → ptOk p j
theorem okTo_zero (g : List Pt) : okTo g 0 := fun _ _ h => absurd h (by omega)
theorem okTo_succ {g : List Pt} {k : Nat} {p : Pt} (h : okTo g k) (hp : g[k]? = some p) (ho : ptOk p k) : okTo g (k + 1) := fun j q hj hq => by
  by_cases e : j = k
  · subst e; rw [hp] at hq; cases hq; exact ho
  · exact h j q (by omega) hq
theorem graphOk_of_to {g : List Pt} {k : Nat} (h : okTo g k) (hk : g.length ≤ k) (hl : 1 ≤ g.length ∧ g.length ≤ 120) : graphOk g :=
  ⟨hl, fun j p hj => h j p (by have := (List.getElem?_eq_some_iff.1 hj).1; omega) hj⟩
theorem not_graphOk {g : List Pt} {k : Nat} {p : Pt} (hp : g[k]? = some p) (ho : ¬ ptOk p k) : ¬ graphOk g := fun h => ho (h.2 k p hp)

set_option maxHeartbeats 1000000 in
theorem GraphOk_any (v : Value) (g : List Pt) (w : World) (hs : Sl w 7 v (g.map Pt.cells)) :
    Calls Tryd.prog 28 #[v] w fun e w' => e = .returned (.bool (graphOkB g)) ∧ Below w.heap.size w w' := by
  obtain ⟨A, n, c, rfl, hA⟩ := hs
  have hl : g.length = n := by have := hA.len; simpa using this
  have hc := hA.cap
  have hm := hA.max
  unfold maxLen at hm
  have HL := Lib.hid hl; clear hl
  by_cases h1 : 1 ≤ n ∧ n ≤ 120
  · obtain ⟨h1, h2⟩ := h1
    go_enter Tryd.func28, Tryd.ntmps28
    go_wp2
    go_loopw [15] (fun i wr => ∃ k : Nat, k ≤ n ∧ i = .int .i64 k ∧ okTo g k ∧ Below w.heap.size w wr) (fun i _ => n - (intOf i).toNat)
    case atStart => exact ⟨0, Nat.zero_le _, rfl, okTo_zero g, Below.refl _ _⟩
    case round =>
      obtain ⟨k, hk, rfl, hto, hb⟩ := hrel
      have hsz := hb.size
      by_cases hlt : k < n
      · obtain ⟨b, off, p, rfl, hab, hgp, hcell⟩ := pts_get hA hlt
        obtain ⟨c0, c1, c2, c3, c4, c5, c6⟩ := hcell wr _ hb hab
        have HP := Lib.hid hgp; clear hgp hcell
        go_wp2_with (go_at_call 51; refine (pointOk_any p _ _).mono ?_; rintro e w1 ⟨rfl, hb1⟩)
        · go_ret
          refine ⟨ret_bool (graphOkB_of (by simpa using not_graphOk HP.out (by rw [← ptOkB_iff]; simp_all))), below_step ?_ ?_ hb1⟩ <;> go_grown
        · refine ⟨⟨k + 1, by omega, by go_num, okTo_succ hto HP.out (by rw [← ptOkB_iff]; simp_all), below_step ?_ ?_ hb1⟩, by simp [intOf]; omega⟩ <;> go_grown
      · go_wp2
        go_ret
        refine ⟨ret_bool (graphOkB_of ?_), hb⟩
        simpa using graphOk_of_to hto (by rw [HL.out]; omega) (by rw [HL.out]; exact ⟨h1, h2⟩)
  · have hno : false = graphOkB g := graphOkB_of (by simp [graphOk, HL.out]; intro h; omega)
    have HN := Lib.hid hno; clear hno
    by_cases h2 : n < 1
    · have h3 : ¬ (1 ≤ n) := by omega
      go_enter Tryd.func28, Tryd.ntmps28
      go_wp2
      go_ret
      exact ⟨ret_bool HN.out, Below.refl _ _⟩
    · have h3 : 120 < n := by omega
      go_enter Tryd.func28, Tryd.ntmps28
      go_wp2
      go_ret
      exact ⟨ret_bool HN.out, Below.refl _ _⟩

set_option maxRecDepth 100000 in
set_option maxHeartbeats 4000000 in
theorem sGraphOk_any (v : Value) (g : List Pt) (w : World) (hs : Sl w 7 v (g.map Pt.cells)) :
    Calls Tryd.prog 25 #[v] w fun e w' => e = .returned (.bool (graphOkB g)) ∧ Below w.heap.size w w' := by
  obtain ⟨A, n, c, rfl, hA⟩ := hs
  have hl : g.length = n := by have := hA.len; simpa using this
  have hc := hA.cap
  have hm := hA.max
  unfold maxLen at hm
  have HL := Lib.hid hl; clear hl
  go_enter Tryd.func25, Tryd.ntmps25
  go_wp2
  go_loopw [3] (fun i wr => ∃ k : Nat, k ≤ n ∧ i = .int .i64 k ∧ okTo g k ∧ Below w.heap.size w wr) (fun i _ => n - (intOf i).toNat)
  case atStart => exact ⟨0, Nat.zero_le _, rfl, okTo_zero g, Below.refl _ _⟩
  case round =>
    obtain ⟨k, hk, rfl, hto, hb⟩ := hrel
    have hsz := hb.size
    by_cases hlt : k < n
    · obtain ⟨b, off, p, rfl, hab, hgp, hcell⟩ := pts_get hA hlt
      obtain ⟨c0, c1, c2, c3, c4, c5, c6⟩ := hcell wr _ hb hab
      have HP := Lib.hid hgp; clear hgp hcell
      by_cases hop : p.op = 0
      · have h0 : (p.op == 0) = true := by simp [hop]
        have h1 : (p.op == 1) = false := by simp [hop]
        have h3 : (p.op == 3) = false := by simp [hop]
        have HO := Lib.hid hop; clear hop
        go_wp2_with (go_at_call 39; refine (l1In_any _ _ _ _).mono ?_; rintro e w' ⟨rfl, rfl⟩)
        all_goals try simp only [Bool.not_eq_true', Bool.not_eq_false', inB_iff, inB_not] at *
        all_goals have HO := HO.out
        all_goals first
          | (refine ⟨⟨k + 1, by omega, by go_num, okTo_succ hto HP.out (by unfold ptOk; omega), by go_grown⟩, by simp [intOf]; omega⟩)
          | (go_ret; exact ⟨ret_bool (graphOkB_of (by simpa using not_graphOk HP.out (by unfold ptOk; omega))), by go_grown⟩)
      · have h0 : (p.op == 0) = false := by simp [hop]
        have HO := Lib.hid hop; clear hop
        go_wp2_with (go_at_call 39; refine (l1In_any _ _ _ _).mono ?_; rintro e w' ⟨rfl, rfl⟩)
        all_goals try simp only [Bool.not_eq_true', Bool.not_eq_false', inB_iff, inB_not] at *
        all_goals have HO := HO.out
        all_goals first
          | (refine ⟨⟨k + 1, by omega, by go_num, okTo_succ hto HP.out (by unfold ptOk; omega), by go_grown⟩, by simp [intOf]; omega⟩)
          | (go_ret; exact ⟨ret_bool (graphOkB_of (by simpa using not_graphOk HP.out (by unfold ptOk; omega))), by go_grown⟩)
    · go_wp2_with (go_at_call 39; refine (l1In_any _ _ _ _).mono ?_; rintro e w' ⟨rfl, rfl⟩)
      go_ret
      refine ⟨ret_bool (graphOkB_of ?_), hb⟩
      rw [inB_iff]
      exact ⟨fun h => graphOk_of_to hto (by rw [HL.out]; omega) (by rw [HL.out]; omega), fun h => by have := h.1; rw [HL.out] at this; omega⟩
end Go.Proofs.YtoibocaaeimplaaDoor
