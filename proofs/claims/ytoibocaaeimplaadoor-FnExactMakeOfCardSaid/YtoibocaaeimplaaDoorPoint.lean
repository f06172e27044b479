/- Points of graphs: their cells; whether a point is ok (both programs'); toPoint, eqPoint. -/
import Derived.Test.YtoibocaaeimplaaDoorBase
namespace Go.Proofs.YtoibocaaeimplaaDoor
open Go.RowKit
set_option linter.unusedSimpArgs false
set_option linter.unusedVariables false

structure Pt where
  verdict : Int
  field : Int
  mask : Int
  op : Int
  value : Int
  yes : Int
  no : Int

/-- Two points are the same, field by field. -/
noncomputable def ptEq (p q : Pt) : Bool := @decide (p = q) (Classical.propDecidable _)
theorem ptEq_iff {p q : Pt} : ptEq p q = true ↔ p = q := by simp [ptEq]
theorem ptEq_of {p q : Pt} {b : Bool} (h : b = true ↔ p = q) : b = ptEq p q := by rw [Bool.eq_iff_iff, h, ptEq_iff]
theorem Pt.ext_iff' {p q : Pt} : p = q ↔ p.verdict = q.verdict ∧ p.field = q.field ∧ p.mask = q.mask ∧ p.op = q.op ∧ p.value = q.value ∧ p.yes = q.yes ∧ p.no = q.no := by
  cases p; cases q; simp

def Pt.cells (p : Pt) : List Value := [.int .i64 p.verdict, .int .i64 p.field, .int .i64 p.mask, .int .i64 p.op, .int .i64 p.value, .int .i64 p.yes, .int .i64 p.no]
theorem Pt.rows (g : List Pt) : ∀ r ∈ g.map Pt.cells, r.length = 7 := by simp [Pt.cells]

/-- What an element's cells hold, in every world that is as this one below. -/
def PtAt (w : World) (b o : Nat) (p : Pt) : Prop :=
  ∀ (w' : World) (B : Nat), Below B w w' → b < B → w'.cell? ⟨b, o, none⟩ = some (.int .i64 p.verdict) ∧ w'.cell? ⟨b, o + 1, none⟩ = some (.int .i64 p.field) ∧ w'.cell? ⟨b, o + 2, none⟩ = some (.int .i64 p.mask)
     ∧ w'.cell? ⟨b, o + 3, none⟩ = some (.int .i64 p.op) ∧ w'.cell? ⟨b, o + 4, none⟩ = some (.int .i64 p.value) ∧ w'.cell? ⟨b, o + 5, none⟩ = some (.int .i64 p.yes) ∧ w'.cell? ⟨b, o + 6, none⟩ = some (.int .i64 p.no)

theorem pts_get {w : World} {A : Option Addr} {n c : Nat} {g : List Pt} (h : SlA w 7 A n c (g.map Pt.cells)) {k : Nat} (hk : k < n) :
    ∃ b off p, A = some ⟨b, off, none⟩ ∧ b < w.heap.size ∧ g[k]? = some p ∧ PtAt w b (off + k * 7) p := by
  have hl := h.len
  rw [List.length_map] at hl
  obtain ⟨b, o, e, hb, hc⟩ := h.get hk
  have hk' : k < g.length := by omega
  refine ⟨b, o, g[k], e, hb, List.getElem?_eq_getElem hk', fun w' B hw hB => ?_⟩
  have hr : (g.map Pt.cells)[k]? = some (g[k].cells) := by simp [hk']
  have f := hc _ hr
  exact ⟨cellAt hw hB (f 0 _ rfl), cellAt hw hB (f 1 _ rfl), cellAt hw hB (f 2 _ rfl), cellAt hw hB (f 3 _ rfl), cellAt hw hB (f 4 _ rfl), cellAt hw hB (f 5 _ rfl), cellAt hw hB (f 6 _ rfl)⟩

theorem verdictOk_any (n : Int) (w : World) :
    Calls Tryd.prog 69 #[.int .i64 n] w fun e w' => e = .returned (.bool (decide (1 ≤ n ∧ n ≤ 4))) ∧ w = w' := by
  go_enter Tryd.func69, Tryd.ntmps69
  go_wp2
  all_goals (go_ret; exact ⟨ret_bool (by simp; omega), rfl⟩)

theorem wordOk_any (n : Int) (w : World) :
    Calls Tryd.prog 70 #[.int .i64 n] w fun e w' => e = .returned (.bool (decide (0 ≤ n ∧ n ≤ 4294967295))) ∧ w = w' := by
  go_enter Tryd.func70, Tryd.ntmps70
  go_wp2
  all_goals (go_ret; exact ⟨ret_bool (by simp; omega), rfl⟩)

/-- A point that is ok at its place. -/
def ptOk (p : Pt) (place : Int) : Prop :=
  (p.op = 0 ∧ (1 ≤ p.verdict ∧ p.verdict ≤ 4) ∧ p.field = 0 ∧ p.mask = 0 ∧ p.value = 0 ∧ p.yes = 0 ∧ p.no = 0) ∨
  ((p.op = 1 ∨ p.op = 3) ∧ p.verdict = 0 ∧ (0 ≤ p.field ∧ p.field ≤ 4) ∧ (1 ≤ p.mask ∧ p.mask ≤ 4294967295) ∧ (0 ≤ p.value ∧ p.value ≤ 4294967295) ∧ (0 ≤ p.yes ∧ p.yes < place) ∧ (0 ≤ p.no ∧ p.no < place))
noncomputable def ptOkB (p : Pt) (place : Int) : Bool := @decide (ptOk p place) (Classical.propDecidable _)
theorem ptOkB_of {p : Pt} {place : Int} {b : Bool} (h : b = true ↔ ptOk p place) : b = ptOkB p place := by
  unfold ptOkB
  rw [Bool.eq_iff_iff, h]; simp
theorem ptOkB_iff {p : Pt} {place : Int} : ptOkB p place = true ↔ ptOk p place := by simp [ptOkB]

set_option maxHeartbeats 1000000 in
theorem pointOk_any (p : Pt) (place : Int) (w : World) :
    Calls Tryd.prog 51 #[.agg #[.int .i64 p.verdict, .int .i64 p.field, .int .i64 p.mask, .int .i64 p.op, .int .i64 p.value, .int .i64 p.yes, .int .i64 p.no], .int .i64 place] w fun e w' => e = .returned (.bool (ptOkB p place)) ∧ Below w.heap.size w w' := by
  go_enter Tryd.func51, Tryd.ntmps51
  go_wp2_with (first | (go_at_call 69; refine (verdictOk_any _ _).mono ?_; rintro e w' ⟨rfl, rfl⟩) | (go_at_call 70; refine (wordOk_any _ _).mono ?_; rintro e w' ⟨rfl, rfl⟩))
  all_goals (go_ret; refine ⟨ret_bool ?_, by go_grown⟩)
  all_goals (simp only [beq_iff_eq, beq_eq_false_iff_ne] at *; apply ptOkB_of; unfold ptOk; simp only [decide_eq_true_eq, true_iff, Bool.false_eq_true, false_iff]; omega)
end Go.Proofs.YtoibocaaeimplaaDoor
