/- Policies: how they lie in memory; plain words; no Go function is walked here. -/
import Derived.Test.YtoibocaaeimplaaDoorGrown
namespace Go.Proofs.YtoibocaaeimplaaDoor
open Go.RowKit
set_option linter.unusedSimpArgs false
set_option linter.unusedVariables false

structure Ts where
  field : Int
  mask : Int
  op : Int
  value : Int
def Ts.cells (t : Ts) : List Value := [.int .i64 t.field, .int .i64 t.mask, .int .i64 t.op, .int .i64 t.value]
def tsR (ts : List Ts) : List (List Value) := ts.map Ts.cells
theorem tsR_len (ts : List Ts) : (tsR ts).length = ts.length := by simp [tsR]
theorem tsR_rows (ts : List Ts) : ∀ r ∈ tsR ts, r.length = 4 := fun r hr => by
  obtain ⟨t, _, rfl⟩ := List.mem_map.1 hr
  rfl
structure Rl where
  verdict : Int
  low : Int
  high : Int
  tests : List Ts
structure Pol where
  rules : List Rl
  els : Int

/-- A rule's four cells. -/
def RuleIs (w : World) (r : Rl) (cs : List Value) : Prop := ∃ tv, cs = [.int .i64 r.verdict, .int .i64 r.low, .int .i64 r.high, tv] ∧ Sl w 4 tv (tsR r.tests)
theorem RuleIs.below {w w' : World} {r : Rl} {cs : List Value} (h : RuleIs w r cs) (hb : Below w.heap.size w w') : RuleIs w' r cs := by
  obtain ⟨tv, rfl, hs⟩ := h
  exact ⟨tv, rfl, hs.below hb⟩
theorem RuleIs.len {w : World} {r : Rl} {cs : List Value} (h : RuleIs w r cs) : cs.length = 4 := by
  obtain ⟨tv, rfl, _⟩ := h; rfl
/-- A row of rules that is read. -/
def RulesAre (w : World) (rs : List Rl) (css : List (List Value)) : Prop := css.length = rs.length ∧ ∀ (i : Nat) (r : Rl) (cs : List Value), rs[i]? = some r → css[i]? = some cs → RuleIs w r cs
theorem RulesAre.nil (w : World) : RulesAre w [] [] := ⟨rfl, fun i r cs h => by simp at h⟩
theorem RulesAre.below {w w' : World} {rs : List Rl} {css : List (List Value)} (h : RulesAre w rs css) (hb : Below w.heap.size w w') : RulesAre w' rs css :=
  ⟨h.1, fun i r cs h1 h2 => (h.2 i r cs h1 h2).below hb⟩
theorem RulesAre.snoc {w : World} {rs : List Rl} {css : List (List Value)} {r : Rl} {cs : List Value} (h : RulesAre w rs css) (hr : RuleIs w r cs) : RulesAre w (rs ++ [r]) (css ++ [cs]) := by
  refine ⟨by simp [h.1], fun i r' cs' h1 h2 => ?_⟩
  have hl := h.1
  by_cases hi : i < rs.length
  · rw [List.getElem?_append_left hi] at h1
    rw [List.getElem?_append_left (by omega)] at h2
    exact h.2 i r' cs' h1 h2
  · rw [List.getElem?_append_right (by omega)] at h1
    rw [List.getElem?_append_right (by omega), hl] at h2
    have e : i - rs.length = 0 := by have := (List.getElem?_eq_some_iff.1 h1).1; simp at this; omega
    rw [e] at h1 h2
    simp at h1 h2
    subst h1 h2
    exact hr
theorem RulesAre.rows {w : World} {rs : List Rl} {css : List (List Value)} (h : RulesAre w rs css) : ∀ c ∈ css, c.length = 4 := fun c hc => by
  obtain ⟨i, hi, rfl⟩ := List.getElem_of_mem hc
  have h1 := h.1
  exact (h.2 i _ _ (List.getElem?_eq_getElem (by omega)) (List.getElem?_eq_getElem hi)).len
/-- A policy as a value. -/
def PolIs (w : World) (p : Pol) (v : Value) : Prop := ∃ rv css, v = .agg #[rv, .int .i64 p.els] ∧ Sl w 4 rv css ∧ RulesAre w p.rules css
theorem PolIs.below {w w' : World} {p : Pol} {v : Value} (h : PolIs w p v) (hb : Below w.heap.size w w') : PolIs w' p v := by
  obtain ⟨rv, css, rfl, hs, hr⟩ := h
  exact ⟨rv, css, rfl, hs.below hb, hr.below hb⟩
end Go.Proofs.YtoibocaaeimplaaDoor
