/- The rows of a policy's rules with the first k verdicts made one, in plain Lean. -/
import Derived.Test.YtbgoppfanibdiaaDoorTxt
import Derived.Test.YtbgoppfanibdiaaDoorPolS2
namespace Go.Proofs.YtbgoppfanibdiaaDoor
open Go.RowKit
set_option linter.unusedSimpArgs false
set_option linter.unusedVariables false

def vset (e : Int) (cs : List Value) : List Value := cs.set 0 (.int .i64 e)
def vsetTo (e : Int) (k : Nat) (css : List (List Value)) : List (List Value) := (css.take k).map (vset e) ++ css.drop k
theorem vsetTo_zero (e : Int) (css : List (List Value)) : vsetTo e 0 css = css := by simp [vsetTo]
theorem vsetTo_len (e : Int) (k : Nat) (css : List (List Value)) : (vsetTo e k css).length = css.length := by
  simp only [vsetTo, List.length_append, List.length_map, List.length_take, List.length_drop]; omega
theorem vsetTo_all (e : Int) (css : List (List Value)) : vsetTo e css.length css = css.map (vset e) := by simp [vsetTo]
theorem vsetTo_at {e : Int} {k : Nat} {css : List (List Value)} {cs : List Value} (h : css[k]? = some cs) : (vsetTo e k css)[k]? = some cs := by
  have hk := (List.getElem?_eq_some_iff.1 h).1
  unfold vsetTo
  rw [List.getElem?_append_right (by rw [List.length_map, List.length_take]; omega), List.length_map, List.length_take, List.getElem?_drop, ← h]
  congr 1
  omega
theorem vsetTo_succ {e : Int} {k : Nat} {css : List (List Value)} {cs : List Value} (h : css[k]? = some cs) : vsetTo e (k + 1) css = (vsetTo e k css).set k (vset e cs) := by
  have hk := (List.getElem?_eq_some_iff.1 h).1
  apply List.ext_getElem?
  intro j
  unfold vsetTo
  rw [List.getElem?_set]
  simp only [List.getElem?_append, List.length_map, List.length_take, List.getElem?_map, List.getElem?_take, List.getElem?_drop, List.length_append, List.length_drop]
  rcases Nat.lt_trichotomy j k with hj | hj | hj
  · rw [if_pos (show j < min (k + 1) css.length by omega), if_pos (show j < k + 1 by omega), if_neg (show ¬ k = j by omega), if_pos (show j < min k css.length by omega), if_pos hj]
  · subst hj
    rw [if_pos (show j < min (j + 1) css.length by omega), if_pos (show j < j + 1 by omega), if_pos rfl, h, if_pos (show j < min j css.length + (css.length - j) by omega)]
    rfl
  · rw [if_neg (show ¬ j < min (k + 1) css.length by omega), if_neg (show ¬ k = j by omega), if_neg (show ¬ j < min k css.length by omega)]
    congr 1
    omega
def oneV (p : Pol) : Pol := ⟨p.rules.map fun r => { r with verdict := p.els }, p.els⟩
theorem oneV_all (p : Pol) : ∀ r ∈ (oneV p).rules, r.verdict = (oneV p).els := by
  intro r hr
  obtain ⟨q, _, rfl⟩ := List.mem_map.1 hr
  rfl
theorem rules_vset {w : World} {rs : List Rl} {css : List (List Value)} (e : Int) (h : RulesAre w rs css) : RulesAre w (rs.map fun r => { r with verdict := e }) (css.map (vset e)) := by
  refine ⟨by rw [List.length_map, List.length_map]; exact h.1, fun k r cs hr hc => ?_⟩
  rw [List.getElem?_map] at hr hc
  obtain ⟨r0, hr0, rfl⟩ := Option.map_eq_some_iff.1 hr
  obtain ⟨c0, hc0, rfl⟩ := Option.map_eq_some_iff.1 hc
  obtain ⟨tv, rfl, hs⟩ := h.2 k r0 c0 hr0 hc0
  exact ⟨tv, rfl, hs⟩
end Go.Proofs.YtbgoppfanibdiaaDoor
