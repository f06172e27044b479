/- impl.CodeMost, of whatever program. -/
import Derived.Test.YtbcbbemkjaabjaaDoorMostI
namespace Go.Proofs.YtbcbbemkjaabjaaDoor
open Go.RowKit Go.Shelf
set_option linter.unusedSimpArgs false
set_option linter.unusedVariables false
attribute [local go_sem] Oper.semAt_some

set_option maxRecDepth 100000 in
theorem CodeMost_no (v : Value) (g : List In4) (w : World) (hs : Sl w 4 v (insR g)) (hp : Pow w) (hg : ¬ codeOk g) :
    Calls Tryd.prog 10 #[v] w fun e w' => e = .returned (.int .i64 (mostOf g)) ∧ Below w.heap.size w w' := by
  have hO := CodeOk_any v g w hs hp
  obtain ⟨A, n, c, rfl, hA⟩ := hs
  have hgb := codeOkB_no hg
  have HMV := Lib.hid (show mostOf g = 0 by unfold mostOf; rw [hgb]; rfl)
  have HO := Lib.hid hO; clear hO hA hg
  refine (callsIn_wide (n := 9)).1 ?_
  refine callsIn_of_wp_marks Tryd.func10 rfl trivial ?_ rfl
  simp only [Tryd.ntmps10, List.size_toArray, List.length_cons, List.length_nil, Nat.reduceAdd, Nat.reduceSub, Array.replicate_succ, Array.replicate_zero, List.push_toArray, List.append_toArray, List.nil_append, List.cons_append]
  gi_wp2_with fail
  refine ⟨trivial, ?_⟩
  refine (callsIn_wide.2 HO.out).mono ?_; rintro e w1 ⟨rfl, hb1⟩
  rw [hgb]
  gi_wp2
  refine ⟨.int .i64 0, by simp [results, Tryd.results10, go_sem], ret_int HMV.out.symm, hb1⟩
theorem CodeMost_any (v : Value) (g : List In4) (w : World) (hs : Sl w 4 v (insR g)) (hp : Pow w) :
    Calls Tryd.prog 10 #[v] w fun e w' => e = .returned (.int .i64 (mostOf g)) ∧ Below w.heap.size w w' := by
  by_cases h : codeOk g
  · exact CodeMost_ok v g w hs hp h
  · exact CodeMost_no v g w hs hp h
end Go.Proofs.YtbcbbemkjaabjaaDoor
