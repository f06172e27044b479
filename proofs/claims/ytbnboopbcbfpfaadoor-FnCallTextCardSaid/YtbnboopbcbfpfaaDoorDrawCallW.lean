/- How the laws draw a call of whatever make: from the letters that came in. -/
import Derived.Test.YtbnboopbcbfpfaaDoorDrawAny2
namespace Go.Proofs.YtbnboopbcbfpfaaDoor
open Go.RowKit
set_option linter.unusedSimpArgs false
set_option linter.unusedVariables false

theorem DrawCallWrite_any (v : Value) (ys : List Int) (w : World) (hs : Sl w 1 v (u8s ys)) (hb : ∀ y ∈ ys, 0 ≤ y ∧ y ≤ 255) :
    Calls Tryd.prog 14 #[v] w fun e w' => ∃ (n : Int) (v : Value) (xs : List Int), e = .returned (.agg #[.int .i64 n, v]) ∧ Sl w' 1 v (ints xs) ∧ Below w.heap.size w w' := by
  go_enter Tryd.func14, Tryd.ntmps14
  go_wp2_with fail
  refine (l1Open_any v ys _ (hs.below (by go_grown)) hb).mono ?_; rintro e w1 ⟨rfl, r1, b1⟩
  rw [World.size_alloc] at r1
  have hg1 := r1.lt
  have t1 : Blk w1 w.heap.size 27 #[.int .i64 0, .slice none 0 0] := (b1.block w.heap.size (by simp)).trans (Blk.new w _ _)
  have b01 : Below w.heap.size w w1 := below_then (by go_grown) b1
  go_wp2_with fail
  refine (l11AnyCall_any (w.heap.size + 1) 0 _ r1 (by omega)).mono ?_; rintro e w2 ⟨n, v2, xs, q, rfl, hF, g2, r2, hq⟩
  have t2 := t1.grown g2 (by intro e; simp at e)
  have c0 : w2.cell? ⟨w.heap.size, 0, none⟩ = some (.int .i64 0) := t2.cell 0
  have c1 : w2.cell? ⟨w.heap.size, 1, none⟩ = some (.slice none 0 0) := t2.cell 1
  have f0 := t2.frozen 0
  have f1 := t2.frozen 1
  have b02 : Below w.heap.size w w2 := b01.trans (below_of_grown g2 (by omega) hg1)
  obtain ⟨A, m, c, rfl, hA, hfar⟩ := hF
  have HA := Lib.hid hA; clear hA
  go_wp2
  refine bodyPost_ret (v := .agg #[.int .i64 n, .slice A m c]) (by simp [results, Tryd.results14, go_sem, c0, c1]) rfl ⟨n, _, xs, rfl, ⟨_, _, _, rfl, SlA.kept2 HA.out (fun b off e => by have := hfar b off e; omega)⟩, by go_grown⟩
end Go.Proofs.YtbnboopbcbfpfaaDoor
