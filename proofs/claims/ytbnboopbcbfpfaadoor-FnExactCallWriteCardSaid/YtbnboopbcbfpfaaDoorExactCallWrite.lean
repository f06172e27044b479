/- FnExactCallWrite returns true for every call, and nothing that was there is changed: the row's statement, and its tied card. No condition but what the row lists: the library's tables hold what their initialisers lay. -/
import Derived.Test.YtbnboopbcbfpfaaDoorCallW
import Derived.Test.YtbnboopbcbfpfaaDoorLawCallTo
import Derived.Test.YtbnboopbcbfpfaaDoorArgCall
import Derived.Test.YtbnboopbcbfpfaaDoorDoor
namespace Go.Proofs.YtbnboopbcbfpfaaDoor
open Go.RowKit Go.WideShapes Go.ChangeShapes Go.ChangeAt
set_option linter.unusedSimpArgs false
set_option linter.unusedVariables false

theorem Cell2w.new (w : World) (t : TypeId) (x v : Value) : (w.alloc (.cells #[x, v] t)).cell? ⟨w.heap.size, 0, none⟩ = some x ∧ (w.alloc (.cells #[x, v] t)).cell? ⟨w.heap.size, 1, none⟩ = some v :=
  ⟨(Blk.new w t #[x, v]).cell 0, (Blk.new w t #[x, v]).cell 1⟩

namespace exactCallWrite
set_option maxHeartbeats 2000000 in
theorem walk (m : Int) (u : Value) (xs : List Int) (w : World) (hp : Pow w) (hu : Sl w 1 u (ints xs)) :
    Calls Tryd.prog 3 #[.agg #[.int .i64 m, u]] w fun e w' => e = .returned (.bool true) ∧ Below w.heap.size w w' := by
  have hu0 := hu
  obtain ⟨A, n, c, rfl, hA⟩ := hu
  have hl : xs.length = n := by have := hA.len; rwa [ints_len] at this
  have hmx := hA.max
  have hcp := hA.cap
  unfold maxLen at hmx
  clear hA
  by_cases hn : n ≤ 1048576
  · have he : callEq m m xs xs = true := callEq_iff.2 ⟨rfl, rfl⟩
    have HL := Lib.hid hl; clear hl
    have hm0 : ¬ (1048576 : Int) - n < 0 := by omega
    have hxl : xs.length ≤ 1048576 := by rw [HL.out]; exact hn
    have HX := Lib.hid hxl; clear hxl
    go_enter Tryd.func3, Tryd.ntmps3
    go_wp2_with fail
    refine (szCall_ok m A n c 1048576 _ (by omega) (by omega)).mono ?_; rintro e w1 ⟨rfl, b1⟩
    have b01 : Below w.heap.size w w1 := below_then (by go_grown) b1
    obtain ⟨p0, p1⟩ := Cell2w.new w 24 (.int .i64 m) (.slice A n c)
    have lt1 : w.heap.size < w1.heap.size := by have := b1.size; simp at this; omega
    replace p0 := (b1.cell (p := ⟨w.heap.size, 0, none⟩) (by simp)).trans p0
    replace p1 := (b1.cell (p := ⟨w.heap.size, 1, none⟩) (by simp)).trans p1
    go_wp2_with fail
    refine (toCall_any m _ xs _ (hu0.below b01) HX.out).mono ?_; rintro e w2 ⟨v2, rfl, o2, b2⟩
    have s2 := SlA.of_own o2 (ints_len xs) (ints_rows xs)
    obtain ⟨A2, n2, c2, rfl, -⟩ := id s2
    go_wp2_with fail
    refine (sCallWrite_any m _ xs _ s2).mono ?_; rintro e w3 ⟨rfl, b3⟩
    have b13 := below_then b2 b3
    have b03 := below_then b01 b13
    replace p0 := (b13.cell (p := ⟨w.heap.size, 0, none⟩) lt1).trans p0
    replace p1 := (b13.cell (p := ⟨w.heap.size, 1, none⟩) lt1).trans p1
    have lt3 : w.heap.size < w3.heap.size := Nat.lt_of_lt_of_le lt1 b13.size
    go_wp2_with fail
    refine (toCall_any m _ xs _ (hu0.below b03) HX.out).mono ?_; rintro e w4 ⟨v4, rfl, o4, b4⟩
    have s4 := SlA.of_own o4 (ints_len xs) (ints_rows xs)
    obtain ⟨A4, n4, c4, rfl, -⟩ := id s4
    have b04 := below_then b03 b4
    replace p0 := (b4.cell (p := ⟨w.heap.size, 0, none⟩) lt3).trans p0
    replace p1 := (b4.cell (p := ⟨w.heap.size, 1, none⟩) lt3).trans p1
    have lt4 : w.heap.size < w4.heap.size := Nat.lt_of_lt_of_le lt3 b4.size
    obtain ⟨q0, q1⟩ := Cell2w.new w4 27 (.int .i64 m) (.slice A4 n4 c4)
    go_wp2_with fail
    have b45 : Below w4.heap.size w4 (w4.alloc (.cells #[.int .i64 m, .slice A4 n4 c4] 27)) := by go_grown
    refine (CallWrite_any m _ xs _ (hp.below (below_then b04 b45)) (s4.below b45)).mono ?_; rintro e w5 ⟨rfl, b5⟩
    have b46 := below_then b45 b5
    replace p0 := (b46.cell (p := ⟨w.heap.size, 0, none⟩) lt4).trans p0
    replace p1 := (b46.cell (p := ⟨w.heap.size, 1, none⟩) lt4).trans p1
    replace q0 := (b5.cell (p := ⟨w4.heap.size, 0, none⟩) (by simp)).trans q0
    replace q1 := (b5.cell (p := ⟨w4.heap.size, 1, none⟩) (by simp)).trans q1
    have b06 := below_then b04 b46
    have s6 := s4.below b46
    have lt5 : w4.heap.size < w5.heap.size := by have := b5.size; simp at this; omega
    go_wp2_with fail
    go_region_law (first
      | (go_simp; go_at_call 7; refine (toCall_any m _ xs _ (hu0.below b06.drew) HX.out).mono ?_; rintro e w7 ⟨v7, rfl, o7, b7⟩; have s7 := SlA.of_own o7 (ints_len xs) (ints_rows xs); obtain ⟨A7, n7, c7, rfl, -⟩ := id s7; replace q0 := (b7.cell (p := ⟨w4.heap.size, 0, none⟩) lt5).trans q0; replace q1 := (b7.cell (p := ⟨w4.heap.size, 1, none⟩) lt5).trans q1)
      | (go_simp; go_at_call 9; refine (eqCall_any m m _ _ xs xs _ (s6.below (below_then (Below.refl w5.heap.size w5).drew b7)) s7).mono ?_; rintro e w8 ⟨rfl, b8⟩; rw [he]))
    all_goals go_wp2
    all_goals
      go_ret
      exact ⟨rfl, below_then b06 (below_then (below_then (Below.refl w5.heap.size w5).drew b7) b8)⟩
  · go_enter Tryd.func3, Tryd.ntmps3
    go_wp2_with fail
    refine (szCall_no m A n c 1048576 _ (by omega) (by omega) (by omega)).mono ?_; rintro e w1 ⟨rfl, b1⟩
    go_wp2
    go_ret
    exact ⟨rfl, below_then (by go_grown) b1⟩

theorem laid_met (os : Os) : laidMet Tryd.prog Rows.fnExactCallWriteRow.laid ((laidWorld os Rows.fnExactCallWriteRow.laid).forCall (fun _ _ => 0) ⟨#[], #[.agg #[.int .i64 0, .slice none 0 0]], []⟩).memory :=
  laidMet_of_run' 8 (by kernel_rfl) (by kernel_rfl)
theorem reads (os : Os) {H : Type} (enc : TypeId × Value → H) : ∃ places, DataW.whole enc Tryd.prog ((laidWorld os Rows.fnExactCallWriteRow.laid).forCall (fun _ _ => 0) ⟨#[], #[.agg #[.int .i64 0, .slice none 0 0]], []⟩).memory Tryd.f3.params.toList Rows.fnExactCallWriteSpec.vars false #[Value.agg #[.int .i64 0, .slice none 0 0]].toList 8 = some ([.agg [.lit (.int .i64 0), .nil]], [], places) :=
  ⟨[], by kernel_rfl⟩

set_option maxRecDepth 100000 in
theorem lifted (os : Os) (started : os.Started) (H : Type) (enc : TypeId × Value → H) (F : Stop.Interp) :
    ReturnsInHanded {} Tryd.checked os 3 .any ((OpenSpec.ofChange Rows.fnExactCallWriteSpec).preRow enc Tryd.prog Tryd.f3 Rows.fnExactCallWriteRow.domain false Rows.fnExactCallWriteRow.laid) (((OpenSpec.ofChange Rows.fnExactCallWriteSpec).at F).post enc Tryd.prog Tryd.f3 false true false false) := by
  obtain ⟨places, hx⟩ := reads os enc
  refine returnsInHanded_of_row (C := Tryd.checked) (s := OpenSpec.ofChange Rows.fnExactCallWriteSpec) own started (by kernel_rfl) Tryd.func3
    (witness_row_at (enc := enc) (C := Tryd.checked) false (laidWorld os Rows.fnExactCallWriteRow.laid) #[.agg #[.int .i64 0, .slice none 0 0]] rfl (by kernel_rfl) (by kernel_rfl) (by kernel_rfl)
      (OpenSpec.preRow_of_cond 8 hx (by kernel_rfl) (fun k hk => by cases hk) (by kernel_rfl) (laid_met os))) ?_
  intro W base args ds gs before hval hW _ _ _ hL _ _
  have hW' := hW
  obtain ⟨p, q, hA0, hV, rfl, hfz, hnd⟩ := hW
  have hA : DataW.TrodAll enc Tryd.prog W 0 (fun _ => true) true Tryd.f3.params.toList args.toList ds p := hA0
  rw [Tryd.params3] at hA
  obtain ⟨v0, vs0, d0, ds0, p0, q0, hargs, rfl, rfl, h0, r0⟩ := trodAll_cons hA
  obtain ⟨rfl, rfl, rfl⟩ := trodAll_nil r0
  obtain rfl : args = #[v0] := by cases args; simp_all
  obtain ⟨rfl, rfl⟩ := trodVars_none hV
  obtain ⟨fuel, hf⟩ := h0
  obtain ⟨cs, rfl, _⟩ := okWide_struct Tryd.underlying24 (hval 0 24 v0 rfl rfl)
  obtain ⟨m, u, xs, hc, hs⟩ := call_arg hf
  obtain rfl : cs = #[.int .i64 m, u] := by simpa [Value.cells] using congrArg List.toArray hc
  exact (walk m u xs W (pow_of_laid hL (by kernel_rfl) (by kernel_rfl)) hs).mono fun e W' ⟨he, hb⟩ => ⟨_, he, law_post laidOut (by kernel_rfl) rfl rfl Tryd.underlying4 rfl hW' hb⟩

theorem said : Rows.FnExactCallWriteSaid :=
  OpenClaim.holds_of_cond 3 Tryd.f3 rfl rfl rfl rfl rfl rfl rfl ⟨rfl, rfl, rfl, rfl, rfl⟩ rfl rfl rfl rfl rfl (by kernel_rfl) Tryd.func3 (by kernel_rfl)
    (of_decide_eq_true (by kernel_rfl)) (by unfold Func.isWrapper; first | (rw [if_pos (by decide +kernel)]; kernel_rfl) | (rw [if_neg (by decide +kernel)]; exact ⟨rfl, rfl⟩))
    (fun os started H enc _ F => by rw [OpenClaim.pre_eq_preRow]; exact lifted os started H enc F)

theorem plain (f : FuncId) (fn : Func) (hf : Tryd.pinned.checked.prog.funcNamed "loop.example/gatelodge/laws.FnExactCallWrite" = some f) (hfn : Tryd.pinned.checked.prog.funcs[f]? = some fn) :
    false = Tryd.pinned.checked.prog.looks [] ∧ ∀ (j : Nat) t, fn.params[j]? = some t → Tryd.pinned.checked.prog.wantsStandIn t = false := by
  obtain rfl : f = 3 := Option.some.inj ((show Tryd.prog.funcNamed "loop.example/gatelodge/laws.FnExactCallWrite" = some 3 by kernel_rfl).symm.trans hf) |>.symm
  obtain rfl : fn = Tryd.f3 := (Option.some.inj (Tryd.func3.symm.trans hfn)).symm
  refine ⟨by kernel_rfl, fun j t ht => ?_⟩
  rw [Tryd.params3] at ht
  obtain rfl : t = 24 := by simpa using Array.mem_of_getElem? ht
  exact (show Tryd.prog.wantsStandIn 24 = false by kernel_rfl)

theorem card : Rows.FnExactCallWriteCardSaid :=
  Claim7.holds_tied_plain_at .later [] _ _ _ _ said (fun _ h => by cases h) (by kernel_rfl) (fun _ h => by cases h) fnExactCallWrite_row_tie rfl ⟨rfl, rfl⟩ (by kernel_rfl) rfl plain (by kernel_rfl)
end exactCallWrite
end Go.Proofs.YtbnboopbcbfpfaaDoor
