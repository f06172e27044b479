/- FnExactCodeRun returns true for every program and every call, and nothing that was there is changed: the row's statement, and its tied card. No condition but what the row lists: the library's tables hold what their initialisers lay. -/
import Derived.Test.YtbbhilhckbdgjaaDoorCodeRun
import Derived.Test.YtbbhilhckbdgjaaDoorLawInsTo
import Derived.Test.YtbbhilhckbdgjaaDoorLawCallTo
import Derived.Test.YtbbhilhckbdgjaaDoorArgCall
import Derived.Test.YtbbhilhckbdgjaaDoorDoor
namespace Go.Proofs.YtbbhilhckbdgjaaDoor
open Go.RowKit Go.WideShapes Go.ChangeShapes Go.ChangeAt
set_option linter.unusedSimpArgs false
set_option linter.unusedVariables false

namespace exactCodeRun
set_option maxHeartbeats 4000000 in
theorem walk (u : Value) (g : List In4) (m : Int) (cv : Value) (xs : List Int) (w : World) (hp : Pow w) (hu : Sl w 4 u (insR g)) (hv : Sl w 1 cv (ints xs)) :
    Calls Tryd.prog 3 #[u, .agg #[.int .i64 m, cv]] w fun e w' => e = .returned (.bool true) ∧ Below w.heap.size w w' := by
  have hu0 := hu
  have hv0 := hv
  obtain ⟨A, n, c, rfl, hA⟩ := hu
  obtain ⟨A1, n1, c1, rfl, hA1⟩ := hv
  have hl : g.length = n := by have := hA.len; rwa [insR_len] at this
  have hl1 : xs.length = n1 := by have := hA1.len; rwa [ints_len] at this
  have hmx := hA.max
  have hcp := hA.cap
  have hmx1 := hA1.max
  have hcp1 := hA1.cap
  unfold maxLen at hmx hmx1
  clear hA hA1
  by_cases hn : n ≤ 1048576
  · by_cases hn1 : (n1 : Int) ≤ 1048576 - n
    · have he : codeEq g g = true := codeEq_iff.2 rfl
      have hce : callEq m m xs xs = true := callEq_iff.2 ⟨rfl, rfl⟩
      have hgn : g.length ≤ 1048576 := by rw [hl]; exact hn
      have hxn : xs.length ≤ 1048576 := by omega
      have hd : ¬ (1048576 : Int) - n < 0 := by omega
      have hd1 : ¬ (1048576 : Int) - n - n1 < 0 := by omega
      obtain ⟨r0, hr0⟩ : ∃ r0, (runBoth g m xs).1 = r0 := ⟨_, rfl⟩
      obtain ⟨r1, hr1⟩ : ∃ r1, (runBoth g m xs).2 = r1 := ⟨_, rfl⟩
      have hpost : ∀ e w w', RunPost g m xs w e w' → e = .returned (.tuple #[.int .i64 r0, .int .i64 r1]) ∧ Below w.heap.size w w' := by rw [← hr0, ← hr1]; exact fun _ _ _ h => h
      have HV := Lib.hid hpost; have HL := Lib.hid hl; have HL1 := Lib.hid hl1; clear hpost hl hl1 hr0 hr1
      go_enter Tryd.func3, Tryd.ntmps3
      go_wp2_with fail
      refine (szInsS_ok A n c 1048576 _ (by omega) (by omega)).mono ?_; rintro e w1 ⟨rfl, rfl⟩
      have B0 : Blk (w.alloc (.cells #[.int .i64 m, .slice A1 n1 c1] 25)) w.heap.size 25 #[.int .i64 m, .slice A1 n1 c1] := Blk.new _ _ _
      have b0 : Below w.heap.size w (w.alloc (.cells #[.int .i64 m, .slice A1 n1 c1] 25)) := by go_grown
      go_wp2_with fail
      refine (szCall_ok m A1 n1 c1 (1048576 - n) _ hn1 (by omega)).mono ?_; rintro e w1 ⟨rfl, b1⟩
      have b01 := below_then b0 b1
      have B1 : Blk w1 w.heap.size 25 #[.int .i64 m, .slice A1 n1 c1] := (b1.block _ B0.lt).trans B0
      have p0 : w1.cell? ⟨w.heap.size, 0, none⟩ = some (.int .i64 m) := B1.cell 0
      have p1 : w1.cell? ⟨w.heap.size, 1, none⟩ = some (.slice A1 n1 c1) := B1.cell 1
      go_wp2
      go_region_law (first
        | (go_simp; go_at_call 7; refine (toInsS_any _ g _ (hu0.below b01.drew) hgn).mono ?_; rintro e w2 ⟨v2, rfl, o2, b2⟩; have s2 := SlA.of_own o2 (insR_len g) (insR_rows g); have b12 := below_then (Below.refl w1.heap.size w1).drew b2; have b02 := below_then b01 b12; have B2 : Blk w2 w.heap.size 25 #[.int .i64 m, .slice A1 n1 c1] := (b12.block _ B1.lt).trans B1; have q0 : w2.cell? ⟨w.heap.size, 0, none⟩ = some (.int .i64 m) := B2.cell 0; have q1 : w2.cell? ⟨w.heap.size, 1, none⟩ = some (.slice A1 n1 c1) := B2.cell 1)
        | (go_simp; go_at_call 8; refine (toCall_any m _ xs _ (hv0.below b02) hxn).mono ?_; rintro e w3 ⟨v3, rfl, o3, b3⟩; have s3 := SlA.of_own o3 (ints_len xs) (ints_rows xs); have b03 := below_then b02 b3)
        | (go_simp; go_at_call 6; refine (sCodeRun_any _ g m _ xs _ (s2.below b3) s3).mono ?_; intro e w4 hp4; obtain ⟨rfl, b4⟩ := HV.out _ _ _ hp4))
      all_goals
        have b04 := below_then b03 b4
        have b24 := below_then b3 b4
        have B4 : Blk w4 w.heap.size 25 #[.int .i64 m, .slice A1 n1 c1] := (b24.block _ B2.lt).trans B2
        have q0 : w4.cell? ⟨w.heap.size, 0, none⟩ = some (.int .i64 m) := B4.cell 0
        have q1 : w4.cell? ⟨w.heap.size, 1, none⟩ = some (.slice A1 n1 c1) := B4.cell 1
        go_wp2_with fail
        refine (toInsS_any _ g _ (hu0.below b04) hgn).mono ?_; rintro e w5 ⟨v5, rfl, o5, b5⟩
        have s5 := SlA.of_own o5 (insR_len g) (insR_rows g)
        have b05 := below_then b04 b5
        have B5 : Blk w5 w.heap.size 25 #[.int .i64 m, .slice A1 n1 c1] := (b5.block _ B4.lt).trans B4
        have r0 : w5.cell? ⟨w.heap.size, 0, none⟩ = some (.int .i64 m) := B5.cell 0
        have r1' : w5.cell? ⟨w.heap.size, 1, none⟩ = some (.slice A1 n1 c1) := B5.cell 1
        go_wp2_with fail
        refine (toCall_any m _ xs _ (hv0.below b05) hxn).mono ?_; rintro e w6 ⟨v6, rfl, o6, b6⟩
        have s6 := SlA.of_own o6 (ints_len xs) (ints_rows xs)
        obtain ⟨A6, n6, c6, rfl, -⟩ := id s6
        have b06 := below_then b05 b6
        have B6 : Blk w6 w.heap.size 25 #[.int .i64 m, .slice A1 n1 c1] := (b6.block _ B5.lt).trans B5
        have hb7 : Below w6.heap.size w6 (w6.alloc (.cells #[.int .i64 m, .slice A6 n6 c6] 32)) := by go_grown
        have C7 : Blk (w6.alloc (.cells #[.int .i64 m, .slice A6 n6 c6] 32)) w6.heap.size 32 #[.int .i64 m, .slice A6 n6 c6] := Blk.new _ _ _
        have t0 : (w6.alloc (.cells #[.int .i64 m, .slice A6 n6 c6] 32)).cell? ⟨w6.heap.size, 0, none⟩ = some (.int .i64 m) := C7.cell 0
        have t1 : (w6.alloc (.cells #[.int .i64 m, .slice A6 n6 c6] 32)).cell? ⟨w6.heap.size, 1, none⟩ = some (.slice A6 n6 c6) := C7.cell 1
        go_wp2_with fail
        refine (CodeRun_any _ g m _ xs _ ((s5.below b6).below hb7) (s6.below hb7) (hp.below (below_then b06 hb7))).mono ?_; intro e w8 hp8
        obtain ⟨rfl, b8⟩ := HV.out _ _ _ hp8
        have b68 := below_then hb7 b8
        have b08 := below_then b06 b68
        have B8 : Blk w8 w.heap.size 25 #[.int .i64 m, .slice A1 n1 c1] := (b68.block _ B6.lt).trans B6
        have C8 : Blk w8 w6.heap.size 32 #[.int .i64 m, .slice A6 n6 c6] := (b8.block _ C7.lt).trans C7
        go_wp2_with fail
        refine (toInsS_any _ g _ (hu0.below b08) hgn).mono ?_; rintro e w9 ⟨v9, rfl, o9, b9⟩
        have s9 := SlA.of_own o9 (insR_len g) (insR_rows g)
        have b09 := below_then b08 b9
        have b59 := below_then (below_then b6 b68) b9
        go_wp2_with fail
        refine (eqInsS_any _ _ g g _ (s5.below b59) s9).mono ?_; rintro e w10 ⟨rfl, b10⟩
        rw [he]
        have b810 := below_then b9 b10
        have b010 := below_then b08 b810
        have B10 : Blk w10 w.heap.size 25 #[.int .i64 m, .slice A1 n1 c1] := (b810.block _ B8.lt).trans B8
        have C10 : Blk w10 w6.heap.size 32 #[.int .i64 m, .slice A6 n6 c6] := (b810.block _ C8.lt).trans C8
        have z0 : w10.cell? ⟨w.heap.size, 0, none⟩ = some (.int .i64 m) := B10.cell 0
        have z1 : w10.cell? ⟨w.heap.size, 1, none⟩ = some (.slice A1 n1 c1) := B10.cell 1
        have y0 : w10.cell? ⟨w6.heap.size, 0, none⟩ = some (.int .i64 m) := C10.cell 0
        have y1 : w10.cell? ⟨w6.heap.size, 1, none⟩ = some (.slice A6 n6 c6) := C10.cell 1
        have b610 := below_then b68 b810
        go_wp2
        go_region_law (first
          | (go_simp; go_at_call 8; refine (toCall_any m _ xs _ (hv0.below b010.drew) hxn).mono ?_; rintro e w11 ⟨v11, rfl, o11, b11⟩; have s11 := SlA.of_own o11 (ints_len xs) (ints_rows xs); have C11 : Blk w11 w6.heap.size 32 #[.int .i64 m, .slice A6 n6 c6] := (b11.block _ C10.lt).trans C10; have x0 : w11.cell? ⟨w6.heap.size, 0, none⟩ = some (.int .i64 m) := C11.cell 0; have x1 : w11.cell? ⟨w6.heap.size, 1, none⟩ = some (.slice A6 n6 c6) := C11.cell 1)
          | (go_simp; go_at_call 11; refine (eqCall_any m m _ _ xs xs _ ((s6.below b610).below (below_then (Below.refl w10.heap.size w10).drew b11)) s11).mono ?_; rintro e w12 ⟨rfl, b12⟩; rw [hce]))
        all_goals go_wp2
        all_goals
          go_ret
          exact ⟨rfl, below_then b010 (below_then (below_then (Below.refl w10.heap.size w10).drew b11) b12)⟩
    · have hno : (1048576 : Int) - n < n1 := by omega
      have hd : ¬ (1048576 : Int) - n < 0 := by omega
      go_enter Tryd.func3, Tryd.ntmps3
      go_wp2_with fail
      refine (szInsS_ok A n c 1048576 _ (by omega) (by omega)).mono ?_; rintro e w1 ⟨rfl, rfl⟩
      go_wp2_with fail
      refine (szCall_no m A1 n1 c1 (1048576 - n) _ (by omega) (by omega) hno).mono ?_; rintro e w1 ⟨rfl, b1⟩
      go_wp2
      go_ret
      exact ⟨rfl, below_then (by go_grown) b1⟩
  · go_enter Tryd.func3, Tryd.ntmps3
    go_wp2_with fail
    refine (szInsS_no A n c 1048576 _ (by omega) (by omega) (by omega)).mono ?_; rintro e w1 ⟨rfl, rfl⟩
    go_wp2
    go_ret
    exact ⟨rfl, by go_grown⟩

theorem laid_met (os : Os) : laidMet Tryd.prog Rows.fnExactCodeRunRow.laid ((laidWorld os Rows.fnExactCodeRunRow.laid).forCall (fun _ _ => 0) ⟨#[], #[Value.slice none 0 0, Value.agg #[Value.int IntKind.i64 0, Value.slice none 0 0]], []⟩).memory :=
  laidMet_of_run' 8 (by kernel_rfl) (by kernel_rfl)
theorem reads (os : Os) {H : Type} (enc : TypeId × Value → H) : ∃ places, DataW.whole enc Tryd.prog ((laidWorld os Rows.fnExactCodeRunRow.laid).forCall (fun _ _ => 0) ⟨#[], #[Value.slice none 0 0, Value.agg #[Value.int IntKind.i64 0, Value.slice none 0 0]], []⟩).memory Tryd.f3.params.toList Rows.fnExactCodeRunSpec.vars false #[Value.slice none 0 0, Value.agg #[Value.int IntKind.i64 0, Value.slice none 0 0]].toList 8 = some ([.nil, .agg [.lit (.int .i64 0), .nil]], [], places) :=
  ⟨[], by kernel_rfl⟩

set_option maxRecDepth 100000 in
theorem lifted (os : Os) (started : os.Started) (H : Type) (enc : TypeId × Value → H) (F : Stop.Interp) :
    ReturnsInHanded {} Tryd.checked os 3 .any ((OpenSpec.ofChange Rows.fnExactCodeRunSpec).preRow enc Tryd.prog Tryd.f3 Rows.fnExactCodeRunRow.domain false Rows.fnExactCodeRunRow.laid) (((OpenSpec.ofChange Rows.fnExactCodeRunSpec).at F).post enc Tryd.prog Tryd.f3 false true false false) := by
  obtain ⟨places, hx⟩ := reads os enc
  refine returnsInHanded_of_row (C := Tryd.checked) (s := OpenSpec.ofChange Rows.fnExactCodeRunSpec) own started (by kernel_rfl) Tryd.func3
    (witness_row_at (enc := enc) (C := Tryd.checked) false (laidWorld os Rows.fnExactCodeRunRow.laid) #[Value.slice none 0 0, Value.agg #[Value.int IntKind.i64 0, Value.slice none 0 0]] rfl (by kernel_rfl) (by kernel_rfl) (by kernel_rfl)
      (OpenSpec.preRow_of_cond 8 hx (by kernel_rfl) (fun k hk => by cases hk) (by kernel_rfl) (laid_met os))) ?_
  intro W base args ds gs before hval hW _ _ _ hL _ _
  have hW' := hW
  obtain ⟨p, q, hA0, hV, rfl, hfz, hnd⟩ := hW
  have hA : DataW.TrodAll enc Tryd.prog W 0 (fun _ => true) true Tryd.f3.params.toList args.toList ds p := hA0
  rw [Tryd.params3] at hA
  obtain ⟨v0, vs0, d0, ds0, p0, q0, hargs, rfl, rfl, h0, r0⟩ := trodAll_cons hA
  obtain ⟨v1, vs1, d1, ds1, p1, q1, hargs1, rfl, rfl, h1, r1⟩ := trodAll_cons r0
  obtain ⟨rfl, rfl, rfl⟩ := trodAll_nil r1
  subst hargs1
  obtain rfl : args = #[v0, v1] := by cases args; simp_all
  obtain ⟨rfl, rfl⟩ := trodVars_none hV
  obtain ⟨fuel0, hf0⟩ := h0
  obtain ⟨fuel1, hf1⟩ := h1
  obtain ⟨a0, len0, cap0, rfl⟩ := okWide_slice Tryd.underlying22 (hval 0 22 v0 rfl rfl)
  obtain ⟨cs, rfl, _⟩ := okWide_struct Tryd.underlying25 (hval 1 25 v1 rfl rfl)
  obtain ⟨x0, g, hc0, hs0⟩ := ins_arg hf0
  obtain ⟨m, cv, xs, hc1, hs1⟩ := call_arg hf1
  obtain rfl : Value.slice a0 len0 cap0 = x0 := by simpa [Value.cells] using hc0
  obtain rfl : cs = #[.int .i64 m, cv] := by simpa [Value.cells] using congrArg List.toArray hc1
  exact (walk _ g m cv xs W (pow_of_laid hL (by kernel_rfl) (by kernel_rfl)) hs0 hs1).mono fun e W' ⟨he, hb⟩ => ⟨_, he, law_post laidOut (by kernel_rfl) rfl rfl Tryd.underlying4 rfl hW' hb⟩

theorem said : Rows.FnExactCodeRunSaid :=
  OpenClaim.holds_of_cond 3 Tryd.f3 rfl rfl rfl rfl rfl rfl rfl ⟨rfl, rfl, rfl, rfl, rfl⟩ rfl rfl rfl rfl rfl (by kernel_rfl) Tryd.func3 (by kernel_rfl)
    (of_decide_eq_true (by kernel_rfl)) (by unfold Func.isWrapper; first | (rw [if_pos (by decide +kernel)]; kernel_rfl) | (rw [if_neg (by decide +kernel)]; exact ⟨rfl, rfl⟩))
    (fun os started H enc _ F => by rw [OpenClaim.pre_eq_preRow]; exact lifted os started H enc F)

theorem plain (f : FuncId) (fn : Func) (hf : Tryd.pinned.checked.prog.funcNamed "loop.example/gatelodge/laws.FnExactCodeRun" = some f) (hfn : Tryd.pinned.checked.prog.funcs[f]? = some fn) :
    false = Tryd.pinned.checked.prog.looks [] ∧ ∀ (j : Nat) t, fn.params[j]? = some t → Tryd.pinned.checked.prog.wantsStandIn t = false := by
  obtain rfl : f = 3 := Option.some.inj ((show Tryd.prog.funcNamed "loop.example/gatelodge/laws.FnExactCodeRun" = some 3 by kernel_rfl).symm.trans hf) |>.symm
  obtain rfl : fn = Tryd.f3 := (Option.some.inj (Tryd.func3.symm.trans hfn)).symm
  refine ⟨by kernel_rfl, fun j t ht => ?_⟩
  rw [Tryd.params3] at ht
  have ht' : t = 22 ∨ t = 25 := by simpa using Array.mem_of_getElem? ht
  rcases ht' with rfl | rfl
  · exact (show Tryd.prog.wantsStandIn 22 = false by kernel_rfl)
  · exact (show Tryd.prog.wantsStandIn 25 = false by kernel_rfl)

theorem card : Rows.FnExactCodeRunCardSaid :=
  Claim7.holds_tied_plain_at .later [] _ _ _ _ said (fun _ h => by cases h) (by kernel_rfl) (fun _ h => by cases h) fnExactCodeRun_row_tie rfl ⟨rfl, rfl⟩ (by kernel_rfl) rfl plain (by kernel_rfl)
end exactCodeRun
end Go.Proofs.YtbbhilhckbdgjaaDoor
