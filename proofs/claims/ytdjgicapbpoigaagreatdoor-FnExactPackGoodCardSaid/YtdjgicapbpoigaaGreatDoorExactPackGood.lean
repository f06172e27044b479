/- FnExactPackGood returns true for every pack, and nothing that was there is changed: the row's statement, and its tied card. No condition but what the row lists: the library's tables and errors.errorType hold what their initialisers lay. -/
import Derived.Test.YtdjgicapbpoigaaGreatDoorLawPackGood
import Derived.Test.YtdjgicapbpoigaaGreatDoorDoorG
namespace Go.Proofs.YtdjgicapbpoigaaGreatDoor
open Go.RowKit Go.WideShapes Go.ChangeShapes Go.ChangeAt
set_option linter.unusedSimpArgs false
set_option linter.unusedVariables false

namespace exactPackGood
/-- The cells of a listed variable: a table whose places may hold places, or the handle. -/
def datCellsG : DataW Unit → Array Value
  | .agg ds => (ds.flatMap fun | .lit (.int k z) => [Value.int k z] | .agg es => (es.filterMap fun | .lit (.int k z) => some (Value.int k z) | _ => none) | _ => []).toArray
  | .iface _ _ => #[.iface 174 (.agg #[.pointer (some ⟨7, 48, none⟩)])]
  | _ => #[]
noncomputable def laidWorldG (os : Os) (l : List (String × DataW Unit)) : World :=
  l.foldl (fun W x => { W with heap := W.heap.modify ((Tryz.prog.globalNamed x.1).getD 0) fun | .cells _ t fr => .cells (datCellsG x.2) t fr | o => o }) (World.holding Tryz.prog os ⟨#[], #[], []⟩)
theorem laid_met (os : Os) : laidMetH Tryz.prog Rows.fnExactPackGoodRow.laid ((laidWorldG os Rows.fnExactPackGoodRow.laid).forCall (fun _ _ => 0) ⟨#[], #[.agg #[.int .i64 0, .string ⟨#[]⟩, .string ⟨#[]⟩]], []⟩).memory :=
  laidMetH_of_parts (laidMet_of_run' 8 (by kernel_rfl) (by kernel_rfl)) (by kernel_rfl)
theorem reads (os : Os) {H : Type} (enc : TypeId × Value → H) : (DataW.whole enc Tryz.prog ((laidWorldG os Rows.fnExactPackGoodRow.laid).forCall (fun _ _ => 0) ⟨#[], #[.agg #[.int .i64 0, .string ⟨#[]⟩, .string ⟨#[]⟩]], []⟩).memory Tryz.f3.params.toList Rows.fnExactPackGoodSpec.vars false (#[.agg #[.int .i64 0, .string ⟨#[]⟩, .string ⟨#[]⟩]] : Array Value).toList 8).isSome = true := by kernel_rfl

set_option maxRecDepth 100000 in
theorem lifted (os : Os) (started : os.Started) (H : Type) (enc : TypeId × Value → H) (F : Stop.Interp) :
    ReturnsInHanded {} Tryz.checked os 3 .any ((OpenSpec.ofChange Rows.fnExactPackGoodSpec).preRow enc Tryz.prog Tryz.f3 Rows.fnExactPackGoodRow.domain false Rows.fnExactPackGoodRow.laid) (((OpenSpec.ofChange Rows.fnExactPackGoodSpec).at F).post enc Tryz.prog Tryz.f3 false true false false) := by
  obtain ⟨x, hx⟩ := Option.isSome_iff_exists.1 (reads os enc)
  refine returnsInHanded_of_row (C := Tryz.checked) (s := OpenSpec.ofChange Rows.fnExactPackGoodSpec) own started (by kernel_rfl) Tryz.func3
    (witness_row_at (enc := enc) (C := Tryz.checked) false (laidWorldG os Rows.fnExactPackGoodRow.laid) #[.agg #[.int .i64 0, .string ⟨#[]⟩, .string ⟨#[]⟩]] rfl (by kernel_rfl) (by kernel_rfl) (by kernel_rfl)
      (OpenSpec.preRow_of_cond 8 hx rfl (fun k hk => by cases hk) (by kernel_rfl) (laid_met os))) ?_
  intro W base args ds gs before hval hW _ _ _ hL hSh _
  have hW' := hW
  obtain ⟨p, q, hA0, hV, rfl, hfz, hnd⟩ := hW
  have hA : DataW.TrodAll enc Tryz.prog W 0 (fun _ => true) true Tryz.f3.params.toList args.toList ds p := hA0
  rw [Tryz.params3] at hA
  obtain ⟨v0, vs0, d0, ds0, p0, q0, hargs, rfl, rfl, h0, r0⟩ := trodAll_cons hA
  obtain ⟨rfl, rfl, rfl⟩ := trodAll_nil r0
  obtain rfl : args = #[v0] := by cases args; simp_all
  obtain ⟨rfl, rfl⟩ := trodVars_none hV
  obtain ⟨fuel, hf⟩ := h0
  obtain ⟨cs, rfl, _⟩ := okWide_struct Tryz.underlying23 (hval 0 23 v0 rfl rfl)
  obtain ⟨m, u, xs, hc, hs1, hs2⟩ := pack_arg hf
  obtain rfl : cs = #[.int .i64 m, .string ⟨u.toArray⟩, .string ⟨xs.toArray⟩] := by simpa [Value.cells] using congrArg List.toArray hc
  obtain ⟨hLm, hLh⟩ := laidMetH_split hL (show _ = ("errors.errorType", Rows.laid_errors_errorType) :: [] by kernel_rfl)
  exact (walk m u xs W hs1 hs2 (Go.Proofs.Tryz.laysM146.s1_3 W hSh) (pow_of_laidE hLm (by kernel_rfl)) (et_of_handles hLh)).mono fun e W' ⟨he, hb⟩ => ⟨_, he, law_postV laidOut (by kernel_rfl) (by kernel_rfl) rfl Tryz.underlying4 rfl hW' hb⟩

theorem j1 : (Rows.fnExactPackGoodRow.inPlace == Tryz.pinned.checked.prog.inPlace 3) = true := by kernel_rfl
theorem j2 : (Rows.fnExactPackGoodRow.unfollowed == Tryz.pinned.checked.prog.unfollowed 3) = true := by kernel_rfl
theorem j3 : (Rows.fnExactPackGoodRow.recurses == Tryz.pinned.checked.prog.recurses 3) = true := by kernel_rfl
theorem j4 : (Rows.fnExactPackGoodRow.named == Tryz.pinned.checked.prog.varsNamed 3) = true := by kernel_rfl
theorem j5 : joinedFacts Tryz.pinned.checked.prog 3 Tryz.f3 (OpenSpec.ofChange Rows.fnExactPackGoodSpec).bare Rows.fnExactPackGoodRow = true := by unfold joinedFacts; rw [j1, j2, j3, j4]; kernel_rfl
theorem said : Rows.FnExactPackGoodSaid :=
  OpenClaim.holds_of_cond 3 Tryz.f3 rfl rfl rfl rfl rfl rfl rfl ⟨rfl, rfl, rfl, rfl, rfl⟩ rfl rfl rfl rfl rfl (by kernel_rfl) Tryz.func3 j5
    (of_decide_eq_true (by kernel_rfl)) (by unfold Func.isWrapper; first | (rw [if_pos (by decide +kernel)]; kernel_rfl) | (rw [if_neg (by decide +kernel)]; exact ⟨rfl, rfl⟩))
    (fun os started H enc _ F => by rw [OpenClaim.pre_eq_preRow]; exact lifted os started H enc F)

theorem plain (f : FuncId) (fn : Func) (hf : Tryz.pinned.checked.prog.funcNamed "loop.example/gatelodge/laws.FnExactPackGood" = some f) (hfn : Tryz.pinned.checked.prog.funcs[f]? = some fn) :
    true = Tryz.pinned.checked.prog.looks [] ∧ ∀ (j : Nat) t, fn.params[j]? = some t → Tryz.pinned.checked.prog.wantsStandIn t = false := by
  obtain rfl : f = 3 := Option.some.inj ((show Tryz.prog.funcNamed "loop.example/gatelodge/laws.FnExactPackGood" = some 3 by kernel_rfl).symm.trans hf) |>.symm
  obtain rfl : fn = Tryz.f3 := (Option.some.inj (Tryz.func3.symm.trans hfn)).symm
  refine ⟨by kernel_rfl, fun j t ht => ?_⟩
  rw [Tryz.params3] at ht
  obtain rfl : t = 23 := by simpa using Array.mem_of_getElem? ht
  exact (show Tryz.prog.wantsStandIn 23 = false by kernel_rfl)

theorem card : Rows.FnExactPackGoodCardSaid :=
  Claim7.holds_tied_plain_at .later [] _ _ _ _ said (fun _ h => by cases h) (by kernel_rfl) (fun _ h => by cases h) fnExactPackGood_row_tie rfl ⟨rfl, rfl⟩ (by kernel_rfl) rfl plain (by kernel_rfl)
end exactPackGood
end Go.Proofs.YtdjgicapbpoigaaGreatDoor
