/- FnExactPackMake returns true for every number and every text, and nothing that was there is changed: the row's statement, and its tied card. No condition but what the row lists: the library's tables and errors.errorType hold what their initialisers lay. -/
import Derived.Test.YtdjgicapbpoigaaGreatDoorGoodMN
import Derived.Test.YtdjgicapbpoigaaGreatDoorDoorG
namespace Go.Proofs.YtdjgicapbpoigaaGreatDoor
open Go.RowKit Go.WideShapes Go.ChangeShapes Go.ChangeAt
set_option linter.unusedSimpArgs false
set_option linter.unusedVariables false

namespace exactPackMake
def datCellsG : DataW Unit → Array Value
 | .agg ds => (ds.flatMap fun | .lit (.int k z) => [Value.int k z] | .agg es => (es.filterMap fun | .lit (.int k z) => some (Value.int k z) | _ => none) | _ => []).toArray
 | .iface _ _ => #[.iface 174 (.agg #[.pointer (some ⟨7, 48, none⟩)])]
 | _ => #[]
noncomputable def laidWorldG (os : Os) (l : List (String × DataW Unit)) : World :=
 l.foldl (fun W x => { W with heap := W.heap.modify ((Tryz.prog.globalNamed x.1).getD 0) fun | .cells _ t fr => .cells (datCellsG x.2) t fr | o => o }) (World.holding Tryz.prog os ⟨#[], #[], []⟩)
theorem laid_met (os : Os) : laidMetH Tryz.prog Rows.fnExactPackMakeRow.laid ((laidWorldG os Rows.fnExactPackMakeRow.laid).forCall (fun _ _ => 0) ⟨#[], #[.int .i64 0, .string ⟨#[]⟩], []⟩).memory :=
 laidMetH_of_parts (laidMet_of_run' 8 (by kernel_rfl) (by kernel_rfl)) (by kernel_rfl)
theorem reads (os : Os) {H : Type} (enc : TypeId × Value → H) : (DataW.whole enc Tryz.prog ((laidWorldG os Rows.fnExactPackMakeRow.laid).forCall (fun _ _ => 0) ⟨#[], #[.int .i64 0, .string ⟨#[]⟩], []⟩).memory Tryz.f4.params.toList Rows.fnExactPackMakeSpec.vars false (#[.int .i64 0, .string ⟨#[]⟩] : Array Value).toList 8).isSome = true := by kernel_rfl

set_option maxRecDepth 100000 in
theorem lifted (os : Os) (started : os.Started) (H : Type) (enc : TypeId × Value → H) (F : Stop.Interp) :
   ReturnsInHanded {} Tryz.checked os 4 .any ((OpenSpec.ofChange Rows.fnExactPackMakeSpec).preRow enc Tryz.prog Tryz.f4 Rows.fnExactPackMakeRow.domain false Rows.fnExactPackMakeRow.laid) (((OpenSpec.ofChange Rows.fnExactPackMakeSpec).at F).post enc Tryz.prog Tryz.f4 false true false false) := by
 obtain ⟨x, hx⟩ := Option.isSome_iff_exists.1 (reads os enc)
 refine returnsInHanded_of_row (C := Tryz.checked) (s := OpenSpec.ofChange Rows.fnExactPackMakeSpec) own started (by kernel_rfl) Tryz.func4
   (witness_row_at (enc := enc) (C := Tryz.checked) false (laidWorldG os Rows.fnExactPackMakeRow.laid) #[.int .i64 0, .string ⟨#[]⟩] rfl (by kernel_rfl) (by kernel_rfl) (by kernel_rfl)
     (OpenSpec.preRow_of_cond 8 hx rfl (fun k hk => by cases hk) (by kernel_rfl) (laid_met os))) ?_
 intro W base args ds gs before hval hW _ _ _ hL hSh _
 have hW' := hW
 obtain ⟨p, q, hA0, hV, rfl, hfz, hnd⟩ := hW
 have hA : DataW.TrodAll enc Tryz.prog W 0 (fun _ => true) true Tryz.f4.params.toList args.toList ds p := hA0
 rw [Tryz.params4] at hA
 obtain ⟨v0, vs0, d0, ds0, p0, q0, hargs, rfl, rfl, h0, r0⟩ := trodAll_cons hA
 obtain ⟨v1, vs1, d1, ds1, p1, q1, hargs1, rfl, rfl, h1, r1⟩ := trodAll_cons r0
 obtain ⟨rfl, rfl, rfl⟩ := trodAll_nil r1
 subst hargs1
 obtain rfl : args = #[v0, v1] := by cases args; simp_all
 obtain ⟨rfl, rfl⟩ := trodVars_none hV
 obtain ⟨fuel0, hf0⟩ := h0
 obtain ⟨fuel1, hf1⟩ := h1
 obtain ⟨m, rfl⟩ := okWide_int Tryz.underlying3 (hval 0 3 v0 rfl rfl)
 obtain ⟨s1, hs1⟩ := okWide_string Tryz.underlying9 (hval 1 9 v1 rfl rfl)
 subst hs1
 obtain ⟨t1, hc1, _, hsz1⟩ := DataW.trod_string Tryz.underlying9 hf1
 obtain rfl : s1 = t1 := by simpa [Value.cells] using hc1
 obtain ⟨u, rfl⟩ : ∃ u : List UInt8, s1 = ⟨u.toArray⟩ := ⟨s1.data.toList, by simp⟩
 obtain ⟨hLm, hLh⟩ := laidMetH_split hL (show _ = ("errors.errorType", Rows.laid_errors_errorType) :: [] by kernel_rfl)
 exact (walk m u W (by have h : u.toArray.size ≤ maxLen := hsz1; simpa using h) (Go.Proofs.Tryz.laysM146.s1_3 W hSh) (pow_of_laidE hLm (by kernel_rfl)) (et_of_handles hLh)).mono fun e W' ⟨he, hb⟩ => ⟨_, he, law_postV laidOut (by kernel_rfl) (by kernel_rfl) rfl Tryz.underlying4 rfl hW' hb⟩

theorem j1 : (Rows.fnExactPackMakeRow.inPlace == Tryz.pinned.checked.prog.inPlace 4) = true := by kernel_rfl
theorem j2 : (Rows.fnExactPackMakeRow.unfollowed == Tryz.pinned.checked.prog.unfollowed 4) = true := by kernel_rfl
theorem j3 : (Rows.fnExactPackMakeRow.recurses == Tryz.pinned.checked.prog.recurses 4) = true := by kernel_rfl
theorem j4 : (Rows.fnExactPackMakeRow.named == Tryz.pinned.checked.prog.varsNamed 4) = true := by kernel_rfl
theorem j5 : joinedFacts Tryz.pinned.checked.prog 4 Tryz.f4 (OpenSpec.ofChange Rows.fnExactPackMakeSpec).bare Rows.fnExactPackMakeRow = true := by unfold joinedFacts; rw [j1, j2, j3, j4]; kernel_rfl
theorem said : Rows.FnExactPackMakeSaid :=
 OpenClaim.holds_of_cond 4 Tryz.f4 rfl rfl rfl rfl rfl rfl rfl ⟨rfl, rfl, rfl, rfl, rfl⟩ rfl rfl rfl rfl rfl (by kernel_rfl) Tryz.func4 j5
   (of_decide_eq_true (by kernel_rfl)) (by unfold Func.isWrapper; first | (rw [if_pos (by decide +kernel)]; kernel_rfl) | (rw [if_neg (by decide +kernel)]; exact ⟨rfl, rfl⟩))
   (fun os started H enc _ F => by rw [OpenClaim.pre_eq_preRow]; exact lifted os started H enc F)

theorem plain (f : FuncId) (fn : Func) (hf : Tryz.pinned.checked.prog.funcNamed "loop.example/gatelodge/laws.FnExactPackMake" = some f) (hfn : Tryz.pinned.checked.prog.funcs[f]? = some fn) :
   true = Tryz.pinned.checked.prog.looks [] ∧ ∀ (j : Nat) t, fn.params[j]? = some t → Tryz.pinned.checked.prog.wantsStandIn t = false := by
 obtain rfl : f = 4 := Option.some.inj ((show Tryz.prog.funcNamed "loop.example/gatelodge/laws.FnExactPackMake" = some 4 by kernel_rfl).symm.trans hf) |>.symm
 obtain rfl : fn = Tryz.f4 := (Option.some.inj (Tryz.func4.symm.trans hfn)).symm
 refine ⟨by kernel_rfl, fun j t ht => ?_⟩
 rw [Tryz.params4] at ht
 obtain rfl | rfl : t = 3 ∨ t = 9 := by simpa using Array.mem_of_getElem? ht
 · exact (show Tryz.prog.wantsStandIn 3 = false by kernel_rfl)
 · exact (show Tryz.prog.wantsStandIn 9 = false by kernel_rfl)

theorem card : Rows.FnExactPackMakeCardSaid :=
 Claim7.holds_tied_plain_at .later [] _ _ _ _ said (fun _ h => by cases h) (by kernel_rfl) (fun _ h => by cases h) fnExactPackMake_row_tie rfl ⟨rfl, rfl⟩ (by kernel_rfl) rfl plain (by kernel_rfl)
end exactPackMake
end Go.Proofs.YtdjgicapbpoigaaGreatDoor
