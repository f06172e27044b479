/- FnExactPackRead returns true for every key and text, and nothing that was there is changed: the row's statement, and its tied card. No condition but what the row lists: the library's tables, the table of the hash's words and errors.errorType hold what their initialisers lay. -/
import Derived.Test.YtlodcjpoamaemaaDoorPackO
import Derived.Test.YtlodcjpoamaemaaDoorPackL
import Derived.Test.YtlodcjpoamaemaaDoorFrameV
import Derived.Test.YtlodcjpoamaemaaDoorDoorE
namespace Go.Proofs.YtlodcjpoamaemaaDoor
open Go.RowKit Go.WideShapes Go.ChangeShapes Go.ChangeAt
set_option linter.unusedSimpArgs false
set_option linter.unusedVariables false

namespace exactPackRead
/-- What a key and a text give, for both of them. -/
theorem pack_one (key text : List UInt8) : ∃ (e : Int) (r c : List UInt8) (ok : Bool), ∀ w en w', PackPost key text w en w' → en = .returned (.tuple #[.agg #[.int .i64 e, .string ⟨r.toArray⟩, .string ⟨c.toArray⟩], .bool ok]) ∧ Below w.heap.size w w' := by
  by_cases h : ∃ p, isPack key text p
  · obtain ⟨p, h⟩ := h
    refine ⟨p.e, p.r, p.c, true, ?_⟩
    rintro w en w' ⟨hb, ⟨q, hq, rfl⟩ | ⟨hno, _⟩⟩
    · obtain rfl := h.unique hq
      exact ⟨rfl, hb⟩
    · exact absurd ⟨p, h⟩ hno
  · refine ⟨0, [], [], false, ?_⟩
    rintro w en w' ⟨hb, ⟨q, hq, rfl⟩ | ⟨_, rfl⟩⟩
    · exact absurd ⟨q, hq⟩ h
    · exact ⟨rfl, hb⟩

set_option maxHeartbeats 4000000 in
theorem walk (key text : List UInt8) (w : World) (hp : Pow w) (hk : Kww w) (he : EtIs w) (h1 : key.length ≤ maxLen) (h2 : text.length ≤ maxLen) :
    Calls Tryd.prog 3 #[.string ⟨key.toArray⟩, .string ⟨text.toArray⟩] w fun e w' => e = .returned (.bool true) ∧ Below w.heap.size w w' := by
  unfold maxLen at h1 h2
  have HP := Lib.hid hp; have HK := Lib.hid hk; have HE := Lib.hid he
  clear hp hk he
  by_cases hkl : key.length ≤ 1048576
  case neg =>
    have hd : ¬ ((key.length : Int) ≤ 1048576) := by omega
    go_enter Tryd.func3, Tryd.ntmps3
    go_wp2
    all_goals
      go_ret
      exact ⟨rfl, Below.refl _ _⟩
  by_cases htl : text.length ≤ 1048576
  case neg =>
    have hd0 : ((key.length : Int) ≤ 1048576) := by omega
    have hd : ¬ ((text.length : Int) ≤ 1048576) := by omega
    go_enter Tryd.func3, Tryd.ntmps3
    go_wp2
    all_goals
      go_ret
      exact ⟨rfl, Below.refl _ _⟩
  obtain ⟨e0, r, c, ok, hone⟩ := pack_one key text
  have HO := Lib.hid hone
  have ho : (ok != ok) = false := by simp
  have k1 : ((key.length : Int) ≤ 1048576) := by omega
  have k2 : ((text.length : Int) ≤ 1048576) := by omega
  have HKL := Lib.hid hkl; have HTL := Lib.hid htl
  clear hone hkl htl h1 h2
  go_enter Tryd.func3, Tryd.ntmps3
  go_wp2_with fail
  refine (sPackRead_any key text w HKL.out HTL.out).mono ?_; intro e w1 hp1
  obtain ⟨rfl, b1⟩ := HO.out _ _ _ hp1
  have B1 := Lib.hid b1
  clear hp1 b1
  obtain ⟨w2, hw2⟩ : ∃ X, X = w1.alloc (.cells #[.int .i64 e0, .string ⟨r.toArray⟩, .string ⟨c.toArray⟩] 23) := ⟨_, rfl⟩
  have K2 := Lib.hid (show Blk w2 w1.heap.size 23 #[.int .i64 e0, .string ⟨r.toArray⟩, .string ⟨c.toArray⟩] by rw [hw2]; exact Blk.new _ _ _)
  have B2 := Lib.hid (show Below w.heap.size w w2 by rw [hw2]; exact B1.out.alloc B1.out.size _)
  have HW2 := Lib.hid hw2
  clear hw2
  go_wp2_with fail
  rw [← HW2.out]
  refine (PackRead_any key text w2 (HP.out.below B2.out) (HK.out.below B2.out (Nat.le_refl _)) (HE.out.below B2.out) HKL.out HTL.out).mono ?_; intro e w3 hp3
  obtain ⟨rfl, b3⟩ := HO.out _ _ _ hp3
  have B3 := Lib.hid (below_then B2.out b3); have K3 := Lib.hid (K2.out.below b3 K2.out.lt)
  clear hp3 b3 HW2
  have y0 := (show _ = some (Value.int .i64 e0) from K3.out.cell 0); have y1 := (show _ = some (Value.string ⟨r.toArray⟩) from K3.out.cell 1); have y2 := (show _ = some (Value.string ⟨c.toArray⟩) from K3.out.cell 2)
  have hl := K3.out.lt
  have BA := Lib.hid (B3.out.alloc B3.out.size (.cells #[.int .i64 e0, .string ⟨r.toArray⟩, .string ⟨c.toArray⟩] 23))
  go_wp2_with fail
  refine (eqPack_same e0 r c _).mono ?_; rintro e w5 ⟨rfl, b5⟩
  have B5 := Lib.hid (below_then BA.out b5)
  clear b5 y0 y1 y2
  go_wp2
  go_ret
  exact ⟨rfl, B5.out⟩

theorem laid_met (os : Os) : laidMetH Tryd.prog Rows.fnExactPackReadRow.laid ((laidWorldE os Rows.fnExactPackReadRow.laid).forCall (fun _ _ => 0) ⟨#[], #[.string ⟨#[]⟩, .string ⟨#[]⟩], []⟩).memory :=
  laidMetH_of_parts (laidMet_of_run' 8 (by kernel_rfl) (by kernel_rfl)) (by kernel_rfl)
theorem reads (os : Os) {H : Type} (enc : TypeId × Value → H) : (DataW.whole enc Tryd.prog ((laidWorldE os Rows.fnExactPackReadRow.laid).forCall (fun _ _ => 0) ⟨#[], #[.string ⟨#[]⟩, .string ⟨#[]⟩], []⟩).memory Tryd.f3.params.toList Rows.fnExactPackReadSpec.vars false #[.string ⟨#[]⟩, .string ⟨#[]⟩].toList 8).isSome = true := by kernel_rfl

set_option maxRecDepth 100000 in
theorem lifted (os : Os) (started : os.Started) (H : Type) (enc : TypeId × Value → H) (F : Stop.Interp) :
    ReturnsInHanded {} Tryd.checked os 3 .any ((OpenSpec.ofChange Rows.fnExactPackReadSpec).preRow enc Tryd.prog Tryd.f3 Rows.fnExactPackReadRow.domain false Rows.fnExactPackReadRow.laid) (((OpenSpec.ofChange Rows.fnExactPackReadSpec).at F).post enc Tryd.prog Tryd.f3 false true false false) := by
  obtain ⟨x, hx⟩ := Option.isSome_iff_exists.1 (reads os enc)
  refine returnsInHanded_of_row (C := Tryd.checked) (s := OpenSpec.ofChange Rows.fnExactPackReadSpec) own started (by kernel_rfl) Tryd.func3
    (witness_row_at (enc := enc) (C := Tryd.checked) false (laidWorldE os Rows.fnExactPackReadRow.laid) #[.string ⟨#[]⟩, .string ⟨#[]⟩] rfl (by kernel_rfl) (by kernel_rfl) (by kernel_rfl)
      (OpenSpec.preRow_of_cond 8 hx rfl (fun k hk => by cases hk) (by kernel_rfl) (laid_met os))) ?_
  intro W base args ds gs before hval hW _ _ _ hL _ _
  have hW' := hW
  obtain ⟨p, q, hA0, hV, rfl, hfz, hnd⟩ := hW
  have hA : DataW.TrodAll enc Tryd.prog W 0 (fun _ => true) true Tryd.f3.params.toList args.toList ds p := hA0
  rw [Tryd.params3] at hA
  obtain ⟨v0, vs0, d0, ds0, p0, q0, hargs, rfl, rfl, h0, r0⟩ := trodAll_cons hA
  obtain ⟨v1, vs1, d1, ds1, p1, q1, hargs1, rfl, rfl, h1, r1⟩ := trodAll_cons r0
  obtain ⟨rfl, rfl, rfl⟩ := trodAll_nil r1
  obtain rfl : args = #[v0, v1] := by cases args; simp_all
  obtain ⟨gg, tg, cg, fg, dg, pg, rfl, -, -, -, -, -⟩ := trodVars_one (show DataW.TrodVars enc Tryd.prog W (fun _ => true) ["loop.example/gatelodge/impl.hashWords"] gs q from hV)
  obtain ⟨fuel0, hf0⟩ := h0
  obtain ⟨s0, hs0⟩ := okWide_string Tryd.underlying9 (hval 0 9 v0 rfl rfl)
  subst hs0
  obtain ⟨t0, hc0, _, hsz0⟩ := DataW.trod_string Tryd.underlying9 hf0
  obtain rfl : s0 = t0 := by simpa [Value.cells] using hc0
  obtain ⟨fuel1, hf1⟩ := h1
  obtain ⟨s1, hs1⟩ := okWide_string Tryd.underlying9 (hval 1 9 v1 rfl rfl)
  subst hs1
  obtain ⟨t1, hc1, _, hsz1⟩ := DataW.trod_string Tryd.underlying9 hf1
  obtain rfl : s1 = t1 := by simpa [Value.cells] using hc1
  obtain ⟨hLm, hLh⟩ := laidMetH_split hL (show _ = ("errors.errorType", Rows.laid_errors_errorType) :: [] by kernel_rfl)
  have e0 : s0 = ⟨s0.data.toList.toArray⟩ := by simp
  have e1 : s1 = ⟨s1.data.toList.toArray⟩ := by simp
  have hwalk := walk s0.data.toList s1.data.toList W (pow_of_laidE hLm (by kernel_rfl)) (kww_of_laidE hLm (by kernel_rfl)) (et_of_handles hLh) (by simpa using hsz0) (by simpa using hsz1)
  rw [← e0, ← e1] at hwalk
  exact hwalk.mono fun e W' ⟨he, hb⟩ => ⟨_, he, law_postV laidOut (by kernel_rfl) (by kernel_rfl) rfl Tryd.underlying4 rfl hW' hb⟩

theorem said : Rows.FnExactPackReadSaid :=
  OpenClaim.holds_of_cond 3 Tryd.f3 rfl rfl rfl rfl rfl rfl rfl ⟨rfl, rfl, rfl, rfl, rfl⟩ rfl rfl rfl rfl rfl (by kernel_rfl) Tryd.func3 (by kernel_rfl)
    (of_decide_eq_true (by kernel_rfl)) (by unfold Func.isWrapper; first | (rw [if_pos (by decide +kernel)]; kernel_rfl) | (rw [if_neg (by decide +kernel)]; exact ⟨rfl, rfl⟩))
    (fun os started H enc _ F => by rw [OpenClaim.pre_eq_preRow]; exact lifted os started H enc F)

theorem plain (f : FuncId) (fn : Func) (hf : Tryd.pinned.checked.prog.funcNamed "loop.example/gatelodge/laws.FnExactPackRead" = some f) (hfn : Tryd.pinned.checked.prog.funcs[f]? = some fn) :
    true = Tryd.pinned.checked.prog.looks [] ∧ ∀ (j : Nat) t, fn.params[j]? = some t → Tryd.pinned.checked.prog.wantsStandIn t = false := by
  obtain rfl : f = 3 := Option.some.inj ((show Tryd.prog.funcNamed "loop.example/gatelodge/laws.FnExactPackRead" = some 3 by kernel_rfl).symm.trans hf) |>.symm
  obtain rfl : fn = Tryd.f3 := (Option.some.inj (Tryd.func3.symm.trans hfn)).symm
  refine ⟨by kernel_rfl, fun j t ht => ?_⟩
  rw [Tryd.params3] at ht
  obtain rfl : t = 9 := by have := Array.mem_of_getElem? ht; simp at this; exact this
  exact (show Tryd.prog.wantsStandIn 9 = false by kernel_rfl)

theorem card : Rows.FnExactPackReadCardSaid :=
  Claim7.holds_tied_plain_at .later [] _ _ _ _ said (fun _ h => by cases h) (by kernel_rfl) (fun _ h => by cases h) fnExactPackRead_row_tie rfl ⟨rfl, rfl⟩ (by kernel_rfl) rfl plain (by kernel_rfl)
end exactPackRead
end Go.Proofs.YtlodcjpoamaemaaDoor
