/- FnExactCodeCalls returns true for every program, and nothing that was there is changed: the row's statement, and its tied card. No condition but what the row lists: the library's tables hold what their initialisers lay. -/
import Derived.Test.YtbcbbemkjaabjaaDoorCodeCalls
import Derived.Test.YtbcbbemkjaabjaaDoorLawInts
import Derived.Test.YtbcbbemkjaabjaaDoorLawInsTo
import Derived.Test.YtbcbbemkjaabjaaDoorDoor
namespace Go.Proofs.YtbcbbemkjaabjaaDoor
open Go.RowKit Go.WideShapes Go.ChangeShapes Go.ChangeAt
set_option linter.unusedSimpArgs false
set_option linter.unusedVariables false

theorem own_turned {w w' : World} {base n : Nat} {e : TypeId} {size : Nat} {v : Value} {xs : List Value} (h : w.ownsRow base e size v n xs) (hg : w.grownBy w' v.ownBlock) (hb : base ≤ w.heap.size) : Below base w w' :=
  (Below.refl base w).grown hg hb (fun k hk => (h.lt k hk).1)
/-- Two rows that lie apart: what turns the one leaves the other. -/
theorem own_apart {w w' : World} {base n base' n' : Nat} {e e' : TypeId} {size size' : Nat} {v v' : Value} {xs xs' : List Value} (h : w.ownsRow base e size v n xs) (h' : w.ownsRow base' e' size' v' n' xs') (hg : w.grownBy w' v'.ownBlock) (hne : ∀ b, v.ownBlock = some b → v'.ownBlock = some b → False) : w'.ownsRow base e size v n xs := by
  refine h.kept hg ?_
  cases hv : v.ownBlock with
  | none => exact .inl rfl
  | some b => exact .inr (fun e => hne b hv e.symm)

namespace exactCodeCalls
set_option maxHeartbeats 4000000 in
theorem walk (u : Value) (g : List In4) (w : World) (hp : Pow w) (hu : Sl w 4 u (insR g)) :
    Calls Tryd.prog 6 #[u] w fun e w' => e = .returned (.bool true) ∧ Below w.heap.size w w' := by
  have hu0 := hu
  obtain ⟨A, n, c, rfl, hA⟩ := hu
  have hl : g.length = n := by have := hA.len; rwa [insR_len] at this
  have hmx := hA.max
  have hcp := hA.cap
  unfold maxLen at hmx
  clear hA
  by_cases hn : n ≤ 1048576
  · obtain ⟨xs, hxs⟩ : ∃ xs, xs = callsOf g := ⟨_, rfl⟩
    have hx : xs.length ≤ 160 := by rw [hxs]; exact callsOf_len g
    have hpost : ∀ w e w', CallsPost g w e w' → ∃ v, e = .returned v ∧ w'.ownsRow w.heap.size 3 1 v xs.length (ints xs).flatten ∧ Below w.heap.size w w' := by rw [hxs]; exact fun _ _ _ h => h
    have HV := Lib.hid hpost; clear hpost hxs
    have he : intsEq xs xs = true := intsEq_iff.2 rfl
    have hpq : codeEq g g = true := codeEq_iff.2 rfl
    have hgn : g.length ≤ 1048576 := by rw [hl]; exact hn
    have hd : ¬ (1048576 : Int) - n < 0 := by omega
    have hd2 : ¬ (1 : Int) + ((g.length * 4 : Nat) : Int) < 0 := by omega
    have hd3 : ¬ (1 : Int) + (xs.length : Int) < 0 := by omega
    have hd4 : ((1 : Int) + (xs.length : Int) != 1 + (xs.length : Int)) = false := by simp
    have HL := Lib.hid hl; clear hl
    go_enter Tryd.func6, Tryd.ntmps6
    go_wp2_with fail
    refine (szInsS_ok A n c 1048576 _ (by omega) (by omega)).mono ?_; rintro e w1 ⟨rfl, rfl⟩
    go_wp2_with fail
    refine (toInsS_any _ g _ hu0 hgn).mono ?_; rintro e w1 ⟨v1, rfl, o1, b1⟩
    have s1 := SlA.of_own o1 (insR_len g) (insR_rows g)
    go_wp2_with fail
    refine (sCodeCalls_any _ g _ s1).mono ?_; intro e w2 hp2
    obtain ⟨v2, rfl, o2, b2⟩ := HV.out _ _ _ hp2
    have b02 := below_then b1 b2
    go_wp2_with fail
    refine (toInsS_any _ g _ (hu0.below b02) hgn).mono ?_; rintro e w3 ⟨v3, rfl, o3, b3⟩
    have s3 := SlA.of_own o3 (insR_len g) (insR_rows g)
    go_wp2_with fail
    refine (CodeCalls_any _ g _ s3 (hp.below (below_then b02 b3))).mono ?_; intro e w4 hp4
    obtain ⟨v4, rfl, o4, b4⟩ := HV.out _ _ _ hp4
    have b24 := below_then b3 b4
    have s4 := SlA.of_own o4 (ints_len xs) (ints_rows xs)
    have s2 := SlA.of_own o2 (ints_len xs) (ints_rows xs)
    go_wp2_with fail
    refine (eqIntS_any _ _ xs xs _ s4 (s2.below b24)).mono ?_; rintro e w5 ⟨rfl, b5⟩
    rw [he]
    have b25 := below_then b24 b5
    go_wp2_with fail
    refine (toInsS_any _ g _ (hu0.below (below_then b02 b25)) hgn).mono ?_; rintro e w6 ⟨v6, rfl, o6, b6⟩
    have s6 := SlA.of_own o6 (insR_len g) (insR_rows g)
    have b36 := below_then (below_then b4 b5) b6
    go_wp2_with fail
    refine (eqInsS_any _ _ g g _ (s3.below b36) s6).mono ?_; rintro e w7 ⟨rfl, b7⟩
    rw [hpq]
    have b37 := below_then b36 b7
    have b27 := below_then b3 b37
    have o37 := own_below o3 b37
    have o47 := own_below (own_below (own_below o4 b5) b6) b7
    go_wp2_with fail
    refine (markInsS_own _ _ _ g.length 1 _ o37 hgn (by omega) (by omega)).mono ?_; rintro e w8 ⟨rfl, g8, o8⟩
    have b8 := own_turned o37 g8 (by have := b27.size; exact this)
    have b28 := b27.trans b8
    have o48 := own_apart o47 o37 g8 (fun b h1 h2 => by have h3 := (o4.lt b h1).1; have h4 := (o3.lt b h2).2; omega)
    have s48 := SlA.of_own o48 (ints_len xs) (ints_rows xs)
    go_wp2_with fail
    refine (eqIntS_any _ _ xs xs _ s48 (s2.below b28)).mono ?_; rintro e w9 ⟨rfl, b9⟩
    rw [he]
    have o49 := own_below o48 b9
    go_wp2_with fail
    refine (markIntS_own _ _ xs xs.length 1 _ rfl o49 (by omega) (by omega) (by omega)).mono ?_; rintro e w10 ⟨rfl, g10, o10⟩
    have hz3 := b3.size
    have hz37 := b37.size
    have hz8 := b8.size
    have hz9 := b9.size
    have b10 := own_turned o49 g10 (by omega)
    have b210 := (b28.trans (b9.mono (by have := b28.size; exact this))).trans (b10.mono hz3)
    go_wp2_with fail
    refine (heldIntS_marks _ xs.length 1 _ (SlA.of_own o10 ((ints_len _).trans (marks_len _ _)) (ints_rows _)) (by omega) (by omega) (by omega)).mono ?_; rintro e w11 ⟨rfl, rfl⟩
    have b010 := below_then b02 b210
    go_wp2_with fail
    refine (toInsS_any _ g _ (hu0.below b010) hgn).mono ?_; rintro e w12 ⟨v12, rfl, o12, b12⟩
    have s12 := SlA.of_own o12 (insR_len g) (insR_rows g)
    go_wp2_with fail
    refine (CodeCalls_any _ g _ s12 (hp.below (below_then b010 b12))).mono ?_; intro e w13 hp13
    obtain ⟨v13, rfl, o13, b13⟩ := HV.out _ _ _ hp13
    have s13 := SlA.of_own o13 (ints_len xs) (ints_rows xs)
    have b213 := below_then b210 (below_then b12 b13)
    have o10b := own_below (own_below o10 b12) b13
    go_wp2_with fail
    refine (eqIntS_any _ _ xs xs _ s13 (s2.below b213)).mono ?_; rintro e w14 ⟨rfl, b14⟩
    rw [he]
    have o14 := own_below o10b b14
    go_wp2_with fail
    refine (heldIntS_marks _ xs.length 1 _ (SlA.of_own o14 ((ints_len _).trans (marks_len _ _)) (ints_rows _)) (by omega) (by omega) (by omega)).mono ?_; rintro e w15 ⟨rfl, rfl⟩
    go_wp2
    all_goals
      go_ret
      exact ⟨rfl, below_then b02 (below_then b213 b14)⟩
  · go_enter Tryd.func6, Tryd.ntmps6
    go_wp2_with fail
    refine (szInsS_no A n c 1048576 _ (by omega) (by omega) (by omega)).mono ?_; rintro e w1 ⟨rfl, rfl⟩
    go_wp2
    go_ret
    exact ⟨rfl, Below.refl _ _⟩

theorem laid_met (os : Os) : laidMet Tryd.prog Rows.fnExactCodeCallsRow.laid ((laidWorld os Rows.fnExactCodeCallsRow.laid).forCall (fun _ _ => 0) ⟨#[], #[.slice none 0 0], []⟩).memory :=
  laidMet_of_run' 8 (by kernel_rfl) (by kernel_rfl)
theorem reads (os : Os) {H : Type} (enc : TypeId × Value → H) : ∃ places, DataW.whole enc Tryd.prog ((laidWorld os Rows.fnExactCodeCallsRow.laid).forCall (fun _ _ => 0) ⟨#[], #[.slice none 0 0], []⟩).memory Tryd.f6.params.toList Rows.fnExactCodeCallsSpec.vars false #[.slice none 0 0].toList 8 = some ([.nil], [], places) :=
  ⟨[], by kernel_rfl⟩

set_option maxRecDepth 100000 in
theorem lifted (os : Os) (started : os.Started) (H : Type) (enc : TypeId × Value → H) (F : Stop.Interp) :
    ReturnsInHanded {} Tryd.checked os 6 .any ((OpenSpec.ofChange Rows.fnExactCodeCallsSpec).preRow enc Tryd.prog Tryd.f6 Rows.fnExactCodeCallsRow.domain false Rows.fnExactCodeCallsRow.laid) (((OpenSpec.ofChange Rows.fnExactCodeCallsSpec).at F).post enc Tryd.prog Tryd.f6 false true false false) := by
  obtain ⟨places, hx⟩ := reads os enc
  refine returnsInHanded_of_row (C := Tryd.checked) (s := OpenSpec.ofChange Rows.fnExactCodeCallsSpec) own started (by kernel_rfl) Tryd.func6
    (witness_row_at (enc := enc) (C := Tryd.checked) false (laidWorld os Rows.fnExactCodeCallsRow.laid) #[.slice none 0 0] rfl (by kernel_rfl) (by kernel_rfl) (by kernel_rfl)
      (OpenSpec.preRow_of_cond 8 hx (by kernel_rfl) (fun k hk => by cases hk) (by kernel_rfl) (laid_met os))) ?_
  intro W base args ds gs before hval hW _ _ _ hL _ _
  have hW' := hW
  obtain ⟨p, q, hA0, hV, rfl, hfz, hnd⟩ := hW
  have hA : DataW.TrodAll enc Tryd.prog W 0 (fun _ => true) true Tryd.f6.params.toList args.toList ds p := hA0
  rw [Tryd.params6] at hA
  obtain ⟨v0, vs0, d0, ds0, p0, q0, hargs, rfl, rfl, h0, r0⟩ := trodAll_cons hA
  obtain ⟨rfl, rfl, rfl⟩ := trodAll_nil r0
  obtain rfl : args = #[v0] := by cases args; simp_all
  obtain ⟨rfl, rfl⟩ := trodVars_none hV
  obtain ⟨fuel, hf⟩ := h0
  obtain ⟨a0, len, cap, rfl⟩ := okWide_slice Tryd.underlying22 (hval 0 22 v0 rfl rfl)
  obtain ⟨v, g, hc, hs⟩ := ins_arg hf
  obtain rfl : Value.slice a0 len cap = v := by simpa [Value.cells] using hc
  exact (walk _ g W (pow_of_laid hL (by kernel_rfl) (by kernel_rfl)) hs).mono fun e W' ⟨he, hb⟩ => ⟨_, he, law_post laidOut (by kernel_rfl) rfl rfl Tryd.underlying4 rfl hW' hb⟩

theorem said : Rows.FnExactCodeCallsSaid :=
  OpenClaim.holds_of_cond 6 Tryd.f6 rfl rfl rfl rfl rfl rfl rfl ⟨rfl, rfl, rfl, rfl, rfl⟩ rfl rfl rfl rfl rfl (by kernel_rfl) Tryd.func6 (by kernel_rfl)
    (of_decide_eq_true (by kernel_rfl)) (by unfold Func.isWrapper; first | (rw [if_pos (by decide +kernel)]; kernel_rfl) | (rw [if_neg (by decide +kernel)]; exact ⟨rfl, rfl⟩))
    (fun os started H enc _ F => by rw [OpenClaim.pre_eq_preRow]; exact lifted os started H enc F)

theorem plain (f : FuncId) (fn : Func) (hf : Tryd.pinned.checked.prog.funcNamed "loop.example/gatelodge/laws.FnExactCodeCalls" = some f) (hfn : Tryd.pinned.checked.prog.funcs[f]? = some fn) :
    false = Tryd.pinned.checked.prog.looks [] ∧ ∀ (j : Nat) t, fn.params[j]? = some t → Tryd.pinned.checked.prog.wantsStandIn t = false := by
  obtain rfl : f = 6 := Option.some.inj ((show Tryd.prog.funcNamed "loop.example/gatelodge/laws.FnExactCodeCalls" = some 6 by kernel_rfl).symm.trans hf) |>.symm
  obtain rfl : fn = Tryd.f6 := (Option.some.inj (Tryd.func6.symm.trans hfn)).symm
  refine ⟨by kernel_rfl, fun j t ht => ?_⟩
  rw [Tryd.params6] at ht
  obtain rfl : t = 22 := by simpa using Array.mem_of_getElem? ht
  exact (show Tryd.prog.wantsStandIn 22 = false by kernel_rfl)

theorem card : Rows.FnExactCodeCallsCardSaid :=
  Claim7.holds_tied_plain_at .later [] _ _ _ _ said (fun _ h => by cases h) (by kernel_rfl) (fun _ h => by cases h) fnExactCodeCalls_row_tie rfl ⟨rfl, rfl⟩ (by kernel_rfl) rfl plain (by kernel_rfl)
end exactCodeCalls
end Go.Proofs.YtbcbbemkjaabjaaDoor
