/- FnExactGraphVerdicts returns true for every slice of points, whatever its points are; nothing that was there is changed. No condition. -/
import Derived.Test.YtgkcmplmbbgemaaVerdI
import Derived.Test.YtgkcmplmbbgemaaLawPoint2
import Derived.Test.YtgkcmplmbbgemaaLawInts
import Derived.Test.YtgkcmplmbbgemaaArgPoint
import Derived.Test.YtgkcmplmbbgemaaFrame
namespace Go.Proofs.Ytgkcmplmbbgemaa
open Go.RowKit Go.WideShapes Go.ChangeShapes Go.ChangeAt
set_option linter.unusedSimpArgs false
set_option linter.unusedVariables false

theorem own_grown_below' {w w' : World} {base n : Nat} {e : TypeId} {size : Nat} {v : Value} {xs : List Value} (h : w.ownsRow base e size v n xs) (hg : w.grownBy w' v.ownBlock) (hb : base ≤ w.heap.size) : Below base w w' :=
  (Below.refl base w).grown hg hb (fun k hk => (h.lt k hk).1)
/-- Two rows that lie apart: what turns the one leaves the other. -/
theorem own_apart {w w' : World} {base n base' n' : Nat} {e e' : TypeId} {size size' : Nat} {v v' : Value} {xs xs' : List Value} (h : w.ownsRow base e size v n xs) (h' : w.ownsRow base' e' size' v' n' xs') (hg : w.grownBy w' v'.ownBlock) (hne : ∀ b, v.ownBlock = some b → v'.ownBlock = some b → False) : w'.ownsRow base e size v n xs := by
  refine h.kept hg ?_
  cases hv : v.ownBlock with
  | none => exact .inl rfl
  | some b => exact .inr (fun e => hne b hv e.symm)

namespace exactGraphVerdicts
set_option maxHeartbeats 4000000 in
theorem walk (v : Value) (g : List Pt) (w : World) (hs : Sl w 7 v (g.map Pt.cells)) :
    Calls Try.prog 3 #[v] w fun e w' => e = .returned (.bool true) ∧ Below w.heap.size w w' := by
  have hs0 := hs
  obtain ⟨A, n, c, rfl, hA⟩ := hs
  have hl : g.length = n := by have := hA.len; simpa using this
  have hc := hA.cap
  have hm := hA.max
  unfold maxLen at hm
  by_cases hn : n ≤ 1048576
  · obtain ⟨xs, hxs⟩ : ∃ xs, xs = verdictsOf g := ⟨_, rfl⟩
    have hx : xs.length ≤ 4 := by
      rw [hxs]; unfold verdictsOf; split
      · exact outTo_len _ _ _
      · simp
    have hpost : ∀ w e w', VerdPost g w e w' → ∃ v, e = .returned v ∧ w'.ownsRow w.heap.size 3 1 v xs.length (ints xs).flatten ∧ Below w.heap.size w w' := by rw [hxs]; exact fun _ _ _ h => h
    have HV := Lib.hid hpost; clear hpost hxs
    have he : intsEq xs xs = true := intsEq_iff.2 rfl
    have hp : ptsEq g g = true := ptsEq_iff.2 rfl
    have hgn : g.length ≤ 1048576 := by rw [hl]; exact hn
    have hd : ¬ (1048576 : Int) - n < 0 := by omega
    have hd2 : ¬ (1 : Int) + ((g.length * 7 : Nat) : Int) < 0 := by omega
    have hd3 : ¬ (1 : Int) + (xs.length : Int) < 0 := by omega
    have hd4 : ((1 : Int) + (xs.length : Int) != 1 + (xs.length : Int)) = false := by simp
    have HL := Lib.hid hl; clear hl
    go_enter Try.func3, Try.ntmps3
    go_wp2_with fail
    refine (szPointS_ok A n c 1048576 _ (by omega) (by omega)).mono ?_; rintro e w1 ⟨rfl, rfl⟩
    go_wp2_with fail
    refine (toPointS_any _ g _ hs0 hgn).mono ?_; rintro e w1 ⟨v1, rfl, s1, b1⟩
    go_wp2_with fail
    refine (sGraphVerdicts_any _ g _ s1).mono ?_; intro e w2 hp2
    obtain ⟨v2, rfl, o2, b2⟩ := HV.out _ _ _ hp2
    have b02 := below_then b1 b2
    go_wp2_with fail
    refine (toPointSo_any _ g _ (hs0.below b02) hgn).mono ?_; rintro e w3 ⟨v3, rfl, o3, b3⟩
    have s3 := SlA.of_own o3 (by simp) (Pt.rows g)
    go_wp2_with fail
    refine (GraphVerdicts_any _ g _ s3).mono ?_; intro e w4 hp4
    obtain ⟨v4, rfl, o4, b4⟩ := HV.out _ _ _ hp4
    have b24 := below_then b3 b4
    have s4 := SlA.of_own o4 (ints_len xs) (ints_rows xs)
    have s2 := SlA.of_own o2 (ints_len xs) (ints_rows xs)
    go_wp2_with fail
    refine (eqIntS_any _ _ xs xs _ s4 (s2.below b24)).mono ?_; rintro e w5 ⟨rfl, b5⟩
    rw [he]
    have b25 := below_then b24 b5
    go_wp2_with fail
    refine (toPointS_any _ g _ (hs0.below (below_then b02 b25)) hgn).mono ?_; rintro e w6 ⟨v6, rfl, s6, b6⟩
    have b36 := below_then (below_then b4 b5) b6
    go_wp2_with fail
    refine (eqPointS_any _ _ g g _ (s3.below b36) s6).mono ?_; rintro e w7 ⟨rfl, b7⟩
    rw [hp]
    have b37 := below_then b36 b7
    have b27 := below_then b3 b37
    have o37 := own_below o3 b37
    have o47 := own_below (own_below (own_below o4 b5) b6) b7
    go_wp2_with fail
    refine (markPointS_own _ _ _ g.length 1 _ o37 hgn (by omega) (by omega)).mono ?_; rintro e w8 ⟨rfl, g8, zs, o8⟩
    have b8 := own_grown_below' o37 g8 (by have := b27.size; exact this)
    have b28 := b27.trans b8
    have o48 := own_apart o47 o37 g8 (fun b h1 h2 => by have h3 := (o4.lt b h1).1; have h4 := (o3.lt b h2).2; omega)
    have s48 := SlA.of_own o48 (ints_len xs) (ints_rows xs)
    go_wp2_with fail
    refine (eqIntS_any _ _ xs xs _ s48 (s2.below b28)).mono ?_; rintro e w9 ⟨rfl, b9⟩
    rw [he]
    have o49 := own_below o48 b9
    go_wp2_with fail
    refine (markIntS_own _ _ xs xs.length 1 _ rfl o49 (by omega) (by omega) (by omega)).mono ?_; rintro e w10 ⟨rfl, g10, o10⟩
    have hz3 := b3.size
    have hz37 := b37.size
    have hz8 := b8.size
    have hz9 := b9.size
    have b10 := own_grown_below' o49 g10 (by omega)
    have b210 := (b28.trans (b9.mono (by have := b28.size; exact this))).trans (b10.mono hz3)
    go_wp2_with fail
    refine (heldIntS_marks _ xs.length 1 _ (SlA.of_own o10 ((ints_len _).trans (marks_len _ _)) (ints_rows _)) (by omega) (by omega) (by omega)).mono ?_; rintro e w11 ⟨rfl, rfl⟩
    have b010 := below_then b02 b210
    go_wp2_with fail
    refine (toPointS_any _ g _ (hs0.below b010) hgn).mono ?_; rintro e w12 ⟨v12, rfl, s12, b12⟩
    go_wp2_with fail
    refine (GraphVerdicts_any _ g _ s12).mono ?_; intro e w13 hp13
    obtain ⟨v13, rfl, o13, b13⟩ := HV.out _ _ _ hp13
    have s13 := SlA.of_own o13 (ints_len xs) (ints_rows xs)
    have b213 := below_then b210 (below_then b12 b13)
    have o10b := own_below (own_below o10 b12) b13
    go_wp2_with fail
    refine (eqIntS_any _ _ xs xs _ s13 (s2.below b213)).mono ?_; rintro e w14 ⟨rfl, b14⟩
    rw [he]
    have o14 := own_below o10b b14
    go_wp2_with fail
    refine (heldIntS_marks _ xs.length 1 _ (SlA.of_own o14 ((ints_len _).trans (marks_len _ _)) (ints_rows _)) (by omega) (by omega) (by omega)).mono ?_; rintro e w15 ⟨rfl, rfl⟩
    go_wp2
    all_goals
      go_ret
      exact ⟨rfl, below_then b02 (below_then b213 b14)⟩
  · go_enter Try.func3, Try.ntmps3
    go_wp2_with fail
    refine (szPointS_no A n c 1048576 _ (by omega) (by omega) (by omega)).mono ?_; rintro e w1 ⟨rfl, rfl⟩
    go_wp2
    go_ret
    exact ⟨rfl, Below.refl _ _⟩

set_option maxRecDepth 100000 in
theorem lifted (os : Os) (started : os.Started) (H : Type) (enc : TypeId × Value → H) :
    ReturnsInHanded {} Try.checked os 3 .any (Rows.fnExactGraphVerdictsSpec.pre6 enc Try.prog Try.f3 Rows.fnExactGraphVerdictsRow.domain false) (Rows.fnExactGraphVerdictsSpec.post enc Try.prog Try.f3 false true false false) := by
  refine returnsInHanded_of_change (C := Try.checked) own started (by kernel_rfl) Try.func3
    (ChangeSpec.witness6 (enc := enc) (C := Try.checked) false ⟨#[], #[.slice none 0 0], []⟩ 8 (by kernel_rfl) (by kernel_rfl) (by kernel_rfl) (by kernel_rfl)) ?_
  intro W base args ds gs before hval hW _ _
  have hW' := hW
  obtain ⟨p, q, hA0, hV, rfl, hfz, hnd⟩ := hW
  have hA : DataW.TrodAll enc Try.prog W 0 (fun _ => true) true Try.f3.params.toList args.toList ds p := hA0
  rw [Try.params3] at hA
  obtain ⟨v0, vs0, d0, ds0, p0, q0, hargs, rfl, rfl, h0, r0⟩ := trodAll_cons hA
  obtain ⟨rfl, rfl, rfl⟩ := trodAll_nil r0
  obtain rfl : args = #[v0] := by cases args; simp_all
  obtain ⟨rfl, rfl⟩ := trodVars_none hV
  obtain ⟨fuel, hf⟩ := h0
  obtain ⟨a0, len, cap, rfl⟩ := okWide_slice Try.underlying22 (hval 0 22 v0 rfl rfl)
  obtain ⟨v, g, hc, hs⟩ := pts_arg hf
  obtain rfl : Value.slice a0 len cap = v := by simpa [Value.cells] using hc
  exact (walk _ g W hs).mono fun e W' ⟨he, hb⟩ => ⟨_, he, law_post laidOut (by kernel_rfl) rfl rfl Try.underlying4 rfl hW' hb⟩

theorem proved : Rows.FnExactGraphVerdictsSaid :=
  OpenClaim.holds_of_wide 3 Try.f3 rfl rfl rfl rfl rfl rfl rfl ⟨rfl, rfl, rfl, rfl, rfl⟩ rfl rfl rfl rfl rfl (by kernel_rfl) Try.func3 (by kernel_rfl)
    (of_decide_eq_true (by kernel_rfl)) (by unfold Func.isWrapper; first | (rw [if_pos (by decide +kernel)]; kernel_rfl) | (rw [if_neg (by decide +kernel)]; exact ⟨rfl, rfl⟩))
    (fun os started H enc _ => lifted os started H enc)
end exactGraphVerdicts
end Go.Proofs.Ytgkcmplmbbgemaa
