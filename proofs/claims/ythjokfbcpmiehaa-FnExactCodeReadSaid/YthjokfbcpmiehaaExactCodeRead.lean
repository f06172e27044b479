/- FnExactCodeRead returns true for every text, and nothing that was there is changed. No condition. -/
import Derived.Test.YthjokfbcpmiehaaCodeI
import Derived.Test.YthjokfbcpmiehaaCodeS3
import Derived.Test.YthjokfbcpmiehaaLawIns
import Derived.Test.YthjokfbcpmiehaaFrame
namespace Go.Proofs.Ythjokfbcpmiehaa
open Go.RowKit Go.WideShapes Go.ChangeShapes Go.ChangeAt
set_option linter.unusedSimpArgs false
set_option linter.unusedVariables false

/-- What a text reads as, for both of them. -/
theorem codePost_one (text : List UInt8) : ∃ (g : List In4) (ok : Bool), g.length ≤ 160 ∧ ∀ e w en w', CodePost text e w en w' →
    ∃ v, en = .returned (.tuple #[v, .bool ok]) ∧ w'.ownsRow w.heap.size e 4 v g.length (insR g).flatten ∧ Below w.heap.size w w' := by
  by_cases hy : ∃ g, codeOk g ∧ text = codeText g
  · obtain ⟨g, hok, ht⟩ := hy
    refine ⟨g, true, hok.1.2.1, ?_⟩
    rintro e w en w' (⟨g', v, hok', ht', rfl, ho, hb⟩ | ⟨hno, _⟩)
    · obtain rfl := code_one hok hok' (ht.symm.trans ht')
      exact ⟨v, rfl, ho, hb⟩
    · exact absurd ⟨g, hok, ht⟩ hno
  · refine ⟨[], false, by simp, ?_⟩
    rintro e w en w' (⟨g', v, hok', ht', _⟩ | ⟨hno, v, rfl, ho, hb⟩)
    · exact absurd ⟨g', hok', ht'⟩ hy
    · exact ⟨v, rfl, by simpa [insR] using ho, hb⟩

theorem own_grown_below' {w w' : World} {base n : Nat} {e : TypeId} {size : Nat} {v : Value} {xs : List Value} (h : w.ownsRow base e size v n xs) (hg : w.grownBy w' v.ownBlock) (hb : base ≤ w.heap.size) : Below base w w' :=
  (Below.refl base w).grown hg hb (fun k hk => (h.lt k hk).1)

namespace exactCodeRead
set_option maxHeartbeats 2000000 in
theorem walk (s : ByteArray) (w : World) (hsz : s.size ≤ maxLen) :
    Calls Try.prog 3 #[.string s] w fun e w' => e = .returned (.bool true) ∧ Below w.heap.size w w' := by
  unfold maxLen at hsz
  by_cases hn : s.size ≤ 1048576
  · obtain ⟨g, ok, hk, hread⟩ := codePost_one s.data.toList
    have HR := Lib.hid hread; clear hread
    have he : codeEq g g = true := codeEq_iff.2 rfl
    have ho : (ok != ok) = false := by simp
    have hm0 : ¬ (1 : Int) + ((g.length * 4 : Nat) : Int) < 0 := by omega
    have hne : ((1 : Int) + ((g.length * 4 : Nat) : Int) != 1 + ((g.length * 4 : Nat) : Int)) = false := by simp
    go_enter Try.func3, Try.ntmps3
    go_wp2_with fail
    refine (sCodeRead_any s _ hn).mono ?_; intro e w1 hp1
    obtain ⟨v1, rfl, o1, b1⟩ := HR.out _ _ _ _ hp1
    have s1 := SlA.of_own o1 (insR_len g) (insR_rows g)
    go_wp2_with fail
    refine (CodeRead_any s _ hn).mono ?_; intro e w3 hp3
    obtain ⟨v3, rfl, o3, b3⟩ := HR.out _ _ _ _ hp3
    have s3 := SlA.of_own o3 (insR_len g) (insR_rows g)
    go_wp2_with fail
    refine (eqInsS_any _ _ g g _ s3 (s1.below b3)).mono ?_; rintro e w5 ⟨rfl, b5⟩
    rw [he]
    have o5 := own_below o3 b5
    go_wp2_with fail
    refine (markInsS_own _ _ _ g.length 1 _ o5 (by omega) (by omega) (by omega)).mono ?_; rintro e w6 ⟨rfl, g6, o6⟩
    have b6 := own_grown_below' o5 g6 (by have := b3.size; have := b5.size; omega)
    have b16 := (below_then b3 b5).trans b6
    go_wp2_with fail
    refine (heldInsS_marks _ _ g.length 1 _ o6 (by omega) (by omega) (by omega)).mono ?_; rintro e w7 ⟨rfl, rfl⟩
    go_wp2_with fail
    refine (CodeRead_any s _ hn).mono ?_; intro e w8 hp8
    obtain ⟨v8, rfl, o8, b8⟩ := HR.out _ _ _ _ hp8
    have s8 := SlA.of_own o8 (insR_len g) (insR_rows g)
    go_wp2_with fail
    refine (eqInsS_any _ _ g g _ s8 (s1.below (below_then b16 b8))).mono ?_; rintro e w9 ⟨rfl, b9⟩
    rw [he]
    have o9 := own_below (own_below o6 b8) b9
    go_wp2_with fail
    refine (heldInsS_marks _ _ g.length 1 _ o9 (by omega) (by omega) (by omega)).mono ?_; rintro e w10 ⟨rfl, rfl⟩
    go_wp2
    all_goals
      go_ret
      exact ⟨rfl, below_then b1 (below_then b16 (below_then b8 b9))⟩
  · have hd : ¬ ((s.size : Int) ≤ 1048576) := by omega
    go_enter Try.func3, Try.ntmps3
    go_wp2
    all_goals
      go_ret
      exact ⟨rfl, Below.refl _ _⟩

set_option maxRecDepth 100000 in
theorem lifted (os : Os) (started : os.Started) (H : Type) (enc : TypeId × Value → H) :
    ReturnsInHanded {} Try.checked os 3 .any (Rows.fnExactCodeReadSpec.pre6 enc Try.prog Try.f3 Rows.fnExactCodeReadRow.domain false) (Rows.fnExactCodeReadSpec.post enc Try.prog Try.f3 false true false false) := by
  refine returnsInHanded_of_change (C := Try.checked) own started (by kernel_rfl) Try.func3
    (ChangeSpec.witness6 (enc := enc) (C := Try.checked) false ⟨#[], #[.string ⟨#[]⟩], []⟩ 8 (by kernel_rfl) (by kernel_rfl) (by kernel_rfl) (by kernel_rfl)) ?_
  intro W base args ds gs before hval hW _ _
  have hW' := hW
  obtain ⟨p, q, hA0, hV, rfl, hfz, hnd⟩ := hW
  have hA : DataW.TrodAll enc Try.prog W 0 (fun _ => true) true Try.f3.params.toList args.toList ds p := hA0
  rw [Try.params3] at hA
  obtain ⟨v0, vs0, d0, ds0, p0, q0, hargs, rfl, rfl, h0, r0⟩ := trodAll_cons hA
  obtain ⟨rfl, rfl, rfl⟩ := trodAll_nil r0
  obtain rfl : args = #[v0] := by cases args; simp_all
  obtain ⟨rfl, rfl⟩ := trodVars_none hV
  obtain ⟨fuel, hf⟩ := h0
  obtain ⟨s0, hs0⟩ := okWide_string Try.underlying9 (hval 0 9 v0 rfl rfl)
  subst hs0
  obtain ⟨s, hc, _, hsz⟩ := DataW.trod_string Try.underlying9 hf
  obtain rfl : s0 = s := by simpa [Value.cells] using hc
  exact (walk _ W hsz).mono fun e W' ⟨he, hb⟩ => ⟨_, he, law_post laidOut (by kernel_rfl) rfl rfl Try.underlying4 rfl hW' hb⟩

theorem proved : Rows.FnExactCodeReadSaid :=
  OpenClaim.holds_of_wide 3 Try.f3 rfl rfl rfl rfl rfl rfl rfl ⟨rfl, rfl, rfl, rfl, rfl⟩ rfl rfl rfl rfl rfl (by kernel_rfl) Try.func3 (by kernel_rfl)
    (of_decide_eq_true (by kernel_rfl)) (by unfold Func.isWrapper; first | (rw [if_pos (by decide +kernel)]; kernel_rfl) | (rw [if_neg (by decide +kernel)]; exact ⟨rfl, rfl⟩))
    (fun os started H enc _ => lifted os started H enc)
end exactCodeRead
end Go.Proofs.Ythjokfbcpmiehaa
