/- impl.MakeOf: the program of a graph. -/
import Derived.Test.YtoibocaaeimplaaDoorBlkLay2
import Derived.Test.YtoibocaaeimplaaDoorBlkWrite
import Derived.Test.YtoibocaaeimplaaDoorCodeWI
namespace Go.Proofs.YtoibocaaeimplaaDoor
open Go.RowKit
set_option linter.unusedSimpArgs false
set_option linter.unusedVariables false

theorem codeTo_len' {g : List Pt} {ys ns : List Bool} {m n : Nat} (hn : n ≤ 120) (hm : m ≤ n) : (codeTo g ys ns m).length ≤ 1000 := by
  have := codeTo_len g ys ns m; omega

set_option maxRecDepth 100000 in
set_option maxHeartbeats 4000000 in
theorem MakeOf_any (v : Value) (g : List Pt) (w : World) (hs : Sl w 7 v (g.map Pt.cells)) (hp : Pow w) :
    Calls Tryd.prog 9 #[v] w fun e w' => ∃ (v' : Value) (x : List In4) (ok : Bool), e = .returned (.tuple #[v', .bool ok]) ∧ MakeIs g x ok ∧ w'.ownsRow w.heap.size 39 4 v' x.length (insR x).flatten ∧ Below w.heap.size w w' := by
  have HS := Lib.hid hs
  obtain ⟨A, n, c, rfl, hA⟩ := hs
  have hl : g.length = n := by have := hA.len; simpa using this
  have HA := Lib.hid hA; have HN := Lib.hid hl; clear hA hl
  cases hg : graphOkB g with
  | false =>
    have HG := Lib.hid (show ¬ graphOk g from fun h => by rw [graphOkB_iff.2 h] at hg; cases hg); have HG2 := Lib.hid hg; clear hg
    go_enter Tryd.func9, Tryd.ntmps9
    go_wp2_with fail
    refine (GraphOk_any _ g _ HS.out).mono ?_; rintro e w1 ⟨rfl, hb1⟩
    rw [HG2.out]
    go_wp2
    go_ret2
    exact ⟨_, [], false, rfl, .inl ⟨HG.out, rfl, rfl⟩, World.ownsRow_nil _ _ _ _, hb1⟩
  | true =>
    have hgo := graphOkB_iff.1 hg
    have hn120 : n ≤ 120 := by rw [← HN.out]; exact hgo.1.2
    have HG := Lib.hid hgo; have HG2 := Lib.hid hg; clear hg hgo
    go_enter Tryd.func9, Tryd.ntmps9
    go_wp2_with fail
    refine (GraphOk_any _ g _ HS.out).mono ?_; rintro e w1 ⟨rfl, hb1⟩
    rw [HG2.out]
    have hz1 := hb1.size
    go_wp2_with fail
    refine (blocksOf_any A n c g _ (HA.out.below hb1) HG.out).mono ?_; rintro e w2 ⟨hs, rfl, hsl, hR, hB, hb2⟩
    have hb12 := below_then hb1 hb2
    have HSL := Lib.hid hsl
    have HR := Lib.hid hR; have HB := Lib.hid hB; clear hR hB hsl
    go_wp2_with fail
    refine (lay_any _ n _ g hs _ _ _ _ HR.out HB.out HSL.out HN.out HG.out).mono ?_; rintro e w3 ⟨ss, ys, ns, rfl, hR3, hB3, hst, hlr, hb3⟩
    have hb13 := hb12.trans (hb3.mono (by omega))
    have hz3 := hb13.size
    have hlow : ∀ h ∈ hs, h < w3.heap.size := hB3.lt (by rw [HSL.out, HN.out]; exact Nat.le_refl _)
    have HR3 := Lib.hid hR3; have HB3 := Lib.hid hB3; have HST := Lib.hid hst; have HLR := Lib.hid hlr; have HLOW := Lib.hid hlow
    have hRlt := hR3.lt
    clear hR3 hB3 hst hlr hlow HR HB
    go_wp2
    go_loopw [5, 6] (fun o i wr => ∃ (m : Nat) (z : Int), m ≤ n ∧ z + 1 + m = n ∧ i = .int .i64 z ∧ wr.ownsRow w3.heap.size 39 4 o (codeTo g ys ns m).length (insR (codeTo g ys ns m)).flatten ∧ Below w3.heap.size w3 wr) (fun _ i _ => (intOf i + 1).toNat)
    case atStart => exact ⟨0, (n : Int) - 1, Nat.zero_le _, by omega, by go_num, World.ownsRow_nil _ _ _ _, Below.refl _ _⟩
    case round =>
      obtain ⟨m, z, hm', hzm, rfl, hown, hbr⟩ := hrel
      have hrz := hbr.size
      by_cases hge : 0 ≤ z
      · obtain ⟨k, rfl⟩ : ∃ k : Nat, z = k := ⟨z.toNat, by omega⟩
        have hk : k < n := by omega
        have hki : (k : Int) < n := by omega
        have hkg : g.length - 1 - m = k := by rw [HN.out]; omega
        obtain ⟨x, hx⟩ : ∃ x, hs[k]? = some x := ⟨_, List.getElem?_eq_getElem (by rw [HSL.out]; omega)⟩
        have d0 := pRow_cell (HR3.out.below hbr hRlt) hx
        have HW := Lib.hid (write_any x k n _ w3.heap.size g hs ss ys ns _ (codeTo g ys ns m) _ (HB3.out.next (by rw [HSL.out, HN.out]; exact Nat.le_refl _) hbr) hx HSL.out HN.out HG.out HST.out HLOW.out hrz hown (codeTo_len' hn120 hm'))
        have HCT := Lib.hid (show codeTo g ys ns (m + 1) = codeTo g ys ns m ++ ptCode g ys ns k by rw [← hkg]; rfl)
        clear hown hx
        go_wp2_with fail
        refine HW.out.mono ?_; rintro e w4 ⟨v4, rfl, ho4, hb4⟩
        have HO4 := Lib.hid ho4; clear ho4
        go_wp2
        refine ⟨⟨m + 1, (k : Int) - 1, by omega, by omega, by go_num, by rw [HCT.out]; exact HO4.out, hbr.trans hb4⟩, by simp [intOf]⟩
      · obtain rfl : m = n := by omega
        have hmade : MadeOf g (codeTo g ys ns m) := ⟨ys, ns, by rw [HN.out]; exact HLR.out, by rw [HN.out]⟩
        have hx160 : (codeTo g ys ns m).length ≤ 1000 := codeTo_len' hn120 (Nat.le_refl _)
        have hbw := hb13.trans (hbr.mono hz3)
        have hzw := hbw.size
        have HSx := Lib.hid (SlA.of_own hown (insR_len _) (insR_rows _)); have HO := Lib.hid (own_base hown hz3); have HM := Lib.hid hmade
        clear hown hmade
        generalize codeTo g ys ns m = X at *
        cases hc : codeOkB X with
        | false =>
          have HC := Lib.hid (show ¬ codeOk X from fun h => by rw [codeOkB_iff.2 h] at hc; cases hc); have HC2 := Lib.hid hc; clear hc
          go_wp2_with fail
          refine (CodeOk_any _ X _ HSx.out (hp.below hbw)).mono ?_; rintro e w5 ⟨rfl, hb5⟩
          rw [HC2.out]
          go_wp2
          go_ret2
          exact ⟨_, [], false, rfl, .inr ⟨HG.out, X, HM.out, .inr ⟨HC.out, rfl, rfl⟩⟩, World.ownsRow_nil _ _ _ _, below_then hbw hb5⟩
        | true =>
          have HC := Lib.hid (codeOkB_iff.1 hc); have HC2 := Lib.hid hc; clear hc
          go_wp2_with fail
          refine (CodeOk_any _ X _ HSx.out (hp.below hbw)).mono ?_; rintro e w5 ⟨rfl, hb5⟩
          rw [HC2.out]
          have HO5 := Lib.hid (own_below HO.out hb5)
          have hbe := below_then hbw hb5
          clear hb5
          go_wp2
          go_ret2
          exact ⟨_, X, true, rfl, .inr ⟨HG.out, X, HM.out, .inl ⟨HC.out, rfl, rfl⟩⟩, HO5.out, hbe⟩
end Go.Proofs.YtoibocaaeimplaaDoor
