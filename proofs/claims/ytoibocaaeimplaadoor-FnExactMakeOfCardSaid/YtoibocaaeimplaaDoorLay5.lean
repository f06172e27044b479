/- How a program is made: MakeOf, MakeCode. -/
import Derived.Test.YtoibocaaeimplaaDoorLay4
import Derived.Test.YtoibocaaeimplaaDoorGraphMk
import Derived.Test.YtoibocaaeimplaaDoorCodeS2
namespace Go.Proofs.YtoibocaaeimplaaDoor
open Go.RowKit
set_option linter.unusedSimpArgs false
set_option linter.unusedVariables false

theorem MakeIs.len {g : List Pt} {x : List In4} {ok : Bool} (h : MakeIs g x ok) : x.length ≤ 600 := by
  rcases h with ⟨_, rfl, _⟩ | ⟨hg, y, hy, ⟨_, rfl, _⟩ | ⟨_, rfl, _⟩⟩
  · simp
  · have := hy.len
    have := hg.1.2
    omega
  · simp

set_option maxHeartbeats 2000000 in
theorem sMakeOf_any (v : Value) (g : List Pt) (w : World) (hs : Sl w 7 v (g.map Pt.cells)) :
    Calls Tryd.prog 7 #[v] w fun e w' => ∃ (v' : Value) (x : List In4) (ok : Bool), e = .returned (.tuple #[v', .bool ok]) ∧ MakeIs g x ok ∧ w'.ownsRow w.heap.size 39 4 v' x.length (insR x).flatten ∧ Below w.heap.size w w' := by
  have HS := Lib.hid hs
  obtain ⟨A, n, c, rfl, hA⟩ := hs
  have HA := Lib.hid hA; clear hA
  cases hg : graphOkB g with
  | false =>
    have HG := Lib.hid (show ¬ graphOk g from fun h => by rw [graphOkB_iff.2 h] at hg; cases hg); have HG2 := Lib.hid hg; clear hg
    go_enter Tryd.func7, Tryd.ntmps7
    go_wp2_with fail
    refine (sGraphOk_any _ g _ HS.out).mono ?_; rintro e w1 ⟨rfl, hb1⟩
    rw [HG2.out]
    have hz1 := hb1.size
    go_wp2
    go_ret2
    exact ⟨_, [], false, rfl, .inl ⟨HG.out, rfl, rfl⟩, World.ownsRow_lit (base := w.heap.size) (e := 39) (size := 4) w1 #[] 0 hz1 (by unfold maxLen; omega) rfl, hb1.alloc hz1 _⟩
  | true =>
    have HG := Lib.hid (graphOkB_iff.1 hg); have HG2 := Lib.hid hg; clear hg
    go_enter Tryd.func7, Tryd.ntmps7
    go_wp2_with fail
    refine (sGraphOk_any _ g _ HS.out).mono ?_; rintro e w1 ⟨rfl, hb1⟩
    rw [HG2.out]
    have hz1 := hb1.size
    go_wp2_with fail
    refine (l5Make_any A n c g _ (HA.out.below hb1) HG.out).mono ?_; rintro e w2 ⟨v2, x, rfl, hx, ho2, hb2⟩
    have hb12 := below_then hb1 hb2
    have ho3 := own_base ho2 hz1
    have hsl := SlA.of_own ho2 (insR_len x) (insR_rows x)
    have hz2 := hb12.size
    cases hc : codeOkB x with
    | false =>
      have HC := Lib.hid (show ¬ codeOk x from fun h => by rw [codeOkB_iff.2 h] at hc; cases hc); have HC2 := Lib.hid hc; clear hc
      have HX := Lib.hid hx; clear hx ho2 ho3
      go_wp2_with fail
      refine (sCodeOk_any _ x _ hsl).mono ?_; rintro e w3 ⟨rfl, hb3⟩
      rw [HC2.out]
      have hb13 := below_then hb12 hb3
      have hz3 := hb13.size
      go_wp2
      go_ret2
      exact ⟨_, [], false, rfl, .inr ⟨HG.out, x, HX.out, .inr ⟨HC.out, rfl, rfl⟩⟩, World.ownsRow_lit (base := w.heap.size) (e := 39) (size := 4) w3 #[] 0 hz3 (by unfold maxLen; omega) rfl, hb13.alloc hz3 _⟩
    | true =>
      have HC := Lib.hid (codeOkB_iff.1 hc); have HC2 := Lib.hid hc; clear hc
      have HX := Lib.hid hx; have HO := Lib.hid ho3; clear hx ho2 ho3
      go_wp2_with fail
      refine (sCodeOk_any _ x _ hsl).mono ?_; rintro e w3 ⟨rfl, hb3⟩
      rw [HC2.out]
      have hb13 := below_then hb12 hb3
      have hO4 := own_below HO.out hb3
      clear hb3
      have HO4 := Lib.hid hO4; clear hO4
      go_wp2
      go_ret2
      exact ⟨_, x, true, rfl, .inr ⟨HG.out, x, HX.out, .inl ⟨HC.out, rfl, rfl⟩⟩, HO4.out, hb13⟩

set_option maxHeartbeats 2000000 in
theorem sMakeCode_any (p : Pol) (v : Value) (w : World) (hP : PolIs w p v) :
    Calls Tryd.prog 55 #[v] w fun e w' => ∃ (v' : Value) (x : List In4) (ok : Bool), e = .returned (.tuple #[v', .bool ok]) ∧ x.length ≤ 600 ∧ w'.ownsRow w.heap.size 39 4 v' x.length (insR x).flatten ∧ Below w.heap.size w w' := by
  have HP := Lib.hid hP
  obtain ⟨rv, css, rfl, ⟨A, n, c, rfl, hSA⟩, hR⟩ := hP
  have hb0 : Below w.heap.size w (w.alloc (.cells #[.slice A n c, .int .i64 p.els] 91)) := by go_grown
  have hz0 := hb0.size
  clear hSA hR
  go_enter Tryd.func55, Tryd.ntmps55
  go_wp2_with fail
  refine (GraphMake_any p _ _ (HP.out.below hb0)).mono ?_; rintro e w1 ⟨v1, g1, rfl, hs1, -, hl1, hb1⟩
  have hb01 := below_then hb0 hb1
  have hz1 := hb01.size
  go_wp2_with fail
  refine (sMakeOf_any v1 g1 _ hs1).mono ?_; rintro e w2 ⟨v2, x, ok, rfl, hx, ho, hb2⟩
  have HX := Lib.hid hx.len; have HO := Lib.hid (own_base ho hz1); have hb12 := below_then hb01 hb2
  clear hx ho
  go_wp2
  go_ret2
  exact ⟨_, x, ok, rfl, HX.out, HO.out, hb12⟩
end Go.Proofs.YtoibocaaeimplaaDoor
