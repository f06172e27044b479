/- How impl lays the points of a graph: lay. -/
import Derived.Test.YtoibocaaeimplaaDoorBlkLay
import Derived.Deep.LoopGhost
namespace Go.Proofs.YtoibocaaeimplaaDoor
open Go.RowKit
set_option linter.unusedSimpArgs false
set_option linter.unusedVariables false

set_option maxRecDepth 100000 in
set_option maxHeartbeats 8000000 in
theorem lay_any (R n base : Nat) (g : List Pt) (hs ss : List Nat) (ys ns : List Bool) (w : World) (hR : Blk w R 53 (pRow hs)) (hB : Blks w base g hs ss ys ns) (hl : hs.length = n) (hgl : g.length = n) (hg : graphOk g) :
    Calls Tryd.prog 30 #[.slice (some ⟨R, 0, none⟩) n n] w fun e w' => ∃ (ss' : List Nat) (ys' ns' : List Bool), e = .returned (.tuple #[]) ∧ Blk w' R 53 (pRow hs) ∧ Blks w' base g hs ss' ys' ns' ∧ Starts g ys' ns' ss' ∧ LayRel g ys ns ys' ns' ∧ Below base w w' := by
  have hn120 : n ≤ 120 := by rw [← hgl]; exact hg.1.2
  have HR := Lib.hid hR; have HB := Lib.hid hB; have HL := Lib.hid hl; have HN := Lib.hid hgl; have HG := Lib.hid hg; clear hR hB hl hgl hg
  go_enter Tryd.func30, Tryd.ntmps30
  go_wp2
  go_step3
  go_wp2
  go_step3
  go_wp2
  go_loopg [] (nearN ys + nearN ns) (fun gk wr => ∃ (ss' : List Nat) (ys' ns' : List Bool), gk = nearN ys' + nearN ns' ∧ Blk wr R 53 (pRow hs) ∧ Blks wr base g hs ss' ys' ns' ∧ Hid (∀ a b, LayRel g ys' ns' a b → LayRel g ys ns a b) ∧ Below base w wr)
  case atStart => exact ⟨ss, ys, ns, rfl, HR.out, HB.out, Lib.hid (fun a b h => h), Below.refl _ _⟩
  case round =>
    obtain ⟨ss', ys', ns', hgk, hR, hB, HLR, hbw⟩ := hrel
    have hts : ∀ k, tailSum (szAt g ys' ns') n k ≤ 600 := fun k => Nat.le_trans (tailSum_le (szAt_le g ys' ns') n _ k rfl) (by omega)
    have HGK := Lib.hid hgk; have HTS := Lib.hid hts; have HRa := Lib.hid hR; have HBa := Lib.hid hB; clear hgk hts hR hB
    go_wp2
    go_loopg [2, 3] n (fun gk m i wx => ∃ (k : Nat) (z : Int) (ss2 : List Nat), k ≤ n ∧ z + 1 = k ∧ gk = k ∧ i = .int .i64 z ∧ m = .int .i64 (tailSum (szAt g ys' ns') n k : Nat) ∧ Blk wx R 53 (pRow hs) ∧ Blks wx base g hs ss2 ys' ns' ∧ Hid (∀ j, k ≤ j → j < n → ss2[j]? = some (stAt g ys' ns' j)) ∧ Below base w wx)
    case atStart => exact ⟨n, (n : Int) - 1, ss', Nat.le_refl _, by omega, rfl, by go_num, by rw [tailSum_end]; rfl, HRa.out, HBa.out, Lib.hid (fun j h1 h2 => absurd h1 (by omega)), hbw⟩
    case round =>
      obtain ⟨k, z, ss2, hk, hkz, hgk2, rfl, rfl, hR, hB, HST, hbw2⟩ := hrel
      clear hbw
      by_cases hge : 0 ≤ z
      · obtain ⟨m, rfl⟩ : ∃ m : Nat, z = m := ⟨z.toNat, by omega⟩
        obtain rfl : k = m + 1 := by omega
        have hmn : m < n := by omega
        have hmi : (m : Int) < n := by omega
        obtain ⟨p, hgp⟩ : ∃ p, g[m]? = some p := ⟨_, List.getElem?_eq_getElem (by rw [HN.out]; omega)⟩
        obtain ⟨x, hx⟩ : ∃ x, hs[m]? = some x := ⟨_, List.getElem?_eq_getElem (by rw [HL.out]; omega)⟩
        have d0 := pRow_cell hR hx
        have hRx : R ≠ x := blk_apart hR (hB.ptr hx hgp rfl rfl rfl) (by decide)
        have hRx' : x ≠ R := Ne.symm hRx
        have hlow := hB.low x (List.mem_of_getElem? hx)
        have f7 := (hB.ptr hx hgp rfl rfl rfl).frozen 7
        have e7 : ∃ v, wr.cell? ⟨x, 7, none⟩ = some v := (hB.ptr hx hgp rfl rfl rfl).some_ (by simp [bkCells])
        obtain ⟨v7, e7⟩ := e7
        have hB2 := hB.set_start hx (tailSum (szAt g ys' ns') n (m + 1))
        have hR2 := hR.far (p := ⟨x, 7, none⟩) hRx (.int .i64 ((tailSum (szAt g ys' ns') n (m + 1) : Nat) : Int))
        have hb2 := hbw2.setCell (p := ⟨x, 7, none⟩) hlow (.int .i64 ((tailSum (szAt g ys' ns') n (m + 1) : Nat) : Int))
        have h600 := HTS.out (m + 1)
        have hsl : m < ss2.length := by rw [hB.sl, HL.out]; exact hmn
        have HE := Lib.hid (end_any x p (tailSum (szAt g ys' ns') n (m + 1)) (wayV hs p p.yes) (wayV hs p p.no) (ys'.getD m false) (ns'.getD m false) _ (hB2.ptr hx hgp (getD_set_self hsl) rfl rfl) (by omega))
        have hz5 := szAt_le g ys' ns' m
        have HS := Lib.hid (tailSum_step (f := szAt g ys' ns') hmn); have HZ := Lib.hid (szP_at (ys := ys') (ns := ns') hgp)
        have hz6 : szP p (ys'.getD m false) (ns'.getD m false) ≤ 5 := by rw [← HZ.out]; exact hz5
        have HB2 := Lib.hid hB2; have HR2 := Lib.hid hR2; have HSL := Lib.hid hsl
        clear hB hR hB2 hR2 hgp hx hsl
        go_wp2_with (go_at_call 52; refine HE.out.mono ?_; rintro e w' ⟨rfl, rfl⟩)
        go_roundg m
        case measure => omega
        case rel =>
          refine ⟨m, (m : Int) - 1, ss2.set m (tailSum (szAt g ys' ns') n (m + 1)), by omega, by omega, rfl, by go_num, ?_, HR2.out, HB2.out, Lib.hid (fun j h1 h2 => ?_), hb2⟩
          · rw [HS.out, HZ.out]; go_num
          · by_cases e : m = j
            · subst e
              rw [List.getElem?_set_self HSL.out]
              unfold stAt
              rw [HN.out]
            · rw [List.getElem?_set_ne e]
              exact HST.out j (by omega) h2
      · obtain rfl : k = 0 := by omega
        have hst' : Starts g ys' ns' ss2 := fun j hj => HST.out j (Nat.zero_le _) (by rw [← HN.out]; exact hj)
        have HSP := Lib.hid (spread_any R n base g hs ss2 ys' ns' _ hR hB HL.out HN.out HG.out hst')
        have HST2 := Lib.hid hst'
        have HBx := Lib.hid hB
        clear hR hB HST hst'
        go_wp2_with fail
        refine HSP.out.mono ?_; rintro e w2 ⟨ch, rfl, hR2, hB2, hch, hb2⟩
        have hb3 := hbw2.trans hb2
        cases ch
        case' false =>
          obtain ⟨e1, e2⟩ := hch.1 rfl
          rw [e1, e2] at hB2
          have HR2 := Lib.hid hR2; have HB2 := Lib.hid hB2; have HD := Lib.hid (HLR.out _ _ (.done ⟨e1, e2⟩))
          clear hch e1 e2 hR2 hB2
          go_wp2
          first | rw [Exit.noGoto_normal] | (show bodyPost _ _ _ _ _ _ _) | (unfold Exit.noGoto; simp only [])
          go_end0
          exact ⟨ss2, ys', ns', rfl, HR2.out, HB2.out, HST2.out, HD.out, hb3⟩
        case' true =>
          have hne : ¬ (nextY g ys' ns' = ys' ∧ nextN g ys' ns' = ns') := fun e => by have := hch.2 e; cases this
          have HNE := Lib.hid hne; have HR2 := Lib.hid hR2; have HB2 := Lib.hid hB2
          clear hch hne hR2 hB2
          go_wp2
          go_roundg (nearN (nextY g ys' ns') + nearN (nextN g ys' ns'))
          case measure =>
            rw [HGK.out]
            have h1 := stepF_near (farY g ys' ns') ys' g.length
            have h2 := stepF_near (farN g ys' ns') ns' g.length
            unfold nextY nextN
            rcases Decidable.em (stepF (farY g ys' ns') ys' g.length = ys') with e1 | e1
            · have := h2.2 (fun e2 => HNE.out ⟨e1, e2⟩)
              omega
            · have := h1.2 e1
              omega
          case rel => exact ⟨ss2, _, _, rfl, HR2.out, HB2.out, Lib.hid (fun a b h => HLR.out a b (.more HNE.out h)), hb3⟩
end Go.Proofs.YtoibocaaeimplaaDoor
