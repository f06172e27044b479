/- spec's draws: a policy that is spoilt. -/
import Derived.Test.YtgdelnpielfhkaaGreatDoorSpoilA
import Derived.Deep.RegionWith
import Derived.Deep.LoopGhost
namespace Go.Proofs.YtgdelnpielfhkaaGreatDoor
open Go.RowKit
set_option linter.unusedSimpArgs false
set_option linter.unusedVariables false
set_option maxRecDepth 100000 in
set_option maxHeartbeats 16000000 in
theorem l11SpoilPolicy_any (g p B : Nat) (po : Pol) (v : Value) (w : World) (h : Rd w g p) (hp : p ≤ 700000000) (hv : PolOwn w B po v) (hr : po.rules.length ≤ 8) (ht : ∀ r ∈ po.rules, r.tests.length ≤ 8) :
    Calls Tryz.prog 61 #[.pointer (some ⟨g, 0, none⟩), v] w (SpoilPost w g p) := by
  obtain ⟨rs, els⟩ := po
  obtain ⟨rv, css, rfl, ho, hru⟩ := id hv
  simp only at hr ht hru
  obtain ⟨A, n, c, rfl, hSA⟩ := SlA.of_own ho rfl hru.are.rows
  obtain ⟨X, hX⟩ : ∃ X, X = (w.alloc (.cells #[.slice A n c, .int .i64 els] 25)).alloc (.cells #[.slice none 0 0, .int .i64 0] 25) := ⟨_, rfl⟩
  have hbX : Below w.heap.size w X := by rw [hX]; go_grown
  have hzX : X.heap.size = w.heap.size + 1 + 1 := by rw [hX]; simp
  have R1 : Blk X (w.heap.size + 1) 25 #[.slice none 0 0, .int .i64 0] := by
    rw [hX]
    have := Blk.new (w.alloc (.cells #[.slice A n c, .int .i64 els] 25)) 25 #[.slice none 0 0, .int .i64 0]
    simpa using this
  have hc0 : X.cell? ⟨w.heap.size, 0, none⟩ = some (.slice A n c) := by rw [hX]; simp [go_sem]
  have hc1 : X.cell? ⟨w.heap.size, 1, none⟩ = some (.int .i64 els) := by rw [hX]; simp [go_sem]
  have DX : Dq w X g p := (Dq.start h).next hbX
  have hvX := hv.below hbX
  have HX := Lib.hid hX; have HZ := Lib.hid hzX; have HR1 := Lib.hid R1; have HDX := Lib.hid DX; have HV := Lib.hid hvX; have HT := Lib.hid ht; have HR := Lib.hid hr
  clear hX hbX hzX R1 DX hvX hv ho hru hSA h ht hr
  go_enter Tryz.func61, Tryz.ntmps61
  go_wp2_with fail
  rw [← HX.out]
  refine (l2Copy_any ⟨rs, els⟩ _ B X HV.out (Nat.le_trans HR.out (by omega)) (fun r hr => Nat.le_trans (HT.out r hr) (by omega))).mono ?_; rintro e w1 ⟨rv1, cs1, rfl, ho1, hr1, hap1, hb1⟩
  have hl1 : cs1.length = rs.length := hr1.1
  obtain ⟨A1, n1, c1, rfl, hS1⟩ := SlA.of_own ho1 rfl hr1.are.rows
  have hn1 : cs1.length = n1 := hS1.len
  have hn8 : n1 ≤ 8 := by have := HR.out; omega
  have hcc := hS1.cap
  have hmm := hS1.max
  unfold maxLen at hmm
  have hzx := HZ.out
  have hz1 : w.heap.size + 1 < w1.heap.size := by have := hb1.size; omega
  have ho1' := ho1
  rw [hn1] at ho1'
  have DS : Ds w (w1.alloc (.cells #[.slice A1 n1 c1, .int .i64 els] 25)) g p w1.heap.size els (.slice A1 n1 c1) n1 rs cs1 :=
    ⟨(HDX.out.next hb1).next (by go_grown), (HR1.out.below hb1 (by omega)).alloc _, Blk.new w1 _ _, hz1, own_base (own_below ho1' (by go_grown)) (by omega), hr1.imp fun tv m xs h => own_base (own_below h (by go_grown)) (by omega), hn1⟩
  have HDS := Lib.hid DS; have HAP := Lib.hid hap1; have HN1 := Lib.hid hn1; have HL1 := Lib.hid hl1
  clear DS ho1' ho1 hr1 hap1 hb1 hzx hS1 hn1 hl1 hc0 hc1
  by_cases hn0 : n1 = 0
  case' pos =>
    subst hn0
    have y0 := (show _ = some (Value.slice A1 0 c1) from HDS.out.x0.cell 0)
    obtain ⟨WX, hWX⟩ : ∃ WX, WX = w1.alloc (.cells #[.slice A1 0 c1, .int .i64 els] 25) := ⟨_, rfl⟩
    rw [← hWX] at y0 HDS
    have y0 := (show _ = some (Value.slice A1 0 c1) from HDS.out.x0.cell 0)
    have hlx : w1.heap.size < WX.heap.size := HDS.out.x0.lt
    have DT := Lib.hid (none_small HR.out HT.out)
    go_wp2_with fail
    rw [← hWX]
    have HZW := Lib.hid (show WX.heap.size = w1.heap.size + 1 by rw [hWX]; simp)
    clear hWX
    have D9 := Lib.hid (HDS.out.next (show Below WX.heap.size WX (WX.alloc (.cells #[.int .i64 0, .int .i64 5] 3)) by go_grown))
    have B9 := Blk.new WX 3 #[.int .i64 0, .int .i64 5]
    refine (pick_any g (p) 2 _ D9.out.dq.rd (by omega)).mono ?_; rintro e w5 ⟨j', rfl, a5, b5, g5, r5⟩
    have b5' := b5 (by omega)
    obtain ⟨j, rfl⟩ : ∃ j : Nat, j' = j := ⟨j'.toNat, by omega⟩
    have D5 := D9.out.step g5 r5
    have B5 := B9.grown g5 (by have := HDS.out.dq.lt; have := HDS.out.dq.size; intro e; cases e; omega)
    obtain ⟨m, hm⟩ : ∃ m : Int, w5.cell? ⟨WX.heap.size, j, none⟩ = some (.int .i64 m) := (by rw [B5.cell j]; obtain rfl | rfl : j = 0 ∨ j = 1 := (by omega); all_goals exact ⟨_, rfl⟩)
    rw [HZW.out] at hm
    have hj5 : (j : Int) < 2 := by omega
    have fx := D5.x0.frozen 1
    have qx := (show _ = some (Value.int .i64 els) from D5.x0.cell 1)
    have hlr5 : w.heap.size + 1 < w5.heap.size := D5.r0.lt
    have DF := Lib.hid (D5.els_ m)
    clear g5 r5 b5 D5 B5 B9 D9 y0
    have f0 := DF.out.r0.frozen 0; have f1 := DF.out.r0.frozen 1
    have z0 := (show _ = some (Value.slice none 0 0) from DF.out.r0.cell 0); have z1 := (show _ = some (Value.int .i64 0) from DF.out.r0.cell 1)
    have xF0 := (show _ = some (Value.slice A1 0 c1) from DF.out.x0.cell 0); have xF1 := (show _ = some (Value.int .i64 m) from DF.out.x0.cell 1)
    have haf := DF.out.after
    have hlx := DF.out.x0.lt
    have hl1 : w.heap.size + 1 < _ := DF.out.r0.lt
    go_wp2
    refine bodyPost_ret (v := .agg #[.slice A1 0 c1, .int .i64 m]) (by simp [results, Tryz.results61, go_sem, z0, z1, hlr5, Nat.ne_of_lt hlr5]) rfl (SpoilPost.mk (po' := ⟨_, m⟩) (q := p + 1) ?_ ?_ ?_ (by omega) (DT.out))
    · first | exact DF.out.done.1 | exact DF.out.done.1.below (by go_grown)
    · first | exact DF.out.done.2.1 | exact DF.out.done.2.1.trans (World.grownBy_alloc _ _ _) | exact DF.out.done.2.1.trans (grown_of_below (by go_grown) _)
    · first | exact DF.out.done.2.2 | exact DF.out.done.2.2.next (by go_grown)
  case' neg =>
    have y0 := (show _ = some (Value.slice A1 n1 c1) from HDS.out.x0.cell 0)
    have hnd : ((n1 : Int) == 0) = false := by simp; omega
    go_wp2_with fail
    refine (pick_any g p 6 _ HDS.out.dq.rd (by omega)).mono ?_; rintro e w2 ⟨k2, rfl, a2, b2, g2, r2⟩
    have HD2 := Lib.hid (HDS.out.step g2 r2)
    clear g2 r2 b2 HDS y0
    by_cases hk2 : k2 = 0
    case' pos =>
      subst hk2
      have y0 := (show _ = some (Value.slice A1 n1 c1) from HD2.out.x0.cell 0)
      have hlx : w1.heap.size < w2.heap.size := HD2.out.x0.lt
      have DT := Lib.hid (none_small HR.out HT.out)
      go_wp2_with fail
      have D9 := Lib.hid (HD2.out.next (show Below w2.heap.size w2 (w2.alloc (.cells #[.int .i64 0, .int .i64 5] 3)) by go_grown))
      have B9 := Blk.new w2 3 #[.int .i64 0, .int .i64 5]
      refine (pick_any g (p + 1) 2 _ D9.out.dq.rd (by omega)).mono ?_; rintro e w5 ⟨j', rfl, a5, b5, g5, r5⟩
      have b5' := b5 (by omega)
      obtain ⟨j, rfl⟩ : ∃ j : Nat, j' = j := ⟨j'.toNat, by omega⟩
      have D5 := D9.out.step g5 r5
      have B5 := B9.grown g5 (by have := HD2.out.dq.lt; have := HD2.out.dq.size; intro e; cases e; omega)
      obtain ⟨m, hm⟩ : ∃ m : Int, w5.cell? ⟨w2.heap.size, j, none⟩ = some (.int .i64 m) := (by rw [B5.cell j]; obtain rfl | rfl : j = 0 ∨ j = 1 := (by omega); all_goals exact ⟨_, rfl⟩)
      have hj5 : (j : Int) < 2 := by omega
      have fx := D5.x0.frozen 1
      have qx := (show _ = some (Value.int .i64 els) from D5.x0.cell 1)
      have hlr5 : w.heap.size + 1 < w5.heap.size := D5.r0.lt
      have DF := Lib.hid (D5.els_ m)
      clear g5 r5 b5 D5 B5 B9 D9 y0
      have f0 := DF.out.r0.frozen 0; have f1 := DF.out.r0.frozen 1
      have z0 := (show _ = some (Value.slice none 0 0) from DF.out.r0.cell 0); have z1 := (show _ = some (Value.int .i64 0) from DF.out.r0.cell 1)
      have xF0 := (show _ = some (Value.slice A1 n1 c1) from DF.out.x0.cell 0); have xF1 := (show _ = some (Value.int .i64 m) from DF.out.x0.cell 1)
      have haf := DF.out.after
      have hlx := DF.out.x0.lt
      have hl1 : w.heap.size + 1 < _ := DF.out.r0.lt
      go_wp2
      refine bodyPost_ret (v := .agg #[.slice A1 n1 c1, .int .i64 m]) (by simp [results, Tryz.results61, go_sem, z0, z1, hlr5, Nat.ne_of_lt hlr5]) rfl (SpoilPost.mk (po' := ⟨_, m⟩) (q := p + 1 + 1) ?_ ?_ ?_ (by omega) (DT.out))
      · first | exact DF.out.done.1 | exact DF.out.done.1.below (by go_grown)
      · first | exact DF.out.done.2.1 | exact DF.out.done.2.1.trans (World.grownBy_alloc _ _ _) | exact DF.out.done.2.1.trans (grown_of_below (by go_grown) _)
      · first | exact DF.out.done.2.2 | exact DF.out.done.2.2.next (by go_grown)
    case' neg =>
      have hkd : (k2 == 0) = false := by simp; omega
      have y0 := (show _ = some (Value.slice A1 n1 c1) from HD2.out.x0.cell 0)
      go_wp2_with fail
      refine (pick_any g (p + 1) n1 _ HD2.out.dq.rd (by omega)).mono ?_; rintro e w3 ⟨k3, rfl, a3, b3, g3, r3⟩
      have b3' := b3 (by omega)
      obtain ⟨k, rfl⟩ : ∃ k : Nat, k3 = k := ⟨k3.toNat, by omega⟩
      have hkn : k < n1 := by omega
      have HD3 := Lib.hid (HD2.out.step g3 r3)
      clear g3 r3 b3 HD2 y0
      go_wp2_with fail
      refine (pick_any g (p + 2) 5 _ HD3.out.dq.rd (by omega)).mono ?_; rintro e w4 ⟨c4, rfl, a4, b4, g4, r4⟩
      have b4' := b4 (by omega)
      have HD4 := Lib.hid (HD3.out.step g4 r4)
      clear g4 r4 b4 HD3
      obtain ⟨r, hr⟩ : ∃ r, rs[k]? = some r := ⟨_, List.getElem?_eq_getElem (by rw [← HL1.out, HN1.out]; exact hkn)⟩
      have hcs : cs1[k]? = some (cs1[k]'(by rw [HN1.out]; exact hkn)) := List.getElem?_eq_getElem _
      obtain ⟨tv, e, hot⟩ := HD4.out.rules.2 k r _ hr hcs
      rw [e] at hcs
      have hS4 := SlA.of_own HD4.out.own HN1.out HD4.out.rules.are.rows
      obtain ⟨A9, n9, c9, e9, hS4⟩ := hS4
      cases e9
      obtain ⟨b, e5, hb0⟩ : ∃ b, A1 = some ⟨b, 0, none⟩ ∧ w.heap.size ≤ b := by
        rcases HD4.out.own.2 with ⟨e6, e7⟩ | ⟨b, cap, cur, e6, e7, _⟩
        · exact absurd e7 hn0
        · cases e6; exact ⟨b, rfl, e7⟩
      subst e5
      have hbx : b ≠ w1.heap.size := fun e => own_blk_ne HD4.out.own HD4.out.x0 (by decide) (congrArg some e)
      have hbr : b ≠ w.heap.size + 1 := fun e => own_blk_ne HD4.out.own HD4.out.r0 (by decide) (congrArg some e)
      have hki : (k : Int) < (n1 : Int) := by omega
      have hcc0 := Lib.hid hcs
      clear hS4 hcs e
      by_cases hc0 : c4 = 0
      case' pos =>
        subst hc0
        have HRK := Lib.hid hr
        have DT := Lib.hid (fun m : Int => set_small (k := k) (r := ⟨m, r.low, r.high, r.tests⟩) HR.out HT.out (by have := HT.out r (List.mem_of_getElem? hr); show r.tests.length ≤ 11; omega))
        have y0 := (show _ = some (Value.slice (some ⟨b, 0, none⟩) n1 c1) from HD4.out.x0.cell 0)
        have hglt := HD4.out.dq.lt
        go_wp2
        clear y0
        refine wp_region_rel (putT w1.heap.size b n1 c1 k 0 g #[.int .i64 0, .int .i64 5]) (fun _ => none) (fun L _ w' => (putI w g p w1.heap.size b n1 c1 k 0 els rs cs1 (fun m => ⟨m, r.low, r.high, r.tests⟩) (fun m => [.int .i64 m, .int .i64 r.low, .int .i64 r.high, tv])) L w') (fun _ w w' => KeepsBut b g w w') (by kernel_rfl) (by kernel_rfl) ⟨p + 3, by omega, fun _ => rfl, fun _ => HD4.out.next (show Below w4.heap.size w4 w4.drew by go_grown), fun e => (Bool.false_ne_true e).elim⟩ (fun _ j _ _ _ _ _ _ hR hT => putT_keep j hR hT) ?_
        refine wpRel_step [] (by kernel_rfl) (fun LL kk w9 vals hk hw hun hcl hdl hT => ?_) ?_
        · have HW := Lib.hid hw
          clear hw hun hcl hdl hT
          simp only [fillR, Act.put, List.setIfInBounds_toArray, List.set_cons_succ, List.set_cons_zero]
          go_wp2
          exact ⟨_, rfl, rfl, HW.out.pure (by decide) (by decide), KeepsBut.refl _ _ _, fun _ => rfl⟩
        refine wpRel_step [48] (by kernel_rfl) (fun LL kk w9 vals hk hw hun hcl hdl hT => ?_) ?_
        · have t0 := hT 0 48 (by kernel_rfl) (.inl rfl)
          have HW := Lib.hid hw
          clear hw hun hcl hdl hT
          simp only [fillR, Act.put, List.setIfInBounds_toArray, List.set_cons_succ, List.set_cons_zero]
          rw [show vals 48 = Value.pointer (some ⟨w1.heap.size, 0, none⟩) from t0]
          clear t0
          have y0 := (show _ = some (Value.slice (some ⟨b, 0, none⟩) n1 c1) from HW.out.box.cell 0)
          go_wp2
          exact ⟨_, rfl, rfl, HW.out.pure (by decide) (by decide), KeepsBut.refl _ _ _, fun _ => rfl⟩
        refine wpRel_step [] (by kernel_rfl) (fun LL kk w9 vals hk hw hun hcl hdl hT => ?_) ?_
        · have HW := Lib.hid hw
          clear hw hun hcl hdl hT
          simp only [fillR, Act.put, List.setIfInBounds_toArray, List.set_cons_succ, List.set_cons_zero]
          go_wp2
          exact ⟨_, rfl, rfl, HW.out.pure (by decide) (by decide), KeepsBut.refl _ _ _, fun _ => rfl⟩
        refine wpRel_step [] (by kernel_rfl) (fun LL kk w9 vals hk hw hun hcl hdl hT => ?_) ?_
        · have HW := Lib.hid hw
          have hlt9 := hw.lt
          clear hw hun hcl hdl hT
          simp only [fillR, Act.put, List.setIfInBounds_toArray, List.set_cons_succ, List.set_cons_zero]
          go_wp2
          exact ⟨_, rfl, rfl, (HW.out.next (by go_grown)).pure (by decide) (by decide), KeepsBut.alloc _ _ _ _, fun _ => ⟨w9.heap.size, rfl, by omega, by omega, Blk.new _ _ _⟩⟩
        refine wpRel_step [] (by kernel_rfl) (fun LL kk w9 vals hk hw hun hcl hdl hT => ?_) ?_
        · have HW := Lib.hid hw
          clear hw hun hcl hdl hT
          simp only [fillR, Act.put, List.setIfInBounds_toArray, List.set_cons_succ, List.set_cons_zero]
          go_wp2
          exact ⟨_, rfl, rfl, HW.out.pure (by decide) (by decide), KeepsBut.refl _ _ _, fun _ => rfl⟩
        refine wpRel_step [52] (by kernel_rfl) (fun LL kk w9 vals hk hw hun hcl hdl hT => ?_) ?_
        · have t4 := hT 4 52 (by kernel_rfl) (.inl rfl)
          have h10 := hcl 10 (by kernel_rfl)
          obtain ⟨q, hq1, hq2, hq3, -⟩ := hw
          obtain rfl := hq2 hun
          have D := hq3 h10
          have HD := Lib.hid D; have H10 := Lib.hid h10
          clear hq1 hq2 hq3 hun hcl hdl hT D h10
          simp only [fillR, Act.put, List.setIfInBounds_toArray, List.set_cons_succ, List.set_cons_zero]
          rw [show vals 52 = Value.pointer (some ⟨g, 0, none⟩) from t4]
          clear t4
          go_wp2_with fail
          refine (pick_any g (p + 3) 2 _ HD.out.dq.rd (by omega)).mono ?_; rintro e w5 ⟨j', rfl, a5, b5, g5, r5⟩
          have b5' := b5 (by omega)
          obtain ⟨i5, rfl⟩ : ∃ i : Nat, j' = i := ⟨j'.toNat, by omega⟩
          have D5 := Lib.hid (HD.out.step g5 r5)
          have G5 := Lib.hid g5
          clear g5 r5 b5
          go_wp2
          exact ⟨_, rfl, rfl, ⟨p + 4, by omega, fun e => by simp [putL] at e, fun _ => D5.out, fun e => by simp [putL, H10.out] at e⟩, KeepsBut.grown G5.out, fun _ => ⟨i5, by omega, rfl⟩⟩
        refine wpRel_step [51, 53] (by kernel_rfl) (fun LL kk w9 vals hk hw hun hcl hdl hT => ?_) ?_
        · have t3 := hT 3 51 (by kernel_rfl) (.inl rfl)
          have t5 := hT 5 53 (by kernel_rfl) (.inl rfl)
          obtain ⟨x, hx3, hxb, hxg, hxB⟩ := t3
          obtain ⟨i6, hi6, hx5⟩ := t5
          have HW := Lib.hid hw; have HXB := Lib.hid hxB
          clear hw hun hcl hdl hT hxB
          simp only [fillR, Act.put, List.setIfInBounds_toArray, List.set_cons_succ, List.set_cons_zero]
          rw [hx3, hx5]
          clear hx3 hx5
          have hi6' : (i6 : Int) < 2 := by omega
          go_wp2
          exact ⟨_, rfl, rfl, HW.out.pure (by decide) (by decide), KeepsBut.refl _ _ _, fun _ => ⟨x, i6, hi6, rfl, hxb, hxg, HXB.out⟩⟩
        refine wpRel_step [54] (by kernel_rfl) (fun LL kk w9 vals hk hw hun hcl hdl hT => ?_) ?_
        · have t6 := hT 6 54 (by kernel_rfl) (.inl rfl)
          obtain ⟨x, i6, hi6, hx6, hxb, hxg, hxB⟩ := t6
          have HW := Lib.hid hw
          clear hw hun hcl hdl hT
          simp only [fillR, Act.put, List.setIfInBounds_toArray, List.set_cons_succ, List.set_cons_zero]
          rw [hx6]
          clear hx6
          obtain ⟨m, hm⟩ : ∃ m : Int, w9.cell? ⟨x, i6, none⟩ = some (.int .i64 m) := (by rw [hxB.cell i6]; obtain rfl | rfl : i6 = 0 ∨ i6 = 1 := (by omega); all_goals exact ⟨_, rfl⟩)
          clear hxB
          go_wp2
          exact ⟨_, rfl, rfl, HW.out.pure (by decide) (by decide), KeepsBut.refl _ _ _, fun _ => ⟨m, rfl⟩⟩
        refine wpRel_step [49, 50] (by kernel_rfl) (fun LL kk w9 vals hk hw hun hcl hdl hT => ?_) ?_
        · have t1 := hT 1 49 (by kernel_rfl) (.inl rfl)
          have t2 := hT 2 50 (by kernel_rfl) (.inl rfl)
          have HW := Lib.hid hw
          clear hw hun hcl hdl hT
          simp only [fillR, Act.put, List.setIfInBounds_toArray, List.set_cons_succ, List.set_cons_zero]
          rw [show vals 49 = Value.slice (some ⟨b, 0, none⟩) n1 c1 from t1]
          clear t1
          rw [show vals 50 = Value.int .i64 k from t2]
          clear t2
          go_wp2
          exact ⟨_, rfl, rfl, HW.out.pure (by decide) (by decide), KeepsBut.refl _ _ _, fun _ => rfl⟩
        refine wpRel_step [56] (by kernel_rfl) (fun LL kk w9 vals hk hw hun hcl hdl hT => ?_) ?_
        · have t8 := hT 8 56 (by kernel_rfl) (.inl rfl)
          have HW := Lib.hid hw
          clear hw hun hcl hdl hT
          simp only [fillR, Act.put, List.setIfInBounds_toArray, List.set_cons_succ, List.set_cons_zero]
          rw [show vals 56 = Value.pointer (some ⟨b, k * 4, none⟩) from t8]
          clear t8
          go_wp2
          exact ⟨_, rfl, rfl, HW.out.pure (by decide) (by decide), KeepsBut.refl _ _ _, fun _ => rfl⟩
        refine wpRel_step [55, 57] (by kernel_rfl) (fun LL kk w9 vals hk hw hun hcl hdl hT => ?_) ?_
        · have t7 := hT 7 55 (by kernel_rfl) (.inl rfl)
          have t9 := hT 9 57 (by kernel_rfl) (.inl rfl)
          obtain ⟨m, hm7⟩ := t7
          obtain ⟨q, hq1, hq2, hq3, -⟩ := hw
          have D := hq3 hun
          have q5 := (show w9.cell? ⟨b, k * 4, none⟩ = some (.int .i64 r.verdict) from D.cell hcc0.out hkn 0 _ rfl)
          have qf := (show w9.frozen? ⟨b, k * 4, none⟩ = false from D.frozen _)
          have D6 := Lib.hid (show Ds w (w9.setCell ⟨b, k * 4, none⟩ (.int .i64 m)) g q w1.heap.size els _ n1 (rs.set k ⟨m, r.low, r.high, r.tests⟩) (cs1.set k [.int .i64 m, .int .i64 r.low, .int .i64 r.high, tv]) from D.put (j := 0) (.int .i64 m) hcc0.out (by omega) (let ⟨tv', e', ht'⟩ := D.rules.2 k r _ HRK.out hcc0.out; ⟨tv', by cases e'; rfl, ht'⟩))
          have HQ := Lib.hid (show q ≤ p + 4 ∧ (LL 5 = false → q = p + 3) from ⟨hq1, hq2⟩)
          clear hq1 hq2 hq3 hun hcl hdl hT D
          simp only [fillR, Act.put, List.setIfInBounds_toArray, List.set_cons_succ, List.set_cons_zero]
          rw [hm7]
          clear hm7
          rw [show vals 57 = Value.pointer (some ⟨b, k * 4, none⟩) from t9]
          clear t9
          go_wp2
          exact ⟨undef, rfl, rfl, ⟨q, HQ.out.1, fun e => HQ.out.2 (by simpa [putL] using e), fun e => by simp [putL] at e, fun _ => ⟨m, D6.out⟩⟩, KeepsBut.set_ _ _ _ _ _, fun e => absurd rfl e⟩
        refine wpRel_end [48, 49, 50, 51, 52, 53, 54, 55, 56, 57] (by kernel_rfl) (fun LL w5 vals hall hw hT => ?_)
        obtain ⟨q, hq1, -, -, hq4⟩ := hw
        obtain ⟨m, D⟩ := hq4 (hall 10 (by decide))
        have hlr5 : w.heap.size + 1 < w5.heap.size := D.r0.lt
        have DF := Lib.hid D
        clear hq4 hall hT D hglt
        simp only [fillR, Act.put, List.setIfInBounds_toArray, List.set_cons_succ, List.set_cons_zero]
        have f0 := DF.out.r0.frozen 0; have f1 := DF.out.r0.frozen 1
        have z0 := (show _ = some (Value.slice none 0 0) from DF.out.r0.cell 0); have z1 := (show _ = some (Value.int .i64 0) from DF.out.r0.cell 1)
        have xF0 := (show _ = some (Value.slice (some ⟨b, 0, none⟩) n1 c1) from DF.out.x0.cell 0); have xF1 := (show _ = some (Value.int .i64 els) from DF.out.x0.cell 1)
        have haf := DF.out.after
        have hlx := DF.out.x0.lt
        have hl1 : w.heap.size + 1 < _ := DF.out.r0.lt
        go_wp2
        refine bodyPost_ret (v := .agg #[.slice (some ⟨b, 0, none⟩) n1 c1, .int .i64 els]) (by simp [results, Tryz.results61, go_sem, z0, z1, hlr5, Nat.ne_of_lt hlr5]) rfl (SpoilPost.mk (po' := ⟨_, els⟩) (q := q) ?_ ?_ ?_ (by omega) (DT.out m))
        · first | exact DF.out.done.1 | exact DF.out.done.1.below (by go_grown)
        · first | exact DF.out.done.2.1 | exact DF.out.done.2.1.trans (World.grownBy_alloc _ _ _) | exact DF.out.done.2.1.trans (grown_of_below (by go_grown) _)
        · first | exact DF.out.done.2.2 | exact DF.out.done.2.2.next (by go_grown)
      case' neg =>
        have hd0 : (c4 == 0) = false := by simp; omega
        by_cases hc1 : c4 = 1
        case' pos =>
          subst hc1
          have y0 := (show _ = some (Value.slice (some ⟨b, 0, none⟩) n1 c1) from HD4.out.x0.cell 0)
          have y14 := (show _ = some (Value.int .i64 els) from HD4.out.x0.cell 1)
          have z40 := (show _ = some (Value.slice none 0 0) from HD4.out.r0.cell 0)
          have z41 := (show _ = some (Value.int .i64 0) from HD4.out.r0.cell 1)
          have f40 := HD4.out.r0.frozen 0
          have f41 := HD4.out.r0.frozen 1
          have q41 := (show w4.cell? ⟨b, k * 4 + 1, none⟩ = some (.int .i64 r.low) from HD4.out.cell hcc0.out hkn 1 _ rfl)
          have q42 := (show w4.cell? ⟨b, k * 4 + 2, none⟩ = some (.int .i64 r.high) from HD4.out.cell hcc0.out hkn 2 _ rfl)
          have qf := (show w4.frozen? ⟨b, k * 4 + 2, none⟩ = false from HD4.out.frozen _)
          have D5 := HD4.out
          have hlr5 : w.heap.size + 1 < w4.heap.size := D5.r0.lt
          have DF := Lib.hid (show Ds w (w4.setCell ⟨b, k * 4 + 2, none⟩ (.int .i64 (wrap64 (r.low - 1)))) g (p + 3) w1.heap.size els _ n1 (rs.set k ⟨r.verdict, r.low, wrap64 (r.low - 1), r.tests⟩) _ from D5.put (j := 2) (.int .i64 (wrap64 (r.low - 1))) hcc0.out (by omega) (let ⟨tv', e', ht'⟩ := D5.rules.2 k r _ hr hcc0.out; ⟨tv', by cases e'; rfl, ht'⟩))
          have DT := Lib.hid (set_small (k := k) (r := ⟨r.verdict, r.low, wrap64 (r.low - 1), r.tests⟩) HR.out HT.out (by have := HT.out r (List.mem_of_getElem? hr); show r.tests.length ≤ 11; omega))
          clear D5
          go_wp2
          go_region
          all_goals
            have f0 := DF.out.r0.frozen 0; have f1 := DF.out.r0.frozen 1
            have z0 := (show _ = some (Value.slice none 0 0) from DF.out.r0.cell 0); have z1 := (show _ = some (Value.int .i64 0) from DF.out.r0.cell 1)
            have xF0 := (show _ = some (Value.slice (some ⟨b, 0, none⟩) n1 c1) from DF.out.x0.cell 0); have xF1 := (show _ = some (Value.int .i64 els) from DF.out.x0.cell 1)
            have haf := DF.out.after
            have hlx := DF.out.x0.lt
            have hl1 : w.heap.size + 1 < _ := DF.out.r0.lt
            go_wp2
            refine bodyPost_ret (v := .agg #[.slice (some ⟨b, 0, none⟩) n1 c1, .int .i64 els]) (by simp [results, Tryz.results61, go_sem, z0, z1, hlr5, Nat.ne_of_lt hlr5]) rfl (SpoilPost.mk (po' := ⟨_, els⟩) (q := p + 3) ?_ ?_ ?_ (by omega) (DT.out))
            · first | exact DF.out.done.1 | exact DF.out.done.1.below (by go_grown)
            · first | exact DF.out.done.2.1 | exact DF.out.done.2.1.trans (World.grownBy_alloc _ _ _) | exact DF.out.done.2.1.trans (grown_of_below (by go_grown) _)
            · first | exact DF.out.done.2.2 | exact DF.out.done.2.2.next (by go_grown)
        case' neg =>
          have hd1 : (c4 == 1) = false := by simp; omega
          by_cases hc2 : c4 = 2
          case' pos =>
            subst hc2
            have HRK := Lib.hid hr
            have DT := Lib.hid (fun m : Int => set_small (k := k) (r := ⟨r.verdict, m, r.high, r.tests⟩) HR.out HT.out (by have := HT.out r (List.mem_of_getElem? hr); show r.tests.length ≤ 11; omega))
            have y0 := (show _ = some (Value.slice (some ⟨b, 0, none⟩) n1 c1) from HD4.out.x0.cell 0)
            have hglt := HD4.out.dq.lt
            go_wp2
            clear y0
            refine wp_region_rel (putT w1.heap.size b n1 c1 k 1 g #[.int .i64 (-1), .int .i64 4294967296]) (fun _ => none) (fun L _ w' => (putI w g p w1.heap.size b n1 c1 k 1 els rs cs1 (fun m => ⟨r.verdict, m, r.high, r.tests⟩) (fun m => [.int .i64 r.verdict, .int .i64 m, .int .i64 r.high, tv])) L w') (fun _ w w' => KeepsBut b g w w') (by kernel_rfl) (by kernel_rfl) ⟨p + 3, by omega, fun _ => rfl, fun _ => HD4.out.next (show Below w4.heap.size w4 w4.drew by go_grown), fun e => (Bool.false_ne_true e).elim⟩ (fun _ j _ _ _ _ _ _ hR hT => putT_keep j hR hT) ?_
            refine wpRel_step [] (by kernel_rfl) (fun LL kk w9 vals hk hw hun hcl hdl hT => ?_) ?_
            · have HW := Lib.hid hw
              clear hw hun hcl hdl hT
              simp only [fillR, Act.put, List.setIfInBounds_toArray, List.set_cons_succ, List.set_cons_zero]
              go_wp2
              exact ⟨_, rfl, rfl, HW.out.pure (by decide) (by decide), KeepsBut.refl _ _ _, fun _ => rfl⟩
            refine wpRel_step [74] (by kernel_rfl) (fun LL kk w9 vals hk hw hun hcl hdl hT => ?_) ?_
            · have t0 := hT 0 74 (by kernel_rfl) (.inl rfl)
              have HW := Lib.hid hw
              clear hw hun hcl hdl hT
              simp only [fillR, Act.put, List.setIfInBounds_toArray, List.set_cons_succ, List.set_cons_zero]
              rw [show vals 74 = Value.pointer (some ⟨w1.heap.size, 0, none⟩) from t0]
              clear t0
              have y0 := (show _ = some (Value.slice (some ⟨b, 0, none⟩) n1 c1) from HW.out.box.cell 0)
              go_wp2
              exact ⟨_, rfl, rfl, HW.out.pure (by decide) (by decide), KeepsBut.refl _ _ _, fun _ => rfl⟩
            refine wpRel_step [] (by kernel_rfl) (fun LL kk w9 vals hk hw hun hcl hdl hT => ?_) ?_
            · have HW := Lib.hid hw
              clear hw hun hcl hdl hT
              simp only [fillR, Act.put, List.setIfInBounds_toArray, List.set_cons_succ, List.set_cons_zero]
              go_wp2
              exact ⟨_, rfl, rfl, HW.out.pure (by decide) (by decide), KeepsBut.refl _ _ _, fun _ => rfl⟩
            refine wpRel_step [] (by kernel_rfl) (fun LL kk w9 vals hk hw hun hcl hdl hT => ?_) ?_
            · have HW := Lib.hid hw
              have hlt9 := hw.lt
              clear hw hun hcl hdl hT
              simp only [fillR, Act.put, List.setIfInBounds_toArray, List.set_cons_succ, List.set_cons_zero]
              go_wp2
              exact ⟨_, rfl, rfl, (HW.out.next (by go_grown)).pure (by decide) (by decide), KeepsBut.alloc _ _ _ _, fun _ => ⟨w9.heap.size, rfl, by omega, by omega, Blk.new _ _ _⟩⟩
            refine wpRel_step [] (by kernel_rfl) (fun LL kk w9 vals hk hw hun hcl hdl hT => ?_) ?_
            · have HW := Lib.hid hw
              clear hw hun hcl hdl hT
              simp only [fillR, Act.put, List.setIfInBounds_toArray, List.set_cons_succ, List.set_cons_zero]
              go_wp2
              exact ⟨_, rfl, rfl, HW.out.pure (by decide) (by decide), KeepsBut.refl _ _ _, fun _ => rfl⟩
            refine wpRel_step [78] (by kernel_rfl) (fun LL kk w9 vals hk hw hun hcl hdl hT => ?_) ?_
            · have t4 := hT 4 78 (by kernel_rfl) (.inl rfl)
              have h10 := hcl 10 (by kernel_rfl)
              obtain ⟨q, hq1, hq2, hq3, -⟩ := hw
              obtain rfl := hq2 hun
              have D := hq3 h10
              have HD := Lib.hid D; have H10 := Lib.hid h10
              clear hq1 hq2 hq3 hun hcl hdl hT D h10
              simp only [fillR, Act.put, List.setIfInBounds_toArray, List.set_cons_succ, List.set_cons_zero]
              rw [show vals 78 = Value.pointer (some ⟨g, 0, none⟩) from t4]
              clear t4
              go_wp2_with fail
              refine (pick_any g (p + 3) 2 _ HD.out.dq.rd (by omega)).mono ?_; rintro e w5 ⟨j', rfl, a5, b5, g5, r5⟩
              have b5' := b5 (by omega)
              obtain ⟨i5, rfl⟩ : ∃ i : Nat, j' = i := ⟨j'.toNat, by omega⟩
              have D5 := Lib.hid (HD.out.step g5 r5)
              have G5 := Lib.hid g5
              clear g5 r5 b5
              go_wp2
              exact ⟨_, rfl, rfl, ⟨p + 4, by omega, fun e => by simp [putL] at e, fun _ => D5.out, fun e => by simp [putL, H10.out] at e⟩, KeepsBut.grown G5.out, fun _ => ⟨i5, by omega, rfl⟩⟩
            refine wpRel_step [77, 79] (by kernel_rfl) (fun LL kk w9 vals hk hw hun hcl hdl hT => ?_) ?_
            · have t3 := hT 3 77 (by kernel_rfl) (.inl rfl)
              have t5 := hT 5 79 (by kernel_rfl) (.inl rfl)
              obtain ⟨x, hx3, hxb, hxg, hxB⟩ := t3
              obtain ⟨i6, hi6, hx5⟩ := t5
              have HW := Lib.hid hw; have HXB := Lib.hid hxB
              clear hw hun hcl hdl hT hxB
              simp only [fillR, Act.put, List.setIfInBounds_toArray, List.set_cons_succ, List.set_cons_zero]
              rw [hx3, hx5]
              clear hx3 hx5
              have hi6' : (i6 : Int) < 2 := by omega
              go_wp2
              exact ⟨_, rfl, rfl, HW.out.pure (by decide) (by decide), KeepsBut.refl _ _ _, fun _ => ⟨x, i6, hi6, rfl, hxb, hxg, HXB.out⟩⟩
            refine wpRel_step [80] (by kernel_rfl) (fun LL kk w9 vals hk hw hun hcl hdl hT => ?_) ?_
            · have t6 := hT 6 80 (by kernel_rfl) (.inl rfl)
              obtain ⟨x, i6, hi6, hx6, hxb, hxg, hxB⟩ := t6
              have HW := Lib.hid hw
              clear hw hun hcl hdl hT
              simp only [fillR, Act.put, List.setIfInBounds_toArray, List.set_cons_succ, List.set_cons_zero]
              rw [hx6]
              clear hx6
              obtain ⟨m, hm⟩ : ∃ m : Int, w9.cell? ⟨x, i6, none⟩ = some (.int .i64 m) := (by rw [hxB.cell i6]; obtain rfl | rfl : i6 = 0 ∨ i6 = 1 := (by omega); all_goals exact ⟨_, rfl⟩)
              clear hxB
              go_wp2
              exact ⟨_, rfl, rfl, HW.out.pure (by decide) (by decide), KeepsBut.refl _ _ _, fun _ => ⟨m, rfl⟩⟩
            refine wpRel_step [75, 76] (by kernel_rfl) (fun LL kk w9 vals hk hw hun hcl hdl hT => ?_) ?_
            · have t1 := hT 1 75 (by kernel_rfl) (.inl rfl)
              have t2 := hT 2 76 (by kernel_rfl) (.inl rfl)
              have HW := Lib.hid hw
              clear hw hun hcl hdl hT
              simp only [fillR, Act.put, List.setIfInBounds_toArray, List.set_cons_succ, List.set_cons_zero]
              rw [show vals 75 = Value.slice (some ⟨b, 0, none⟩) n1 c1 from t1]
              clear t1
              rw [show vals 76 = Value.int .i64 k from t2]
              clear t2
              go_wp2
              exact ⟨_, rfl, rfl, HW.out.pure (by decide) (by decide), KeepsBut.refl _ _ _, fun _ => rfl⟩
            refine wpRel_step [82] (by kernel_rfl) (fun LL kk w9 vals hk hw hun hcl hdl hT => ?_) ?_
            · have t8 := hT 8 82 (by kernel_rfl) (.inl rfl)
              have HW := Lib.hid hw
              clear hw hun hcl hdl hT
              simp only [fillR, Act.put, List.setIfInBounds_toArray, List.set_cons_succ, List.set_cons_zero]
              rw [show vals 82 = Value.pointer (some ⟨b, k * 4, none⟩) from t8]
              clear t8
              go_wp2
              exact ⟨_, rfl, rfl, HW.out.pure (by decide) (by decide), KeepsBut.refl _ _ _, fun _ => rfl⟩
            refine wpRel_step [81, 83] (by kernel_rfl) (fun LL kk w9 vals hk hw hun hcl hdl hT => ?_) ?_
            · have t7 := hT 7 81 (by kernel_rfl) (.inl rfl)
              have t9 := hT 9 83 (by kernel_rfl) (.inl rfl)
              obtain ⟨m, hm7⟩ := t7
              obtain ⟨q, hq1, hq2, hq3, -⟩ := hw
              have D := hq3 hun
              have q5 := (show w9.cell? ⟨b, k * 4 + 1, none⟩ = some (.int .i64 r.low) from D.cell hcc0.out hkn 1 _ rfl)
              have qf := (show w9.frozen? ⟨b, k * 4 + 1, none⟩ = false from D.frozen _)
              have D6 := Lib.hid (show Ds w (w9.setCell ⟨b, k * 4 + 1, none⟩ (.int .i64 m)) g q w1.heap.size els _ n1 (rs.set k ⟨r.verdict, m, r.high, r.tests⟩) (cs1.set k [.int .i64 r.verdict, .int .i64 m, .int .i64 r.high, tv]) from D.put (j := 1) (.int .i64 m) hcc0.out (by omega) (let ⟨tv', e', ht'⟩ := D.rules.2 k r _ HRK.out hcc0.out; ⟨tv', by cases e'; rfl, ht'⟩))
              have HQ := Lib.hid (show q ≤ p + 4 ∧ (LL 5 = false → q = p + 3) from ⟨hq1, hq2⟩)
              clear hq1 hq2 hq3 hun hcl hdl hT D
              simp only [fillR, Act.put, List.setIfInBounds_toArray, List.set_cons_succ, List.set_cons_zero]
              rw [hm7]
              clear hm7
              rw [show vals 83 = Value.pointer (some ⟨b, k * 4 + 1, none⟩) from t9]
              clear t9
              go_wp2
              exact ⟨undef, rfl, rfl, ⟨q, HQ.out.1, fun e => HQ.out.2 (by simpa [putL] using e), fun e => by simp [putL] at e, fun _ => ⟨m, D6.out⟩⟩, KeepsBut.set_ _ _ _ _ _, fun e => absurd rfl e⟩
            refine wpRel_end [74, 75, 76, 77, 78, 79, 80, 81, 82, 83] (by kernel_rfl) (fun LL w5 vals hall hw hT => ?_)
            obtain ⟨q, hq1, -, -, hq4⟩ := hw
            obtain ⟨m, D⟩ := hq4 (hall 10 (by decide))
            have hlr5 : w.heap.size + 1 < w5.heap.size := D.r0.lt
            have DF := Lib.hid D
            clear hq4 hall hT D hglt
            simp only [fillR, Act.put, List.setIfInBounds_toArray, List.set_cons_succ, List.set_cons_zero]
            have f0 := DF.out.r0.frozen 0; have f1 := DF.out.r0.frozen 1
            have z0 := (show _ = some (Value.slice none 0 0) from DF.out.r0.cell 0); have z1 := (show _ = some (Value.int .i64 0) from DF.out.r0.cell 1)
            have xF0 := (show _ = some (Value.slice (some ⟨b, 0, none⟩) n1 c1) from DF.out.x0.cell 0); have xF1 := (show _ = some (Value.int .i64 els) from DF.out.x0.cell 1)
            have haf := DF.out.after
            have hlx := DF.out.x0.lt
            have hl1 : w.heap.size + 1 < _ := DF.out.r0.lt
            go_wp2
            refine bodyPost_ret (v := .agg #[.slice (some ⟨b, 0, none⟩) n1 c1, .int .i64 els]) (by simp [results, Tryz.results61, go_sem, z0, z1, hlr5, Nat.ne_of_lt hlr5]) rfl (SpoilPost.mk (po' := ⟨_, els⟩) (q := q) ?_ ?_ ?_ (by omega) (DT.out m))
            · first | exact DF.out.done.1 | exact DF.out.done.1.below (by go_grown)
            · first | exact DF.out.done.2.1 | exact DF.out.done.2.1.trans (World.grownBy_alloc _ _ _) | exact DF.out.done.2.1.trans (grown_of_below (by go_grown) _)
            · first | exact DF.out.done.2.2 | exact DF.out.done.2.2.next (by go_grown)
          case' neg =>
            have hd2 : (c4 == 2) = false := by simp; omega
            by_cases hc3 : c4 = 3
            case' pos =>
              subst hc3
              have HRK := Lib.hid hr
              have HCC := hcc0
              obtain ⟨i0, hi0, hz0, hz1, hz2⟩ := info_parts info_TestM
              have HI0 := Lib.hid hi0; have HZ0 := Lib.hid hz0; have HZ1 := Lib.hid hz1; have HZ2 := Lib.hid hz2
              have HOT := Lib.hid hot
              obtain ⟨A5, n5, c5, hA5, hS5⟩ := SlA.of_own hot (by rw [tsR_len]) (tsR_rows _)
              subst hA5
              clear hi0 hz0 hz1 hz2 hot hS5
              have hrt := HT.out r (List.mem_of_getElem? hr)
              have HRT := Lib.hid hrt
              clear hrt
              have y0 := (show _ = some (Value.slice (some ⟨b, 0, none⟩) n1 c1) from HD4.out.x0.cell 0)
              go_wp2
              clear y0
              refine wp_region_rel (appT w1.heap.size b n1 c1 k g (.slice A5 n5 c5) (appW w g p w1.heap.size b n1 c1 k els rs cs1 r)) appC (fun L kk w' => (appI w g p w1.heap.size b n1 c1 k els rs cs1 r) L kk w') (appR b g) (by kernel_rfl) (by kernel_rfl) ⟨⟨HD4.out.x0, HD4.out.ltb.1, HD4.out.ltb.2⟩, fun _ => ⟨p + 3, by omega, HD4.out.next (show Below w4.heap.size w4 w4.drew by go_grown)⟩, fun e => (Bool.false_ne_true e).elim⟩ (fun i j _ _ _ h1 h2 h3 h4 h5 => appT_keep _ ⟨by kernel_rfl, by kernel_rfl, by kernel_rfl, by kernel_rfl⟩ i j h1 h2 h3 h4 h5) ?_
              refine wpRel_step [] (by kernel_rfl) (fun LL kk w9 vals hk hw hun hcl hdl hT => ?_) ?_
              · have HW := Lib.hid hw
                clear hw hun hcl hdl hT
                simp only [fillR, Act.put, List.setIfInBounds_toArray, List.set_cons_succ, List.set_cons_zero]
                go_wp2
                exact ⟨_, rfl, rfl, HW.out.pure (by decide) (by decide), .inr (.inr rfl), fun _ => rfl⟩
              refine wpRel_step [86] (by kernel_rfl) (fun LL kk w9 vals hk hw hun hcl hdl hT => ?_) ?_
              · have t0 := hT 0 86 (by kernel_rfl) (.inl rfl)
                have HW := Lib.hid hw
                clear hw hun hcl hdl hT
                simp only [fillR, Act.put, List.setIfInBounds_toArray, List.set_cons_succ, List.set_cons_zero]
                rw [show vals 86 = Value.pointer (some ⟨w1.heap.size, 0, none⟩) from t0]
                clear t0
                have y0 := (show _ = some (Value.slice (some ⟨b, 0, none⟩) n1 c1) from HW.out.1.1.cell 0)
                go_wp2
                exact ⟨_, rfl, rfl, HW.out.pure (by decide) (by decide), .inr (.inr rfl), fun _ => rfl⟩
              refine wpRel_step [] (by kernel_rfl) (fun LL kk w9 vals hk hw hun hcl hdl hT => ?_) ?_
              · have HW := Lib.hid hw
                clear hw hun hcl hdl hT
                simp only [fillR, Act.put, List.setIfInBounds_toArray, List.set_cons_succ, List.set_cons_zero]
                go_wp2
                exact ⟨_, rfl, rfl, HW.out.pure (by decide) (by decide), .inr (.inr rfl), fun _ => rfl⟩
              refine wpRel_step [] (by kernel_rfl) (fun LL kk w9 vals hk hw hun hcl hdl hT => ?_) ?_
              · have HW := Lib.hid hw
                clear hw hun hcl hdl hT
                simp only [fillR, Act.put, List.setIfInBounds_toArray, List.set_cons_succ, List.set_cons_zero]
                go_wp2
                exact ⟨_, rfl, rfl, HW.out.pure (by decide) (by decide), .inr (.inr rfl), fun _ => rfl⟩
              refine wpRel_step [89] (by kernel_rfl) (fun LL kk w9 vals hk hw hun hcl hdl hT => ?_) ?_
              · have t3 := hT 3 89 (by kernel_rfl) (.inl rfl)
                have HW := Lib.hid hw
                clear hw hun hcl hdl hT
                simp only [fillR, Act.put, List.setIfInBounds_toArray, List.set_cons_succ, List.set_cons_zero]
                rw [show vals 89 = Value.pointer (some ⟨w1.heap.size, 0, none⟩) from t3]
                clear t3
                have y0 := (show _ = some (Value.slice (some ⟨b, 0, none⟩) n1 c1) from HW.out.1.1.cell 0)
                go_wp2
                exact ⟨_, rfl, rfl, HW.out.pure (by decide) (by decide), .inr (.inr rfl), fun _ => rfl⟩
              refine wpRel_step [] (by kernel_rfl) (fun LL kk w9 vals hk hw hun hcl hdl hT => ?_) ?_
              · have HW := Lib.hid hw
                clear hw hun hcl hdl hT
                simp only [fillR, Act.put, List.setIfInBounds_toArray, List.set_cons_succ, List.set_cons_zero]
                go_wp2
                exact ⟨_, rfl, rfl, HW.out.pure (by decide) (by decide), .inr (.inr rfl), fun _ => rfl⟩
              refine wpRel_step [90, 91] (by kernel_rfl) (fun LL kk w9 vals hk hw hun hcl hdl hT => ?_) ?_
              · have t4 := hT 4 90 (by kernel_rfl) (.inl rfl)
                have t5 := hT 5 91 (by kernel_rfl) (.inl rfl)
                have HW := Lib.hid hw
                clear hw hun hcl hdl hT
                simp only [fillR, Act.put, List.setIfInBounds_toArray, List.set_cons_succ, List.set_cons_zero]
                rw [show vals 90 = Value.slice (some ⟨b, 0, none⟩) n1 c1 from t4]
                clear t4
                rw [show vals 91 = Value.int .i64 k from t5]
                clear t5
                go_wp2
                exact ⟨_, rfl, rfl, HW.out.pure (by decide) (by decide), .inr (.inr rfl), fun _ => rfl⟩
              refine wpRel_step [92] (by kernel_rfl) (fun LL kk w9 vals hk hw hun hcl hdl hT => ?_) ?_
              · have t6 := hT 6 92 (by kernel_rfl) (.inl rfl)
                have HW := Lib.hid hw
                clear hw hun hcl hdl hT
                simp only [fillR, Act.put, List.setIfInBounds_toArray, List.set_cons_succ, List.set_cons_zero]
                rw [show vals 92 = Value.pointer (some ⟨b, k * 4, none⟩) from t6]
                clear t6
                go_wp2
                exact ⟨_, rfl, rfl, HW.out.pure (by decide) (by decide), .inr (.inr rfl), fun _ => rfl⟩
              refine wpRel_step [93] (by kernel_rfl) (fun LL kk w9 vals hk hw hun hcl hdl hT => ?_) ?_
              · have t7 := hT 7 93 (by kernel_rfl) (.inl rfl)
                have h16 := hcl 16 (by kernel_rfl)
                obtain ⟨q, hq1, D⟩ := hw.2.1 h16
                have q5 := (show w9.cell? ⟨b, k * 4 + 3, none⟩ = some (.slice A5 n5 c5) from D.cell HCC.out hkn 3 _ rfl)
                have HW := Lib.hid hw
                clear hw hun hcl hdl hT D hq1 h16
                simp only [fillR, Act.put, List.setIfInBounds_toArray, List.set_cons_succ, List.set_cons_zero]
                rw [show vals 93 = Value.pointer (some ⟨b, k * 4 + 3, none⟩) from t7]
                clear t7
                go_wp2
                exact ⟨_, rfl, rfl, HW.out.pure (by decide) (by decide), .inr (.inr rfl), fun _ => rfl⟩
              refine wpRel_step [] (by kernel_rfl) (fun LL kk w9 vals hk hw hun hcl hdl hT => ?_) ?_
              · have HW := Lib.hid hw
                clear hw hun hcl hdl hT
                simp only [fillR, Act.put, List.setIfInBounds_toArray, List.set_cons_succ, List.set_cons_zero]
                go_wp2
                exact ⟨_, rfl, rfl, HW.out.pure (by decide) (by decide), .inr (.inr rfl), fun _ => rfl⟩
              refine wpRel_step [95] (by kernel_rfl) (fun LL kk w9 vals hk hw hun hcl hdl hT => ?_) ?_
              · have t9 := hT 9 95 (by kernel_rfl) (.inl rfl)
                have h16 := hcl 16 (by kernel_rfl)
                obtain ⟨q, hq1, D⟩ := hw.2.1 h16
                have HD := Lib.hid D; have H16 := Lib.hid h16; have HQ := Lib.hid hq1
                have h19 := hcl 19 (by kernel_rfl)
                have H19 := Lib.hid h19
                have hk20 : kk < 20 := hk
                clear hw hun hcl hdl hT D h16 h19
                simp only [fillR, Act.put, List.setIfInBounds_toArray, List.set_cons_succ, List.set_cons_zero]
                rw [show vals 95 = Value.pointer (some ⟨g, 0, none⟩) from t9]
                clear t9
                go_wp2_with fail
                refine (l11AnyTest_any g q _ HD.out.dq.rd (by omega)).mono ?_; rintro e w5 ⟨ta, q5, rfl, g5, r5, hq5⟩
                have D5 := Lib.hid (HD.out.step g5 r5)
                have G5 := Lib.hid g5
                clear g5 r5
                go_wp2
                exact ⟨_, rfl, rfl, ⟨⟨D5.out.x0, D5.out.ltb.1, D5.out.ltb.2⟩, fun _ => ⟨q5, by omega, D5.out⟩, fun e => by simp [putL, H19.out] at e⟩, .inl ⟨by decide, KeepsBut.grown G5.out⟩, fun _ => ⟨ta, rfl⟩⟩
              refine wpRel_step [] (by kernel_rfl) (fun LL kk w9 vals hk hw hun hcl hdl hT => ?_) ?_
              · have HW := Lib.hid hw
                clear hw hun hcl hdl hT
                simp only [fillR, Act.put, List.setIfInBounds_toArray, List.set_cons_succ, List.set_cons_zero]
                go_wp2
                exact ⟨_, rfl, rfl, HW.out.pure (by decide) (by decide), .inr (.inr rfl), fun _ => rfl⟩
              refine wpRel_step [97] (by kernel_rfl) (fun LL kk w9 vals hk hw hun hcl hdl hT => ?_) ?_
              · have t11 := hT 11 97 (by kernel_rfl) (.inl rfl)
                have h16 := hcl 16 (by kernel_rfl)
                obtain ⟨q, hq1, D⟩ := hw.2.1 h16
                have HD := Lib.hid D; have H16 := Lib.hid h16; have HQ := Lib.hid hq1
                have h19 := hcl 19 (by kernel_rfl)
                have H19 := Lib.hid h19
                have hk20 : kk < 20 := hk
                clear hw hun hcl hdl hT D h16 h19
                simp only [fillR, Act.put, List.setIfInBounds_toArray, List.set_cons_succ, List.set_cons_zero]
                rw [show vals 97 = Value.pointer (some ⟨g, 0, none⟩) from t11]
                clear t11
                go_wp2_with fail
                refine (l11AnyTest_any g q _ HD.out.dq.rd (by omega)).mono ?_; rintro e w5 ⟨ta, q5, rfl, g5, r5, hq5⟩
                have D5 := Lib.hid (HD.out.step g5 r5)
                have G5 := Lib.hid g5
                clear g5 r5
                go_wp2
                exact ⟨_, rfl, rfl, ⟨⟨D5.out.x0, D5.out.ltb.1, D5.out.ltb.2⟩, fun _ => ⟨q5, by omega, D5.out⟩, fun e => by simp [putL, H19.out] at e⟩, .inl ⟨by decide, KeepsBut.grown G5.out⟩, fun _ => ⟨ta, rfl⟩⟩
              refine wpRel_step [] (by kernel_rfl) (fun LL kk w9 vals hk hw hun hcl hdl hT => ?_) ?_
              · have HW := Lib.hid hw
                clear hw hun hcl hdl hT
                simp only [fillR, Act.put, List.setIfInBounds_toArray, List.set_cons_succ, List.set_cons_zero]
                go_wp2
                exact ⟨_, rfl, rfl, HW.out.pure (by decide) (by decide), .inr (.inr rfl), fun _ => rfl⟩
              refine wpRel_step [99] (by kernel_rfl) (fun LL kk w9 vals hk hw hun hcl hdl hT => ?_) ?_
              · have t13 := hT 13 99 (by kernel_rfl) (.inl rfl)
                have h16 := hcl 16 (by kernel_rfl)
                obtain ⟨q, hq1, D⟩ := hw.2.1 h16
                have HD := Lib.hid D; have H16 := Lib.hid h16; have HQ := Lib.hid hq1
                have h19 := hcl 19 (by kernel_rfl)
                have H19 := Lib.hid h19
                have hk20 : kk < 20 := hk
                clear hw hun hcl hdl hT D h16 h19
                simp only [fillR, Act.put, List.setIfInBounds_toArray, List.set_cons_succ, List.set_cons_zero]
                rw [show vals 99 = Value.pointer (some ⟨g, 0, none⟩) from t13]
                clear t13
                go_wp2_with fail
                refine (l11AnyTest_any g q _ HD.out.dq.rd (by omega)).mono ?_; rintro e w5 ⟨ta, q5, rfl, g5, r5, hq5⟩
                have D5 := Lib.hid (HD.out.step g5 r5)
                have G5 := Lib.hid g5
                clear g5 r5
                go_wp2
                exact ⟨_, rfl, rfl, ⟨⟨D5.out.x0, D5.out.ltb.1, D5.out.ltb.2⟩, fun _ => ⟨q5, by omega, D5.out⟩, fun e => by simp [putL, H19.out] at e⟩, .inl ⟨by decide, KeepsBut.grown G5.out⟩, fun _ => ⟨ta, rfl⟩⟩
              refine wpRel_step [96, 98, 100] (by kernel_rfl) (fun LL kk w9 vals hk hw hun hcl hdl hT => ?_) ?_
              · have t10 := hT 10 96 (by kernel_rfl) (.inl rfl)
                have t12 := hT 12 98 (by kernel_rfl) (.inl rfl)
                have t14 := hT 14 100 (by kernel_rfl) (.inl rfl)
                obtain ⟨ta, ha⟩ := t10
                obtain ⟨tb, hb⟩ := t12
                obtain ⟨tc, hc⟩ := t14
                have HW := Lib.hid hw
                have hlt9 := hw.1.2
                clear hw hun hcl hdl hT
                simp only [fillR, Act.put, List.setIfInBounds_toArray, List.set_cons_succ, List.set_cons_zero]
                rw [ha, hb, hc]
                clear ha hb hc
                unfold tstV
                go_wp2
                exact ⟨_, rfl, rfl, (show (appI w g p w1.heap.size b n1 c1 k els rs cs1 r) (putL LL 15) (kk + 1) _ from ⟨⟨HW.out.1.1.alloc _, by simp; omega, by simp; omega⟩, fun e => let ⟨q, h1, h2⟩ := HW.out.2.1 (by simpa [putL] using e); ⟨q, by omega, h2.next (by go_grown)⟩, fun e => let ⟨q, u, ts, h1, h2, h3⟩ := HW.out.2.2 (by simpa [putL] using e); ⟨q, u, ts, h1, h2, h3.next (by go_grown)⟩⟩), .inl ⟨by decide, KeepsBut.alloc _ _ _ _⟩, fun _ => ⟨w9.heap.size, [ta, tb, tc], rfl, rfl, by omega, by omega, Blk.new _ _ _⟩⟩
              refine wpRel_step [94, 101] (by kernel_rfl) (fun LL kk w9 vals hk hw hun hcl hdl hT => ?_) ?_
              · have t8 := hT 8 94 (by kernel_rfl) (.inl rfl)
                have t15 := hT 15 101 (by kernel_rfl) (.inr rfl)
                obtain ⟨x, ts, hts, hx, hxb, hxg, hxB⟩ := t15
                have h19 := hcl 19 (by kernel_rfl)
                obtain ⟨q, hq1, D⟩ := hw.2.1 hun
                have hk20 : kk < 20 := hk
                have HD := Lib.hid D; have HQ := Lib.hid hq1; have H19 := Lib.hid h19; have HXB := Lib.hid hxB; have HTS := Lib.hid hts
                clear hw hun hcl hdl hT D h19 hxB
                simp only [fillR, Act.put, List.setIfInBounds_toArray, List.set_cons_succ, List.set_cons_zero]
                rw [show vals 94 = Value.slice A5 n5 c5 from t8]
                clear t8
                rw [hx]
                clear hx
                obtain ⟨tv9, e9, hot9⟩ := HD.out.rules.2 k r _ HRK.out HCC.out
                obtain rfl : tv9 = Value.slice A5 n5 c5 := by simp at e9; exact e9.symm
                have HO9 := Lib.hid hot9
                clear e9 hot9
                have hbs : w.heap.size ≤ w9.heap.size := HD.out.dq.size
                go_wp2_with (at_builtin; go_must (refine wpList_append_own _ rfl (.tmp 94) (.tmp 101) _ rfl w.heap.size 47 i0 _ 4 32 Tryz.underlying42 HI0.out HZ0.out HZ1.out HZ2.out rfl (by omega) _ r.tests.length (tsR r.tests).flatten rfl HO9.out ⟨x, 0, none⟩ 3 3 (tsR ts).flatten rfl (ts_flat3 HTS.out) (fun j u hu => blk_news HXB.out hu) (ts_one ts) (by have := HRT.out; unfold maxLen; omega) (by have := HRT.out; omega) hbs ?_); intro v7 w7 hown7 hg7 _; obtain ⟨g7, cap7, rfl, hg7', hg7''⟩ := hown7.form (by omega); have HO7 := Lib.hid hown7; have HG7 := Lib.hid hg7; clear hown7 hg7)
                have HDA := Lib.hid (HD.out.app HAP.out HRK.out HCC.out HO9.out (by rw [HTS.out]; exact HO7.out) HG7.out)
                have hX7 := HD.out.x0.grown HG7.out (fun e => own_blk_ne HO9.out HD.out.x0 (by decide) e.symm)
                have hl7 : w9.heap.size ≤ w7.heap.size := HG7.out.size
                have hO27 := HD.out.own.kept HG7.out (own_apart HD.out.own HO9.out (by decide))
                exact ⟨_, rfl, rfl, (show (appI w g p w1.heap.size b n1 c1 k els rs cs1 r) (putL LL 16) (kk + 1) _ from ⟨⟨hX7, by have := HD.out.ltb; omega, by have := HD.out.ltb; omega⟩, fun e => by simp [putL] at e, fun e => by simp [putL, H19.out] at e⟩), .inr (.inl rfl), fun _ => ⟨g7, _, cap7, q, ts, rfl, by have := HQ.out; omega, by have := HTS.out; omega, own_cell hO27 HD.out.rules.are.rows HD.out.len hkn (by omega), own_unfrozen hO27 _, HDA.out⟩⟩
              refine wpRel_step [87, 88] (by kernel_rfl) (fun LL kk w9 vals hk hw hun hcl hdl hT => ?_) ?_
              · have t1 := hT 1 87 (by kernel_rfl) (.inl rfl)
                have t2 := hT 2 88 (by kernel_rfl) (.inl rfl)
                have HW := Lib.hid hw
                clear hw hun hcl hdl hT
                simp only [fillR, Act.put, List.setIfInBounds_toArray, List.set_cons_succ, List.set_cons_zero]
                rw [show vals 87 = Value.slice (some ⟨b, 0, none⟩) n1 c1 from t1]
                clear t1
                rw [show vals 88 = Value.int .i64 k from t2]
                clear t2
                go_wp2
                exact ⟨_, rfl, rfl, HW.out.pure (by decide) (by decide), .inr (.inr rfl), fun _ => rfl⟩
              refine wpRel_step [103] (by kernel_rfl) (fun LL kk w9 vals hk hw hun hcl hdl hT => ?_) ?_
              · have t17 := hT 17 103 (by kernel_rfl) (.inl rfl)
                have HW := Lib.hid hw
                clear hw hun hcl hdl hT
                simp only [fillR, Act.put, List.setIfInBounds_toArray, List.set_cons_succ, List.set_cons_zero]
                rw [show vals 103 = Value.pointer (some ⟨b, k * 4, none⟩) from t17]
                clear t17
                go_wp2
                exact ⟨_, rfl, rfl, HW.out.pure (by decide) (by decide), .inr (.inr rfl), fun _ => rfl⟩
              refine wpRel_step [102, 104] (by kernel_rfl) (fun LL kk w9 vals hk hw hun hcl hdl hT => ?_) ?_
              · have t16 := hT 16 102 (by kernel_rfl) (.inr rfl)
                have t18 := hT 18 104 (by kernel_rfl) (.inl rfl)
                obtain ⟨x, m, cap, q, ts, hu, hq, hts, ⟨y, hy⟩, hfr, D⟩ := t16
                have HD := Lib.hid D; have HL := Lib.hid (show q ≤ p + 300 ∧ ts.length ≤ 3 from ⟨hq, hts⟩)
                have hlt9 := hw.1
                have h16 := hdl 16 (by kernel_rfl)
                have H16 := Lib.hid h16
                rw [hu] at HD
                clear hw hun hcl hdl hT D hq hts h16
                simp only [fillR, Act.put, List.setIfInBounds_toArray, List.set_cons_succ, List.set_cons_zero]
                rw [hu]
                clear hu
                rw [show vals 104 = Value.pointer (some ⟨b, k * 4 + 3, none⟩) from t18]
                clear t18
                go_wp2
                exact ⟨undef, rfl, rfl, (show (appI w g p w1.heap.size b n1 c1 k els rs cs1 r) (putL LL 19) (kk + 1) _ from ⟨⟨HD.out.x0, HD.out.ltb.1, HD.out.ltb.2⟩, fun e => by simp [putL, H16.out] at e, fun _ => ⟨q, _, ts, HL.out.1, HL.out.2, HD.out⟩⟩), .inl ⟨by decide, KeepsBut.set_ _ _ _ _ _⟩, fun e => absurd rfl e⟩
              refine wpRel_end [86, 87, 88, 89, 90, 91, 92, 93, 94, 95, 96, 97, 98, 99, 100, 101, 102, 103, 104] (by kernel_rfl) (fun LL w5 vals hall hw hT => ?_)
              obtain ⟨q, u, ts, hq1, hts, D⟩ := hw.2.2 (hall 19 (by decide))
              have hlr5 : w.heap.size + 1 < w5.heap.size := D.r0.lt
              have DF := Lib.hid D
              have DT := Lib.hid (app_small (ts := ts) HR.out HT.out HRK.out hts)
              clear hw hall hT D hts
              simp only [fillR, Act.put, List.setIfInBounds_toArray, List.set_cons_succ, List.set_cons_zero]
              have f0 := DF.out.r0.frozen 0; have f1 := DF.out.r0.frozen 1
              have z0 := (show _ = some (Value.slice none 0 0) from DF.out.r0.cell 0); have z1 := (show _ = some (Value.int .i64 0) from DF.out.r0.cell 1)
              have xF0 := (show _ = some (Value.slice (some ⟨b, 0, none⟩) n1 c1) from DF.out.x0.cell 0); have xF1 := (show _ = some (Value.int .i64 els) from DF.out.x0.cell 1)
              have haf := DF.out.after
              have hlx := DF.out.x0.lt
              have hl1 : w.heap.size + 1 < _ := DF.out.r0.lt
              go_wp2
              refine bodyPost_ret (v := .agg #[.slice (some ⟨b, 0, none⟩) n1 c1, .int .i64 els]) (by simp [results, Tryz.results61, go_sem, z0, z1, hlr5, Nat.ne_of_lt hlr5]) rfl (SpoilPost.mk (po' := ⟨_, els⟩) (q := q) ?_ ?_ ?_ (by omega) (DT.out))
              · first | exact DF.out.done.1 | exact DF.out.done.1.below (by go_grown)
              · first | exact DF.out.done.2.1 | exact DF.out.done.2.1.trans (World.grownBy_alloc _ _ _) | exact DF.out.done.2.1.trans (grown_of_below (by go_grown) _)
              · first | exact DF.out.done.2.2 | exact DF.out.done.2.2.next (by go_grown)
            case' neg =>
              have hd3 : (c4 == 3) = false := by simp; omega
              have HRK := Lib.hid hr
              have HOT := Lib.hid hot
              obtain ⟨A5, n5, c5, hA5, hS5⟩ := SlA.of_own hot (by rw [tsR_len]) (tsR_rows _)
              subst hA5
              clear hot hS5
              have hn9 : n1 ≤ 8 := hn8
              go_wp2_with fail
              go_loopg [] (9 - n1) (fun gk wr => ∃ (n : Nat) (b' c' : Nat) (rs' : List Rl) (cs' : List (List Value)), gk = 9 - n ∧ n ≤ 9 ∧ n1 ≤ n ∧ Hid (Ds w wr g (p + 3) w1.heap.size els (.slice (some ⟨b', 0, none⟩) n c') n rs' cs') ∧ Hid (rs'[k]? = some r) ∧ Hid (cs'[k]? = some [.int .i64 r.verdict, .int .i64 r.low, .int .i64 r.high, .slice A5 n5 c5]) ∧ Hid (∀ r ∈ rs', r.tests.length ≤ 8))
              case atStart => exact ⟨n1, b, c1, rs, cs1, rfl, by omega, Nat.le_refl _, HD4, HRK, hcc0, HT⟩
              case round =>
                clear hcc0 HD4 HRK HOT
                obtain ⟨n, b', c', rs', cs', hgk, hn9, hn1, HD, HRK, HCC, HTS⟩ := hrel
                have HGK := Lib.hid hgk
                have y0 := (show _ = some (Value.slice (some ⟨b', 0, none⟩) n c') from HD.out.x0.cell 0)
                have hcp : n ≤ c' := own_le HD.out.own
                clear hgk
                by_cases hlt : n ≤ 8
                · have hli : (n : Int) ≤ 8 := by omega
                  have hki' : (k : Int) < (n : Int) := by omega
                  have hkn' : k < n := by omega
                  have q0 := (show wr.cell? ⟨b', k * 4, none⟩ = some (.int .i64 r.verdict) from HD.out.cell HCC.out hkn' 0 _ rfl)
                  have q1 := (show wr.cell? ⟨b', k * 4 + 1, none⟩ = some (.int .i64 r.low) from HD.out.cell HCC.out hkn' 1 _ rfl)
                  have q2 := (show wr.cell? ⟨b', k * 4 + 2, none⟩ = some (.int .i64 r.high) from HD.out.cell HCC.out hkn' 2 _ rfl)
                  have q3 := (show wr.cell? ⟨b', k * 4 + 3, none⟩ = some (.slice A5 n5 c5) from HD.out.cell HCC.out hkn' 3 _ rfl)
                  have HDD := Lib.hid (HD.out.next (show Below wr.heap.size wr wr.drew by go_grown))
                  have HSZ := Lib.hid (show w.heap.size ≤ wr.drew.heap.size from HDD.out.dq.size)
                  have HLT := Lib.hid hlt; have HN1 := Lib.hid hn1
                  have hxl : w1.heap.size < wr.heap.size := HD.out.x0.lt
                  have hbl : b' < wr.heap.size := HD.out.ltb.1
                  clear hlt hn1 hn9
                  go_wp2
                  go_region_law ((refine step_app0g (w0 := wr.drew) rfl (.tmp 37) (.tmp 43) _ rfl w.heap.size 44 Tryz.underlying23 info_RuleM rfl (by omega) (by omega) (.slice (some ⟨b', 0, none⟩) n c') n cs' rfl HDD.out.own rfl (by simp [Value.oneCell']) rfl (by have := HLT.out; omega) (by exact HSZ.out) ?_; intro v9 w9 hown9 hg9 _; obtain ⟨g9, cap9, rfl, hg9', hg9''⟩ := hown9.form (by omega); have HO9 := Lib.hid hown9; have HG9 := Lib.hid hg9; have X9 := HDD.out.x0.grown HG9.out (fun e => own_blk_ne HDD.out.own HDD.out.x0 (by decide) e.symm); have x90 := (show _ = some (Value.slice (some ⟨b', 0, none⟩) n c') from X9.cell 0); have xf90 := X9.frozen 0; clear hown9 hg9 X9))
                  all_goals
                    clear x90 xf90 q0 q1 q2 q3 y0
                    go_wp2
                    have hlt := HLT.out; have hn1 := HN1.out
                    go_roundg (9 - (n + 1))
                    case rel =>
                      refine ⟨n + 1, g9, cap9, rs' ++ [r], cs' ++ [_], rfl, by omega, by omega, Lib.hid (HDD.out.more HRK.out HCC.out HO9.out HG9.out), Lib.hid (by rw [List.getElem?_append_left (List.getElem?_eq_some_iff.1 HRK.out).1]; exact HRK.out), Lib.hid (by rw [List.getElem?_append_left (List.getElem?_eq_some_iff.1 HCC.out).1]; exact HCC.out), Lib.hid (fun r' hr' => ?_)⟩
                      rcases List.mem_append.1 hr' with h | h
                      · exact HTS.out r' h
                      · rw [List.mem_singleton] at h; subst h; exact HTS.out _ (List.mem_of_getElem? HRK.out)
                    case measure => have := HGK.out; omega
                · obtain rfl : n = 9 := by omega
                  have hrl := HD.out.len; have hrl2 := HD.out.rules.1
                  have DT := Lib.hid (show rs'.length ≤ 9 ∧ ∀ r' ∈ rs', r'.tests.length ≤ 11 from ⟨by omega, fun r' hr' => by have := HTS.out r' hr'; omega⟩)
                  have DF := HD
                  have hlr5 : w.heap.size + 1 < wr.heap.size := DF.out.r0.lt
                  clear hrl hrl2 hlt
                  have f0 := DF.out.r0.frozen 0; have f1 := DF.out.r0.frozen 1
                  have z0 := (show _ = some (Value.slice none 0 0) from DF.out.r0.cell 0); have z1 := (show _ = some (Value.int .i64 0) from DF.out.r0.cell 1)
                  have xF0 := (show _ = some (Value.slice (some ⟨b', 0, none⟩) 9 c') from DF.out.x0.cell 0); have xF1 := (show _ = some (Value.int .i64 els) from DF.out.x0.cell 1)
                  have haf := DF.out.after
                  have hlx := DF.out.x0.lt
                  have hl1 : w.heap.size + 1 < _ := DF.out.r0.lt
                  go_wp2
                  refine bodyPost_ret (v := .agg #[.slice (some ⟨b', 0, none⟩) 9 c', .int .i64 els]) (by simp [results, Tryz.results61, go_sem, z0, z1, hlr5, Nat.ne_of_lt hlr5]) rfl (SpoilPost.mk (po' := ⟨_, els⟩) (q := p + 3) ?_ ?_ ?_ (by omega) (DT.out))
                  · first | exact DF.out.done.1 | exact DF.out.done.1.below (by go_grown)
                  · first | exact DF.out.done.2.1 | exact DF.out.done.2.1.trans (World.grownBy_alloc _ _ _) | exact DF.out.done.2.1.trans (grown_of_below (by go_grown) _)
                  · first | exact DF.out.done.2.2 | exact DF.out.done.2.2.next (by go_grown)
end Go.Proofs.YtgdelnpielfhkaaGreatDoor
