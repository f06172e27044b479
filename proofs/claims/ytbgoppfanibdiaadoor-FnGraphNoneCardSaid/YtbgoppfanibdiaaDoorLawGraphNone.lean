/- The law that where all is one verdict nothing is looked at, walked: FnGraphNone returns true. -/
import Derived.Test.YtbgoppfanibdiaaDoorDrawPolW
import Derived.Test.YtbgoppfanibdiaaDoorWgGraph
import Derived.Test.YtbgoppfanibdiaaDoorNoneP
import Derived.Test.YtbgoppfanibdiaaDoorGmT
import Derived.Test.YtbgoppfanibdiaaDoorPolK
import Derived.Test.YtbgoppfanibdiaaDoorPolS3
import Derived.Test.YtbgoppfanibdiaaDoorRelA
import Derived.Test.YtbgoppfanibdiaaDoorMakeA
import Derived.Test.YtbgoppfanibdiaaDoorNoneS
namespace Go.Proofs.YtbgoppfanibdiaaDoor
open Go.RowKit Go.WideShapes Go.ChangeShapes Go.ChangeAt
set_option linter.unusedSimpArgs false
set_option linter.unusedVariables false

theorem DrawGraphMake_any (v : Value) (ys : List Int) (w : World) (hs : Sl w 1 v (u8s ys)) (hb : ∀ y ∈ ys, 0 ≤ y ∧ y ≤ 255) :
    Calls Tryd.prog 4 #[v] w (PolPost w) := by
  obtain ⟨W1, hW1⟩ : ∃ W, W = w.alloc (.cells #[.slice none 0 0, .int .i64 0] 25) := ⟨_, rfl⟩
  have B1 : Hid (Blk W1 w.heap.size 25 #[.slice none 0 0, .int .i64 0]) := by rw [hW1]; exact Lib.hid (Blk.new _ _ _)
  have b1 : Hid (Below w.heap.size w W1) := by rw [hW1]; exact Lib.hid (by go_grown)
  have HS1 : Hid (Sl W1 1 v (u8s ys)) := Lib.hid (hs.below b1.out)
  have HB := Lib.hid hb
  have HW1 := Lib.hid hW1
  clear hW1 hs hb
  go_enter Tryd.func4, Tryd.ntmps4
  go_wp2_with fail
  rw [← HW1.out]
  refine (DrawPolicyWrite_any v ys W1 HS1.out HB.out).mono ?_; rintro e w5 ⟨po, v', B, rfl, hpo, hB, hbl, hsm⟩
  obtain ⟨A, n, c, rfl⟩ := hpo.form
  have HK5 := Lib.hid (B1.out.below hbl B1.out.lt)
  have HF : Hid (PolPost w (.returned (.agg #[.slice A n c, .int .i64 po.els])) ((w5.setCell ⟨w.heap.size, 0, none⟩ (.slice A n c)).setCell ⟨w.heap.size, 1, none⟩ (.int .i64 po.els))) :=
    Lib.hid (PolPost.mk ((hpo.set_blk HK5.out).set_blk (HK5.out.set_ 0 _)) (Nat.le_trans b1.out.size hB) (((below_then b1.out hbl).setCell (p := ⟨w.heap.size, 0, none⟩) (Nat.le_refl _) _).setCell (p := ⟨w.heap.size, 1, none⟩) (Nat.le_refl _) _) hsm)
  have x0 := (show _ = some (Value.slice none 0 0) from HK5.out.cell 0); have x1 := (show _ = some (Value.int .i64 0) from HK5.out.cell 1); have f0 := HK5.out.frozen 0; have f1 := HK5.out.frozen 1
  clear hpo hbl hsm HW1 HB HS1 b1
  go_wp2
  exact bodyPost_ret (v := .agg #[.slice A n c, .int .i64 po.els]) (by simp [results, Tryd.results4, go_sem, x0, x1]) rfl HF.out

theorem PolPost.outN {w : World} {e : Ending} {w' : World} (h : PolPost w e w') : ∃ (po : Pol) (A : Option Addr) (n c : Nat), e = .returned (.agg #[.slice A n c, .int .i64 po.els]) ∧ PolIs w' po (.agg #[.slice A n c, .int .i64 po.els]) ∧ Below w.heap.size w w' := by
  obtain ⟨po, v, B, rfl, hp, _, hb, _⟩ := h
  obtain ⟨A, n, c, rfl⟩ := hp.form
  exact ⟨po, A, n, c, rfl, hp.is, hb⟩
/-- What the operations yield at the graphs' compare. -/
def noneT (po : Pol) (v : Value) : Nat → World → Value → Prop
  | 0, _, u => u = v
  | 1, w, u => ∃ g, Sl w 7 u (g.map Pt.cells) ∧ GraphIs po g
  | 2, _, u => u = v
  | 3, w, u => ∃ g, Sl w 7 u (g.map Pt.cells) ∧ GraphIs po g
  | 4, _, u => u = .bool true
  | 5, _, u => u = .bool false
  | 6, _, u => u = .bool false
  | 7, _, u => u = v
  | 8, _, u => u = .bool (polOkB po)
  | _, _, u => u = .bool (!polOkB po)
theorem noneT_keep {po : Pol} {v : Value} (j : Nat) {w w' : World} {u : Value} (hb : Below w.heap.size w w') (h : noneT po v j w u) : noneT po v j w' u := by
  match j, h with
  | 0, h => exact h
  | 1, ⟨g, h, k⟩ => exact ⟨g, h.below hb, k⟩
  | 2, h => exact h
  | 3, ⟨g, h, k⟩ => exact ⟨g, h.below hb, k⟩
  | 4, h => exact h
  | 5, h => exact h
  | 6, h => exact h
  | 7, h => exact h
  | 8, h => exact h
  | (n + 9), h => exact h
def noneT2 (po : Pol) (v : Value) : Nat → World → Value → Prop
  | 0, _, u => u = v
  | 1, w, u => ∃ g, Sl w 7 u (g.map Pt.cells) ∧ GraphIs po g
  | 2, _, u => u = v
  | 3, w, u => ∃ g, Sl w 7 u (g.map Pt.cells) ∧ GraphIs po g
  | _, _, u => u = .bool true
theorem noneT2_keep {po : Pol} {v : Value} (j : Nat) {w w' : World} {u : Value} (hb : Below w.heap.size w w') (h : noneT2 po v j w u) : noneT2 po v j w' u := by
  match j, h with
  | 0, h => exact h
  | 1, ⟨g, h, k⟩ => exact ⟨g, h.below hb, k⟩
  | 2, h => exact h
  | 3, ⟨g, h, k⟩ => exact ⟨g, h.below hb, k⟩
  | (n + 4), h => exact h
theorem ptsEqG_same (g : List Pt) : ptsEqG g g = true := ptsEqG_iff.2 rfl

set_option maxRecDepth 100000 in
set_option maxHeartbeats 4000000 in
theorem graphNone_law (v : Value) (ys : List Int) (w : World) (hs : Sl w 1 v (u8s ys)) (hb : ∀ y ∈ ys, 0 ≤ y ∧ y ≤ 255) (hpw : Pow w) :
    Calls Tryd.prog 3 #[v] w fun e w' => e = .returned (.bool true) ∧ Below w.heap.size w w' := by
  have HS := Lib.hid hs; have HB := Lib.hid hb; have HPW := Lib.hid hpw
  obtain ⟨A0, n0, c0, rfl, hA0⟩ := hs
  have hc0 := hA0.cap
  have hm0 := hA0.max
  unfold maxLen at hm0
  clear hA0 hb hpw
  by_cases hlen : n0 ≤ 1048576
  case neg =>
    go_enter Tryd.func3, Tryd.ntmps3
    go_wp2
    go_ret
    exact ⟨rfl, Below.refl _ _⟩
  go_enter Tryd.func3, Tryd.ntmps3
  go_wp2_with fail
  refine (DrawGraphMake_any _ ys w HS.out HB.out).mono ?_; intro e w1 hp1
  obtain ⟨po, A, n, c, rfl, hpo, hb1⟩ := hp1.outN
  obtain ⟨w2, hw2⟩ : ∃ W, W = w1.alloc (.cells #[.slice A n c, .int .i64 po.els] 25) := ⟨_, rfl⟩
  have K2 : Hid (Blk w2 w1.heap.size 25 #[.slice A n c, .int .i64 po.els]) := by rw [hw2]; exact Lib.hid (Blk.new _ _ _)
  have HB2 : Hid (Below w.heap.size w w2) := by rw [hw2]; exact Lib.hid (hb1.alloc hb1.size _)
  have HP2 : Hid (PolIs w2 po (.agg #[.slice A n c, .int .i64 po.els])) := by rw [hw2]; exact Lib.hid (hpo.below (by go_grown))
  have HPW2 : Hid (Pow w2) := Lib.hid (HPW.out.below HB2.out)
  have HW2 := Lib.hid hw2
  have hl2 : w1.heap.size < w2.heap.size := K2.out.lt
  have y0 := (show _ = some (Value.slice A n c) from K2.out.cell 0); have y1 := (show _ = some (Value.int .i64 po.els) from K2.out.cell 1)
  clear hpo hb1 hw2 hp1 HS HB
  go_wp2
  rw [← HW2.out]
  refine wp_region_rel (noneT po (.agg #[.slice A n c, .int .i64 po.els])) (fun _ => none) (fun _ _ w' => Below w2.heap.size w2 w') (fun _ w w' => Below w.heap.size w w') (by kernel_rfl) (by kernel_rfl) (Below.refl _ _).drew (fun _ j _ _ _ _ _ _ hR hT => noneT_keep j hR hT) ?_
  iterate 2
    refine wpRel_step [] (by kernel_rfl) (fun L kk w9 vals hk hw hun hcl hdl hT => ?_) ?_
    · have HW := Lib.hid hw
      clear hw hun hcl hdl hT
      simp only [fillR, Act.put, List.setIfInBounds_toArray, List.set_cons_succ, List.set_cons_zero]
      have z0 := (HW.out.cell (p := ⟨w1.heap.size, 0, none⟩) hl2).trans y0; have z1 := (HW.out.cell (p := ⟨w1.heap.size, 1, none⟩) hl2).trans y1
      go_wp2
      exact ⟨_, rfl, rfl, HW.out, Below.refl _ _, fun _ => rfl⟩
    first
      | (refine wpRel_step [14] (by kernel_rfl) (fun L kk w9 vals hk hw hun hcl hdl hT => ?_) ?_
         · have t0 := hT 0 14 (by kernel_rfl) (.inl rfl)
           have HW := Lib.hid hw
           clear hw hun hcl hdl hT
           simp only [fillR, Act.put, List.setIfInBounds_toArray, List.set_cons_succ, List.set_cons_zero]
           rw [show vals 14 = Value.agg #[.slice A n c, .int .i64 po.els] from t0]
           clear t0
           go_wp2_with fail
           refine (iGraphMake_any po _ w9 (HP2.out.below HW.out) (HPW2.out.below HW.out)).mono ?_; rintro e w8 ⟨v8, g8, rfl, hs8, hg8, -, -, hbb⟩
           have HS8 := Lib.hid hs8; have HG8 := Lib.hid hg8; have HBB := Lib.hid hbb
           clear hs8 hg8 hbb
           go_wp2
           exact ⟨_, rfl, rfl, below_then HW.out HBB.out, HBB.out, fun _ => ⟨g8, HS8.out, HG8.out⟩⟩)
      | (refine wpRel_step [16] (by kernel_rfl) (fun L kk w9 vals hk hw hun hcl hdl hT => ?_) ?_
         · have t0 := hT 2 16 (by kernel_rfl) (.inl rfl)
           have HW := Lib.hid hw
           clear hw hun hcl hdl hT
           simp only [fillR, Act.put, List.setIfInBounds_toArray, List.set_cons_succ, List.set_cons_zero]
           rw [show vals 16 = Value.agg #[.slice A n c, .int .i64 po.els] from t0]
           clear t0
           go_wp2_with fail
           refine (sGraphMake_any po _ w9 (HP2.out.below HW.out)).mono ?_; rintro e w8 ⟨v8, g8, rfl, hs8, hg8, -, -, hbb⟩
           have HS8 := Lib.hid hs8; have HG8 := Lib.hid hg8; have HBB := Lib.hid hbb
           clear hs8 hg8 hbb
           go_wp2
           exact ⟨_, rfl, rfl, below_then HW.out HBB.out, HBB.out, fun _ => ⟨g8, HS8.out, HG8.out⟩⟩)
  refine wpRel_step [15, 17] (by kernel_rfl) (fun L kk w9 vals hk hw hun hcl hdl hT => ?_) ?_
  · have t1 := hT 1 15 (by kernel_rfl) (.inl rfl)
    have t3 := hT 3 17 (by kernel_rfl) (.inl rfl)
    obtain ⟨g1, hs1, hg1⟩ := t1
    obtain ⟨g3, hs3, hg3⟩ := t3
    obtain rfl := hg1.one hg3
    have HW := Lib.hid hw
    obtain ⟨u1, hu1⟩ : ∃ u1, u1 = vals 15 := ⟨_, rfl⟩
    obtain ⟨u3, hu3⟩ : ∃ u3, u3 = vals 17 := ⟨_, rfl⟩
    simp only [fillR, Act.put, List.setIfInBounds_toArray, List.set_cons_succ, List.set_cons_zero]
    rw [← hu1] at hs1 ⊢
    rw [← hu3] at hs3 ⊢
    have HS1 := Lib.hid hs1; have HS3 := Lib.hid hs3
    clear hw hun hcl hdl hT hs1 hs3 hg1 hg3 hu1 hu3
    go_wp2_with fail
    refine (wgGraph_any u1 u3 g1 g1 w9 HS1.out HS3.out).mono ?_; rintro e w8 ⟨rfl, hbb⟩
    rw [ptsEqG_same]
    have HBB := Lib.hid hbb
    clear hbb
    go_wp2
    exact ⟨_, rfl, rfl, below_then HW.out HBB.out, HBB.out, fun _ => rfl⟩
  refine wpRel_step [18] (by kernel_rfl) (fun L kk w9 vals hk hw hun hcl hdl hT => ?_) ?_
  · have t4 := hT 4 18 (by kernel_rfl) (.inl rfl)
    have HW := Lib.hid hw
    clear hw hun hcl hdl hT
    simp only [fillR, Act.put, List.setIfInBounds_toArray, List.set_cons_succ, List.set_cons_zero]
    rw [show vals 18 = Value.bool true from t4]
    clear t4
    go_wp2
    exact ⟨_, rfl, rfl, HW.out, Below.refl _ _, fun _ => rfl⟩
  refine wpRel_step [19] (by kernel_rfl) (fun L kk w9 vals hk hw hun hcl hdl hT => ?_) ?_
  · have t4 := hT 5 19 (by kernel_rfl) (.inl rfl)
    have HW := Lib.hid hw
    clear hw hun hcl hdl hT
    simp only [fillR, Act.put, List.setIfInBounds_toArray, List.set_cons_succ, List.set_cons_zero]
    rw [show vals 19 = Value.bool false from t4]
    clear t4
    go_wp2
    exact ⟨_, rfl, rfl, HW.out, Below.refl _ _, fun _ => rfl⟩
  refine wpRel_step [20] (by kernel_rfl) (fun L kk w9 vals hk hw hun hcl hdl hT => ?_) ?_
  · have t4 := hT 6 20 (by kernel_rfl) (.inl rfl)
    have HW := Lib.hid hw
    clear hw hun hcl hdl hT
    simp only [fillR, Act.put, List.setIfInBounds_toArray, List.set_cons_succ, List.set_cons_zero]
    rw [show vals 20 = Value.bool false from t4]
    clear t4
    have z0 := (HW.out.cell (p := ⟨w1.heap.size, 0, none⟩) hl2).trans y0; have z1 := (HW.out.cell (p := ⟨w1.heap.size, 1, none⟩) hl2).trans y1
    go_wp2
    exact ⟨_, rfl, rfl, HW.out, Below.refl _ _, fun _ => rfl⟩
  refine wpRel_step [20, 21] (by kernel_rfl) (fun L kk w9 vals hk hw hun hcl hdl hT => ?_) ?_
  · have t4 := hT 6 20 (by kernel_rfl) (.inl rfl)
    have t5 := hT 7 21 (by kernel_rfl) (.inl rfl)
    have HW := Lib.hid hw
    clear hw hun hcl hdl hT
    simp only [fillR, Act.put, List.setIfInBounds_toArray, List.set_cons_succ, List.set_cons_zero]
    rw [show vals 20 = Value.bool false from t4, show vals 21 = Value.agg #[.slice A n c, .int .i64 po.els] from t5]
    clear t4 t5
    go_wp2_with fail
    refine (PolicyOk_any po _ w9 (HP2.out.below HW.out)).mono ?_; rintro e w8 ⟨rfl, hbb⟩
    have HBB := Lib.hid hbb
    clear hbb
    go_wp2
    exact ⟨_, rfl, rfl, below_then HW.out HBB.out, HBB.out, fun _ => rfl⟩
  refine wpRel_step [20, 22] (by kernel_rfl) (fun L kk w9 vals hk hw hun hcl hdl hT => ?_) ?_
  · have t4 := hT 6 20 (by kernel_rfl) (.inl rfl)
    have t5 := hT 8 22 (by kernel_rfl) (.inl rfl)
    have HW := Lib.hid hw
    clear hw hun hcl hdl hT
    simp only [fillR, Act.put, List.setIfInBounds_toArray, List.set_cons_succ, List.set_cons_zero]
    rw [show vals 20 = Value.bool false from t4, show vals 22 = Value.bool (polOkB po) from t5]
    clear t4 t5
    go_wp2
    exact ⟨_, rfl, rfl, HW.out, Below.refl _ _, fun _ => rfl⟩
  refine wpRel_step [20, 23] (by kernel_rfl) (fun L kk w9 vals hk hw hun hcl hdl hT => ?_) ?_
  · have t4 := hT 6 20 (by kernel_rfl) (.inl rfl)
    have t5 := hT 9 23 (by kernel_rfl) (.inl rfl)
    have HW := Lib.hid hw
    clear hw hun hcl hdl hT
    simp only [fillR, Act.put, List.setIfInBounds_toArray, List.set_cons_succ, List.set_cons_zero]
    rw [show vals 20 = Value.bool false from t4, show vals 23 = Value.bool (!polOkB po) from t5]
    clear t4 t5
    go_wp2
    exact ⟨_, rfl, rfl, HW.out, Below.refl _ _, fun _ => rfl⟩
  refine wpRel_end [14, 15, 16, 17, 18, 19, 20, 21, 22, 23, 24] (by kernel_rfl) (fun L w3 vals _ hw hT => ?_)
  have t4 := hT 10 24 (by kernel_rfl) rfl
  simp only [fillR, Act.put, List.setIfInBounds_toArray, List.set_cons_succ, List.set_cons_zero]
  rw [show vals 24 = Value.bool (!polOkB po) from t4]
  have HB3 := Lib.hid (below_then HB2.out hw); have HP3 := Lib.hid (HP2.out.below hw); have K3 := Lib.hid (K2.out.below hw K2.out.lt)
  have HPW3 : Hid (Pow w3) := Lib.hid (HPW.out.below HB3.out)
  have hl3 : w1.heap.size < w3.heap.size := K3.out.lt
  clear t4 hw hT y0 y1 hl2 HW2 HPW2 HP2 HB2 K2
  have y0 := (show _ = some (Value.slice A n c) from K3.out.cell 0); have y1 := (show _ = some (Value.int .i64 po.els) from K3.out.cell 1)
  cases hpk : polOkB po with
  | false =>
    go_wp2
    refine wp_region_rel (noneT2 po (.agg #[.slice A n c, .int .i64 po.els])) (fun _ => none) (fun _ _ w' => Below w3.heap.size w3 w') (fun _ w w' => Below w.heap.size w w') (by kernel_rfl) (by kernel_rfl) (Below.refl _ _).drew (fun _ j _ _ _ _ _ _ hR hT => noneT2_keep j hR hT) ?_
    refine wpRel_step [] (by kernel_rfl) (fun L kk w9 vals hk hw hun hcl hdl hT => ?_) ?_
    · have HW := Lib.hid hw
      clear hw hun hcl hdl hT
      simp only [fillR, Act.put, List.setIfInBounds_toArray, List.set_cons_succ, List.set_cons_zero]
      have z0 := (HW.out.cell (p := ⟨w1.heap.size, 0, none⟩) hl3).trans y0; have z1 := (HW.out.cell (p := ⟨w1.heap.size, 1, none⟩) hl3).trans y1
      go_wp2
      exact ⟨_, rfl, rfl, HW.out, Below.refl _ _, fun _ => rfl⟩
    refine wpRel_step [25] (by kernel_rfl) (fun L kk w9 vals hk hw hun hcl hdl hT => ?_) ?_
    · have t0 := hT 0 25 (by kernel_rfl) (.inl rfl)
      have HW := Lib.hid hw
      clear hw hun hcl hdl hT
      simp only [fillR, Act.put, List.setIfInBounds_toArray, List.set_cons_succ, List.set_cons_zero]
      rw [show vals 25 = Value.agg #[.slice A n c, .int .i64 po.els] from t0]
      clear t0
      go_wp2_with fail
      refine (iGraphMake_any po _ w9 (HP3.out.below HW.out) (HPW3.out.below HW.out)).mono ?_; rintro e w8 ⟨v8, g8, rfl, hs8, hg8, -, -, hbb⟩
      have HS8 := Lib.hid hs8; have HG8 := Lib.hid hg8; have HBB := Lib.hid hbb
      clear hs8 hg8 hbb
      go_wp2
      exact ⟨_, rfl, rfl, below_then HW.out HBB.out, HBB.out, fun _ => ⟨g8, HS8.out, HG8.out⟩⟩
    refine wpRel_step [] (by kernel_rfl) (fun L kk w9 vals hk hw hun hcl hdl hT => ?_) ?_
    · have HW := Lib.hid hw
      clear hw hun hcl hdl hT
      simp only [fillR, Act.put, List.setIfInBounds_toArray, List.set_cons_succ, List.set_cons_zero]
      have z0 := (HW.out.cell (p := ⟨w1.heap.size, 0, none⟩) hl3).trans y0; have z1 := (HW.out.cell (p := ⟨w1.heap.size, 1, none⟩) hl3).trans y1
      go_wp2
      exact ⟨_, rfl, rfl, HW.out, Below.refl _ _, fun _ => rfl⟩
    refine wpRel_step [27] (by kernel_rfl) (fun L kk w9 vals hk hw hun hcl hdl hT => ?_) ?_
    · have t0 := hT 2 27 (by kernel_rfl) (.inl rfl)
      have HW := Lib.hid hw
      clear hw hun hcl hdl hT
      simp only [fillR, Act.put, List.setIfInBounds_toArray, List.set_cons_succ, List.set_cons_zero]
      rw [show vals 27 = Value.agg #[.slice A n c, .int .i64 po.els] from t0]
      clear t0
      go_wp2_with fail
      refine (sGraphMake_any po _ w9 (HP3.out.below HW.out)).mono ?_; rintro e w8 ⟨v8, g8, rfl, hs8, hg8, -, -, hbb⟩
      have HS8 := Lib.hid hs8; have HG8 := Lib.hid hg8; have HBB := Lib.hid hbb
      clear hs8 hg8 hbb
      go_wp2
      exact ⟨_, rfl, rfl, below_then HW.out HBB.out, HBB.out, fun _ => ⟨g8, HS8.out, HG8.out⟩⟩
    refine wpRel_step [26, 28] (by kernel_rfl) (fun L kk w9 vals hk hw hun hcl hdl hT => ?_) ?_
    · have t1 := hT 1 26 (by kernel_rfl) (.inl rfl)
      have t3 := hT 3 28 (by kernel_rfl) (.inl rfl)
      obtain ⟨g1, hs1, hg1⟩ := t1
      obtain ⟨g3, hs3, hg3⟩ := t3
      obtain rfl := hg1.one hg3
      have HW := Lib.hid hw
      obtain ⟨u1, hu1⟩ : ∃ u1, u1 = vals 26 := ⟨_, rfl⟩
      obtain ⟨u3, hu3⟩ : ∃ u3, u3 = vals 28 := ⟨_, rfl⟩
      simp only [fillR, Act.put, List.setIfInBounds_toArray, List.set_cons_succ, List.set_cons_zero]
      rw [← hu1] at hs1 ⊢
      rw [← hu3] at hs3 ⊢
      have HS1 := Lib.hid hs1; have HS3 := Lib.hid hs3
      clear hw hun hcl hdl hT hs1 hs3 hg1 hg3 hu1 hu3
      go_wp2_with fail
      refine (wgGraph_any u1 u3 g1 g1 w9 HS1.out HS3.out).mono ?_; rintro e w8 ⟨rfl, hbb⟩
      rw [ptsEqG_same]
      have HBB := Lib.hid hbb
      clear hbb
      go_wp2
      exact ⟨_, rfl, rfl, below_then HW.out HBB.out, HBB.out, fun _ => rfl⟩
    refine wpRel_step [29] (by kernel_rfl) (fun L kk w9 vals hk hw hun hcl hdl hT => ?_) ?_
    · have t4 := hT 4 29 (by kernel_rfl) (.inl rfl)
      have HW := Lib.hid hw
      clear hw hun hcl hdl hT
      simp only [fillR, Act.put, List.setIfInBounds_toArray, List.set_cons_succ, List.set_cons_zero]
      rw [show vals 29 = Value.bool true from t4]
      clear t4
      go_wp2
      exact ⟨_, rfl, rfl, HW.out, Below.refl _ _, fun _ => rfl⟩
    refine wpRel_end [25, 26, 27, 28, 29, 2] (by kernel_rfl) (fun L w4 vals _ hw hT => ?_)
    have t4 := hT 5 2 (by kernel_rfl) rfl
    simp only [fillR, Act.put, List.setIfInBounds_toArray, List.set_cons_succ, List.set_cons_zero]
    rw [show vals 2 = Value.bool true from t4]
    have HB4 := Lib.hid (below_then HB3.out hw)
    clear t4 hw hT y0 y1
    go_wp2
    go_ret
    exact ⟨rfl, HB4.out⟩
  | true =>
    have HOK := Lib.hid hpk
    obtain ⟨rv, css, hrv, hsl, hra⟩ := HP3.out
    simp at hrv
    obtain rfl := hrv
    obtain ⟨A', n', c', hA', hSA⟩ := hsl
    obtain ⟨rfl, rfl, rfl⟩ : A = A' ∧ n = n' ∧ c = c' := by simpa using hA'
    have hcl : css.length = n := hSA.len
    have hn8 : n ≤ 8 := by rw [← hcl, hra.1]; exact (polShapeB_words (polOkB_shape hpk).1).1
    have HSA := Lib.hid hSA; have HRA := Lib.hid hra; have HROW := Lib.hid hra.rows; have HCL := Lib.hid hcl
    clear hSA hra hcl hA' hpk
    go_upto_region 6 with (fail)
    refine wp_region_rel (sixT w1.heap.size A n c w3.heap.size po.els css.flatten) (fun _ => none) (fun L _ w' => SixI w3 L w') (fun _ w w' => sixR w3.heap.size po.els n css.flatten w w') (by kernel_rfl) (by kernel_rfl) (SixI.start w3) (fun _ j _ _ _ _ _ _ hR hT => sixT_keep j hR hT) ?_
    refine wpRel_step [] (by kernel_rfl) (fun L kk w9 vals hk hw hun hcl hdl hT => ?_) ?_
    · have HW := Lib.hid hw
      clear hw hun hcl hdl hT
      simp only [fillR, Act.put, List.setIfInBounds_toArray, List.set_cons_succ, List.set_cons_zero]
      go_wp2
      exact ⟨_, rfl, rfl, HW.out.put (by decide) (by decide), sixR.refl _ _ _ _ _, fun _ => rfl⟩
    refine wpRel_step [30] (by kernel_rfl) (fun L kk w9 vals hk hw hun hcl hdl hT => ?_) ?_
    · have t0 := hT 0 30 (by kernel_rfl) (.inl rfl)
      have HW := Lib.hid hw
      clear hw hun hcl hdl hT
      simp only [fillR, Act.put, List.setIfInBounds_toArray, List.set_cons_succ, List.set_cons_zero]
      rw [show vals 30 = Value.pointer (some ⟨w1.heap.size, 1, none⟩) from t0]
      clear t0
      have z1 := (HW.out.below.cell (p := ⟨w1.heap.size, 1, none⟩) hl3).trans y1
      go_wp2
      exact ⟨_, rfl, rfl, HW.out.put (by decide) (by decide), sixR.refl _ _ _ _ _, fun _ => rfl⟩
    refine wpRel_step [] (by kernel_rfl) (fun L kk w9 vals hk hw hun hcl hdl hT => ?_) ?_
    · have HW := Lib.hid hw
      clear hw hun hcl hdl hT
      simp only [fillR, Act.put, List.setIfInBounds_toArray, List.set_cons_succ, List.set_cons_zero]
      go_wp2
      exact ⟨_, rfl, rfl, HW.out.empty, sixR.below (by go_grown), fun _ => ⟨w9.heap.size, rfl, HW.out.below.size, Blk.new _ _ _⟩⟩
    refine wpRel_step [] (by kernel_rfl) (fun L kk w9 vals hk hw hun hcl hdl hT => ?_) ?_
    · have HW := Lib.hid hw
      clear hw hun hcl hdl hT
      simp only [fillR, Act.put, List.setIfInBounds_toArray, List.set_cons_succ, List.set_cons_zero]
      go_wp2
      exact ⟨_, rfl, rfl, HW.out.put (by decide) (by decide), sixR.refl _ _ _ _ _, fun _ => rfl⟩
    refine wpRel_step [33] (by kernel_rfl) (fun L kk w9 vals hk hw hun hcl hdl hT => ?_) ?_
    · have t0 := hT 3 33 (by kernel_rfl) (.inl rfl)
      have HW := Lib.hid hw
      clear hw hun hcl hdl hT
      simp only [fillR, Act.put, List.setIfInBounds_toArray, List.set_cons_succ, List.set_cons_zero]
      rw [show vals 33 = Value.pointer (some ⟨w1.heap.size, 0, none⟩) from t0]
      clear t0
      have z0 := (HW.out.below.cell (p := ⟨w1.heap.size, 0, none⟩) hl3).trans y0
      go_wp2
      exact ⟨_, rfl, rfl, HW.out.put (by decide) (by decide), sixR.refl _ _ _ _ _, fun _ => rfl⟩
    refine wpRel_step [32, 34] (by kernel_rfl) (fun L kk w9 vals hk hw hun hcl hdl hT => ?_) ?_
    · have t2 := hT 2 32 (by kernel_rfl) (.inl rfl)
      have t4 := hT 4 34 (by kernel_rfl) (.inl rfl)
      obtain ⟨k2, e2, hk2, hB2⟩ := t2
      have HW := Lib.hid hw; have HBK := Lib.hid hB2
      clear hw hun hcl hdl hT hB2
      simp only [fillR, Act.put, List.setIfInBounds_toArray, List.set_cons_succ, List.set_cons_zero]
      rw [e2, show vals 34 = Value.slice A n c from t4]
      clear t4 e2
      go_wp2_with (at_builtin; go_must (refine wpList_append_fresh rfl (.tmp 32) (.tmp 34) _ rfl TRul Tryd.underlying23 info_RuleM rfl k2 w3.heap.size n c A css rfl rfl HBK.out hk2 (HSA.out.below HW.out.below) HROW.out (by omega) (by omega) (by omega) ?_); intro g7 c7 w7 ho7 hb7 ht7; have HO7 := Lib.hid ho7; have HB7 := Lib.hid hb7; have HT7 := Lib.hid ht7; clear ho7 hb7 ht7)
      exact ⟨_, rfl, rfl, HW.out.more HB7.out HT7.out (by decide) (by decide), sixR.below HB7.out, fun _ => ⟨g7, c7, rfl, HO7.out⟩⟩
    refine wpRel_step [31, 35] (by kernel_rfl) (fun L kk w9 vals hk hw hun hcl hdl hT => ?_) ?_
    · have t1 := hT 1 31 (by kernel_rfl) (.inl rfl)
      have t5 := hT 5 35 (by kernel_rfl) (.inl rfl)
      obtain ⟨g5, c5, e5, ho5⟩ := t5
      have HW := Lib.hid hw; have HO := Lib.hid ho5
      clear hw hun hcl hdl hT ho5
      simp only [fillR, Act.put, List.setIfInBounds_toArray, List.set_cons_succ, List.set_cons_zero]
      rw [e5, show vals 31 = Value.int .i64 po.els from t1]
      clear t1 e5
      go_wp2
      exact ⟨_, rfl, rfl, HW.out.put (by decide) (by decide), sixR.refl _ _ _ _ _, fun _ => ⟨g5, c5, rfl, HO.out⟩⟩
    refine wpRel_step [] (by kernel_rfl) (fun L kk w9 vals hk hw hun hcl hdl hT => ?_) ?_
    · have h8 := hcl 8 (by kernel_rfl)
      have HW := Lib.hid hw
      clear hw hcl hdl hT
      simp only [fillR, Act.put, List.setIfInBounds_toArray, List.set_cons_succ, List.set_cons_zero]
      go_wp2
      exact ⟨_, rfl, rfl, HW.out.made hun h8, sixR.below (by go_grown), fun _ => ⟨w9.heap.size, rfl, HW.out.below.size, .inl (Blk.new _ _ _)⟩⟩
    refine wpRel_step [4, 36] (by kernel_rfl) (fun L kk w9 vals hk hw hun hcl hdl hT => ?_) ?_
    · have t7 := hT 7 4 (by kernel_rfl) (.inl rfl)
      have t6 := hT 6 36 (by kernel_rfl) (.inl rfl)
      obtain ⟨k7, e7, hk7, hB7⟩ := t7
      obtain ⟨g6, c6, e6, ho6⟩ := t6
      have h7 := hdl 7 (by kernel_rfl)
      have HS := Lib.hid (hw.stored h7 hk7 hB7 ho6)
      obtain ⟨a7, b7, hB⟩ : ∃ a b, Blk w9 k7 TPol #[a, b] := by
        rcases hB7 with hb | ⟨g', c', hb, _⟩
        · exact ⟨_, _, hb⟩
        · exact ⟨_, _, hb⟩
      have x0 := (show _ = some a7 from hB.cell 0); have x1 := (show _ = some b7 from hB.cell 1); have f0 := hB.frozen 0; have f1 := hB.frozen 1
      clear hw hun hcl hdl hT hB7 ho6 h7 hB
      simp only [fillR, Act.put, List.setIfInBounds_toArray, List.set_cons_succ, List.set_cons_zero]
      rw [e7, e6]
      clear e7 e6
      go_wp2
      exact ⟨undef, rfl, rfl, HS.out.1, HS.out.2, fun h => absurd rfl h⟩
    refine wpRel_end [30, 31, 32, 33, 34, 35, 36, 4] (by kernel_rfl) (fun L w4 vals hl hw hT => ?_)
    have t0 := hT 0 30 (by kernel_rfl) rfl; have t1 := hT 1 31 (by kernel_rfl) rfl; have t2 := hT 2 32 (by kernel_rfl) rfl; have t3 := hT 3 33 (by kernel_rfl) rfl
    have t4 := hT 4 34 (by kernel_rfl) rfl; have t5 := hT 5 35 (by kernel_rfl) rfl; have t6 := hT 6 36 (by kernel_rfl) rfl; have t7 := hT 7 4 (by kernel_rfl) rfl
    obtain ⟨k, e7, hk, hB7⟩ := t7
    obtain ⟨g, c4, hB4, ho4⟩ : FilledP w4 w3.heap.size po.els n css.flatten k := by
      rcases hB7 with h | h
      · exact absurd h (hw.done (hl 8 (by decide)) k hk)
      · exact h
    have HL4 := Lib.hid (show LoopN w3 w4 k g n c4 po.els css 0 from ⟨hw.below, hk, hB4, by rw [vsetTo_zero]; exact ho4⟩)
    simp only [fillR, Act.put, List.setIfInBounds_toArray, List.set_cons_succ, List.set_cons_zero]
    rw [e7]
    obtain ⟨u30, hu30⟩ : ∃ u, u = vals 30 := ⟨_, rfl⟩; obtain ⟨u31, hu31⟩ : ∃ u, u = vals 31 := ⟨_, rfl⟩; obtain ⟨u32, hu32⟩ : ∃ u, u = vals 32 := ⟨_, rfl⟩; obtain ⟨u33, hu33⟩ : ∃ u, u = vals 33 := ⟨_, rfl⟩
    obtain ⟨u34, hu34⟩ : ∃ u, u = vals 34 := ⟨_, rfl⟩; obtain ⟨u35, hu35⟩ : ∃ u, u = vals 35 := ⟨_, rfl⟩; obtain ⟨u36, hu36⟩ : ∃ u, u = vals 36 := ⟨_, rfl⟩
    rw [← hu30, ← hu31, ← hu32, ← hu33, ← hu34, ← hu35, ← hu36]
    clear t0 t1 t2 t3 t4 t5 t6 e7 hB7 hl hw hT hB4 ho4 hu30 hu31 hu32 hu33 hu34 hu35 hu36 y0 y1
    go_wp2_with fail
    go_loopw [5] (fun i wr => ∃ m : Nat, m ≤ n ∧ i = .int .i64 m ∧ LoopN w3 wr k g n c4 po.els css m) (fun i _ => n - (intOf i).toNat)
    case atStart => exact ⟨0, by omega, rfl, HL4.out⟩
    case round =>
      obtain ⟨m, hm, rfl, hL⟩ := hrel
      have HL := Lib.hid hL
      have p0 := (show _ = some (Value.slice (some ⟨g, 0, none⟩) n c4) from hL.blk.cell 0); have p1 := (show _ = some (Value.int .i64 po.els) from hL.blk.cell 1)
      clear hL
      by_cases hlt : m < n
      · have hmi : (m : Int) < n := by omega
        have z1 := (HL.out.below.cell (p := ⟨w1.heap.size, 1, none⟩) hl3).trans (show _ = some (Value.int .i64 po.els) from K3.out.cell 1)
        obtain ⟨⟨u, q0⟩, q1, q2⟩ := HL.out.cell HROW.out HCL.out hlt
        have HNX := Lib.hid (HL.out.step HROW.out HCL.out hlt)
        have hg0 := (HL.out.own.lt g rfl).1
        go_wp2
        exact ⟨⟨m + 1, by omega, by go_num, HNX.out⟩, by simp [intOf]; omega⟩
      · obtain rfl : m = n := by omega
        have hmi : ¬ (m : Int) < m := by omega
        have HPX := Lib.hid (HL.out.pol HRA.out HROW.out HCL.out)
        have HBX := Lib.hid (below_then HB3.out HL.out.below)
        have HPWX : Hid (Pow wr) := Lib.hid (HPW.out.below HBX.out)
        have HKX := Lib.hid HL.out.blk
        have z1 := (HL.out.below.cell (p := ⟨w1.heap.size, 1, none⟩) hl3).trans (show _ = some (Value.int .i64 po.els) from K3.out.cell 1)
        have hl4 : w1.heap.size < wr.heap.size := Nat.lt_of_lt_of_le hl3 HL.out.below.size
        clear hlt
        go_wp2_with fail
        refine (PolicyOk_any (oneV po) _ wr HPX.out).mono ?_; rintro e w5 ⟨rfl, hb5⟩
        have HB5 := Lib.hid hb5
        clear hb5
        cases hq : polOkB (oneV po) with
        | false =>
          have HEND := Lib.hid (below_then HBX.out HB5.out)
          clear p0 p1 z1
          go_wp2
          go_ret
          exact ⟨rfl, HEND.out⟩
        | true =>
          have HQ := Lib.hid hq
          replace p0 := (HB5.out.cell (p := ⟨k, 0, none⟩) HKX.out.lt).trans p0
          replace p1 := (HB5.out.cell (p := ⟨k, 1, none⟩) HKX.out.lt).trans p1
          replace z1 := (HB5.out.cell (p := ⟨w1.heap.size, 1, none⟩) hl4).trans z1
          clear hq
          go_wp2_with fail
          refine (iGraphMake_any (oneV po) _ w5 (HPX.out.below HB5.out) (HPWX.out.below HB5.out)).mono ?_; rintro e w6 ⟨v6, g6, rfl, hs6, hg6, -, -, hb6⟩
          obtain rfl := graph_ve HQ.out (oneV_all po) hg6
          obtain ⟨A6, n6, c6, rfl, hA6⟩ := hs6
          obtain rfl : 1 = n6 := hA6.len
          have HA6 := Lib.hid hA6; have HB6 := Lib.hid (below_then HB5.out hb6)
          replace p0 := (hb6.cell (p := ⟨k, 0, none⟩) (Nat.lt_of_lt_of_le HKX.out.lt HB5.out.size)).trans p0
          replace p1 := (hb6.cell (p := ⟨k, 1, none⟩) (Nat.lt_of_lt_of_le HKX.out.lt HB5.out.size)).trans p1
          replace z1 := (hb6.cell (p := ⟨w1.heap.size, 1, none⟩) (Nat.lt_of_lt_of_le hl4 HB5.out.size)).trans z1
          clear hA6 hb6 hg6
          go_wp2_with fail
          refine (iMakeCode_any (oneV po) _ w6 (HPX.out.below HB6.out) (HPWX.out.below HB6.out)).mono ?_; rintro e w7 ⟨v7, x7, ok7, b7, rfl, hc7, hbs7, ho7, hb7⟩
          obtain ⟨rfl, hx7⟩ := code_ve HQ.out (oneV_all po) hc7
          rw [hx7] at ho7
          obtain ⟨g7, c7, rfl, -, -⟩ := ho7.form (by omega)
          have HB7 := Lib.hid (below_then HB6.out hb7)
          have HA7 := Lib.hid (HA6.out.below hb7)
          replace z1 := (hb7.cell (p := ⟨w1.heap.size, 1, none⟩) (Nat.lt_of_lt_of_le hl4 HB6.out.size)).trans z1
          obtain ⟨b6, off6, pt, rfl, hb6l, hpt, hat⟩ := pts_get HA7.out (k := 0) (by omega)
          obtain rfl : pt = Ve (oneV po).els := by simpa using hpt.symm
          have q0 := (show w7.cell? ⟨b6, off6, none⟩ = some (Value.int .i64 po.els) from (hat w7 _ (Below.refl _ _) hb6l).1)
          have HEND := Lib.hid (below_then HBX.out HB7.out)
          clear p0 p1 hb7 ho7 hc7 hpt hat
          have hl7 : w1.heap.size < w7.heap.size := Nat.lt_of_lt_of_le hl4 HB7.out.size
          go_wp2
          refine wp_region_fixed (fun w' => Below w7.heap.size w7 w') (by kernel_rfl) (by kernel_rfl) (Below.refl _ _).drew ?_
          iterate 21
            apply wpFx_step
            case h =>
              intro wf hw
              have H9 := Lib.hid hw
              have z1' := (hw.cell (p := ⟨w1.heap.size, 1, none⟩) hl7).trans z1
              have q0' := (hw.cell (p := ⟨b6, off6, none⟩) hb6l).trans q0
              clear hw
              go_wp2
              exact ⟨rfl, rfl, H9.out⟩
          refine wpFx_end (fun wf hw => ?_)
          have HFIN := Lib.hid (below_then HEND.out hw)
          clear hw q0 z1
          go_wp2
          go_ret
          exact ⟨rfl, HFIN.out⟩
end Go.Proofs.YtbgoppfanibdiaaDoor
