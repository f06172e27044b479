/- How the laws draw books: DrawBookOk, DrawBookAdd; laws.wgBook of two that are the same. -/
import Derived.Test.YtaieopdfkapgdaaDoorDrawBook2
import Derived.Test.YtaieopdfkapgdaaDoorRdOpen
import Derived.RegionTactic
import Derived.BigRegion
namespace Go.Proofs.YtaieopdfkapgdaaDoor
open Go.RowKit
set_option linter.unusedSimpArgs false
set_option linter.unusedVariables false

theorem DrawBookOk_any (v : Value) (ys : List Int) (w : World) (hs : Sl w 1 v (u8s ys)) (hb : ∀ y ∈ ys, 0 ≤ y ∧ y ≤ 255) :
    Calls Tryd.prog 8 #[v] w fun e w' => ∃ (u : Value) (b : List Ln), e = .returned u ∧ FarBk w' w.heap.size u b ∧ (∀ ln ∈ b, medT ln.told) ∧ b.length ≤ 41 ∧ Below w.heap.size w w' := by
  go_enter Tryd.func8, Tryd.ntmps8
  go_wp2_with fail
  refine (l1Open_any v ys _ hs hb).mono ?_; rintro e w1 ⟨rfl, r1, b1⟩
  have hg1 := r1.lt
  have HB1 := Lib.hid b1
  go_wp2_with fail
  refine (l16AnyBook_any w.heap.size 0 w1 r1 (by omega)).mono ?_; rintro e w2 ⟨u, b, q, rfl, hF, hM, hl, g2, r2, hq⟩
  have HF := Lib.hid hF; have HM := Lib.hid hM; have HG2 := Lib.hid g2
  clear hF hM g2 r1 r2 b1
  go_wp2
  go_ret
  obtain ⟨css, q1, q2, q3⟩ := HF.out
  refine ⟨_, b, rfl, ⟨css, own_base q1 (Nat.le_of_lt hg1), q2, fun i ln cs e1 e2 => ?_⟩, HM.out, hl, HB1.out.trans (below_of_grown HG2.out (Nat.le_refl _) hg1)⟩
  obtain ⟨av, e, hf⟩ := q3 i ln cs e1 e2
  exact ⟨av, e, hf.low (Nat.le_of_lt hg1)⟩

theorem FarBk.low {w : World} {base base' : Nat} {v : Value} {b : List Ln} (h : FarBk w base v b) (hh : base' ≤ base) : FarBk w base' v b := by
  obtain ⟨css, q1, q2, q3⟩ := h
  refine ⟨css, own_base q1 hh, q2, fun i ln cs e1 e2 => ?_⟩
  obtain ⟨av, e, hf⟩ := q3 i ln cs e1 e2
  exact ⟨av, e, hf.low hh⟩
theorem stored5 {w X : World} {base base2 : Nat} {u av : Value} {b : List Ln} {xs : List Int} (hF : FarBk X base u b) (hA : FarSl X base2 av xs) (h1 : w.heap.size < base) (h2 : w.heap.size < base2) (hB : Below w.heap.size w X) (a0 a1 a2 a3 a4 : Value) :
    let Y := (((((X.setCell ⟨w.heap.size, 0, none⟩ a0).setCell ⟨w.heap.size, 1, none⟩ a1).setCell ⟨w.heap.size, 2, none⟩ a2).setCell ⟨w.heap.size, 3, none⟩ a3).setCell ⟨w.heap.size, 4, none⟩ a4).drew
    FarBk Y w.heap.size u b ∧ Sl Y 1 av (ints xs) ∧ Below w.heap.size w Y := by
  intro Y
  have hg : X.grownBy Y (some w.heap.size) := (((((grown_set X w.heap.size 0 a0).trans (grown_set _ w.heap.size 1 a1)).trans (grown_set _ w.heap.size 2 a2)).trans (grown_set _ w.heap.size 3 a3)).trans (grown_set _ w.heap.size 4 a4)).trans (grown_drew _ _)
  exact ⟨(hF.grown hg h1).low (Nat.le_of_lt h1), (hA.grown hg h2).sl, ((((((hB.setCell (p := ⟨w.heap.size, 0, none⟩) (Nat.le_refl _) a0).setCell (p := ⟨w.heap.size, 1, none⟩) (Nat.le_refl _) a1).setCell (p := ⟨w.heap.size, 2, none⟩) (Nat.le_refl _) a2).setCell (p := ⟨w.heap.size, 3, none⟩) (Nat.le_refl _) a3).setCell (p := ⟨w.heap.size, 4, none⟩) (Nat.le_refl _) a4)).drew⟩

set_option maxRecDepth 100000 in
set_option maxHeartbeats 8000000 in
theorem DrawBookAdd_any (v : Value) (ys : List Int) (w : World) (hs : Sl w 1 v (u8s ys)) (hb : ∀ y ∈ ys, 0 ≤ y ∧ y ≤ 255) :
    Calls Tryd.prog 18 #[v] w fun e w' => ∃ (u : Value) (b : List Ln) (t : Tl) (av : Value), e = .returned (.tuple #[u, .agg #[.int .i64 t.gate, .int .i64 t.epoch, .int .i64 t.num, av, .int .i64 t.verdict]]) ∧ FarBk w' w.heap.size u b ∧ (∀ ln ∈ b, medT ln.told) ∧ b.length ≤ 41 ∧ smallT t ∧ Sl w' 1 av (ints t.args) ∧ Below w.heap.size w w' := by
  obtain ⟨W0, hW0⟩ : ∃ W0, W0 = w.alloc (.cells #[.int .i64 0, .int .i64 0, .int .i64 0, .slice none 0 0, .int .i64 0] 30) := ⟨_, rfl⟩
  have hb0 : Below w.heap.size w W0 := by rw [hW0]; go_grown
  have B0 : Blk W0 w.heap.size 30 #[.int .i64 0, .int .i64 0, .int .i64 0, .slice none 0 0, .int .i64 0] := by rw [hW0]; exact Blk.new _ _ _
  have HW0 := Lib.hid hW0; have HB0 := Lib.hid hb0; have HBK := Lib.hid B0; have HSV := Lib.hid (hs.below hb0); have HYB := Lib.hid hb
  have hl0 : w.heap.size < W0.heap.size := B0.lt
  clear hW0 hb0 B0 hs hb
  go_enter Tryd.func18, Tryd.ntmps18
  go_wp2_with fail
  rw [← HW0.out]
  refine (l1Open_any v ys _ HSV.out HYB.out).mono ?_; rintro e w1 ⟨rfl, r1, b1⟩
  obtain ⟨g, hg⟩ : ∃ g, g = W0.heap.size := ⟨_, rfl⟩
  rw [← hg] at r1 ⊢
  have hg1 := r1.lt
  have hwg : w.heap.size < g := by omega
  have HB1 := Lib.hid (below_then HB0.out b1); have HBK1 := Lib.hid (HBK.out.below b1 hl0); have HR1 := Lib.hid r1
  clear r1 b1 hg
  go_wp2_with fail
  refine (l16AnyBook_any g 0 w1 HR1.out (by omega)).mono ?_; rintro e w2 ⟨u, b, q, rfl, hF, hM, hl, g2, r2, hq⟩
  have HF := Lib.hid hF; have HM := Lib.hid hM; have HR2 := Lib.hid r2
  have HB2 := Lib.hid (HB1.out.trans (below_of_grown g2 (Nat.le_of_lt hwg) hg1))
  have HBK2 := Lib.hid (HBK1.out.grown g2 (by intro e; cases e; omega))
  have hz2 : w1.heap.size ≤ w2.heap.size := g2.size
  clear hF hM g2 r2
  go_wp2_with fail
  refine (l16Told_any g q w2 HR2.out (by omega)).mono ?_; rintro e w3 ⟨t, av, q3, rfl, hts, hco, o3, g3, r3, hq3⟩
  obtain ⟨A3, n3, c3, rfl, -⟩ := SlA.of_own o3 ((ints_len t.args).trans hco.2.1) (ints_rows _)
  have HGX3 := Lib.hid g3
  have HTS := Lib.hid hts; have HF3 := Lib.hid (HF.out.grown g3 hg1)
  have HB3 := Lib.hid (HB2.out.trans (below_of_grown g3 (Nat.le_of_lt hwg) (by omega)))
  have HBK3 := Lib.hid (HBK2.out.grown g3 (by intro e; cases e; omega))
  have HO3 := Lib.hid o3; have HCO := Lib.hid hco
  have hz3 : w2.heap.size ≤ w3.heap.size := g3.size
  obtain ⟨W4, hW4⟩ : ∃ W4, W4 = w3.alloc (.cells #[.int .i64 t.gate, .int .i64 t.epoch, .int .i64 t.num, .slice A3 n3 c3, .int .i64 t.verdict] 30) := ⟨_, rfl⟩
  have b4 : Below w3.heap.size w3 W4 := by rw [hW4]; go_grown
  have BT : Blk W4 w3.heap.size 30 #[.int .i64 t.gate, .int .i64 t.epoch, .int .i64 t.num, .slice A3 n3 c3, .int .i64 t.verdict] := by rw [hW4]; exact Blk.new _ _ _
  have hz4 : W4.heap.size = w3.heap.size + 1 := by rw [hW4]; simp
  have HGX4 := Lib.hid (HGX3.out.trans (grown_of_below b4 (some g))); have HW4 := Lib.hid hW4; have HBT := Lib.hid BT; have HR4 := Lib.hid (r3.next b4); have HF4 := Lib.hid (HF3.out.below b4); have HB4 := Lib.hid (below_then HB3.out b4); have HBK4 := Lib.hid (HBK3.out.below b4 HBK3.out.lt); have HO4 := Lib.hid (own_below HO3.out b4)
  clear hW4 b4 BT hts o3 g3 r3 hco
  go_wp2_with fail
  rw [← HW4.out]
  refine (pick_any g q3 8 W4 HR4.out (by omega)).mono ?_; rintro e w5 ⟨k5, rfl, a5, a5', g5, r5⟩
  have HGX5 := Lib.hid (HGX4.out.trans g5)
  have HR5 := Lib.hid r5; have HF5 := Lib.hid (HF4.out.grown g5 hg1)
  have HB5 := Lib.hid (HB4.out.trans (below_of_grown g5 (Nat.le_of_lt hwg) (by omega)))
  have HBK5 := Lib.hid (HBK4.out.grown g5 (by intro e; cases e; omega))
  have HBT5 := Lib.hid (HBT.out.grown g5 (by intro e; cases e; omega))
  have HO5 := Lib.hid (own_grownR HO4.out g5 (by omega))
  have hz5 : W4.heap.size ≤ w5.heap.size := g5.size
  clear a5' g5 r5
  have x0 := (show _ = some (Value.int .i64 0) from HBK5.out.cell 0); have x1 := (show _ = some (Value.int .i64 0) from HBK5.out.cell 1); have x2 := (show _ = some (Value.int .i64 0) from HBK5.out.cell 2); have x3 := (show _ = some (Value.slice none 0 0) from HBK5.out.cell 3); have x4 := (show _ = some (Value.int .i64 0) from HBK5.out.cell 4)
  have f0 := HBK5.out.frozen 0; have f1 := HBK5.out.frozen 1; have f2 := HBK5.out.frozen 2; have f3 := HBK5.out.frozen 3; have f4 := HBK5.out.frozen 4
  have y0 := (show _ = some (Value.int .i64 t.gate) from HBT5.out.cell 0); have y1 := (show _ = some (Value.int .i64 t.epoch) from HBT5.out.cell 1); have y2 := (show _ = some (Value.int .i64 t.num) from HBT5.out.cell 2); have y3 := (show _ = some (Value.slice A3 n3 c3) from HBT5.out.cell 3); have y4 := (show _ = some (Value.int .i64 t.verdict) from HBT5.out.cell 4)
  have hne : ¬ w.heap.size = w3.heap.size := by omega
  have hne2 : ¬ w3.heap.size = w.heap.size := by omega
  by_cases hk5 : k5 = 0
  · subst hk5
    clear x0 x1 x2 x3 x4 f0 f1 f2 f3 f4 y0 y1 y2 y3 y4
    go_wp2_with fail
    refine (l11AnyCall_any g (q3 + 1) w5 HR5.out (by omega)).mono ?_; rintro e w6 ⟨nm, v6, xs6, q6, rfl, hF6, g6, r6, hq6⟩
    have HF6 := Lib.hid (HF5.out.grown g6 hg1); have HA6 := Lib.hid hF6
    have HB6 := Lib.hid (HB5.out.trans (below_of_grown g6 (Nat.le_of_lt hwg) (by omega)))
    have HBK6 := Lib.hid (HBK5.out.grown g6 (by intro e; cases e; omega))
    have HBT6 := Lib.hid (HBT5.out.grown g6 (by intro e; cases e; omega))
    obtain ⟨A6, n6, c6, rfl, -, -⟩ := hF6
    have HFX := Lib.hid (HF.out.grown (grown_new (i := 3) (grown_new (i := 2) (HGX5.out.trans g6) hz3 (.int .i64 nm)) hz3 (.slice A6 n6 c6)) hg1)
    have HAX := Lib.hid ((HA6.out.grown (grown_set w6 w3.heap.size 2 (.int .i64 nm)) (by omega)).grown (grown_set _ w3.heap.size 3 (.slice A6 n6 c6)) (by omega))
    have HBX := Lib.hid ((HB6.out.setCell (p := ⟨w3.heap.size, 2, none⟩) (by show w.heap.size ≤ w3.heap.size; omega) (.int .i64 nm)).setCell (p := ⟨w3.heap.size, 3, none⟩) (by show w.heap.size ≤ w3.heap.size; omega) (.slice A6 n6 c6))
    have x0 := (show _ = some (Value.int .i64 0) from HBK6.out.cell 0); have x1 := (show _ = some (Value.int .i64 0) from HBK6.out.cell 1); have x2 := (show _ = some (Value.int .i64 0) from HBK6.out.cell 2); have x3 := (show _ = some (Value.slice none 0 0) from HBK6.out.cell 3); have x4 := (show _ = some (Value.int .i64 0) from HBK6.out.cell 4)
    have f0 := HBK6.out.frozen 0; have f1 := HBK6.out.frozen 1; have f2 := HBK6.out.frozen 2; have f3 := HBK6.out.frozen 3; have f4 := HBK6.out.frozen 4
    have y0 := (show _ = some (Value.int .i64 t.gate) from HBT6.out.cell 0); have y1 := (show _ = some (Value.int .i64 t.epoch) from HBT6.out.cell 1); have y2 := (show _ = some (Value.int .i64 t.num) from HBT6.out.cell 2); have y3 := (show _ = some (Value.slice A3 n3 c3) from HBT6.out.cell 3); have y4 := (show _ = some (Value.int .i64 t.verdict) from HBT6.out.cell 4)
    have e2 := HBT6.out.frozen 2; have e3 := HBT6.out.frozen 3
    clear g6 r6
    go_wp2
    go_region
    all_goals
      go_wp2
      obtain ⟨s1, s2, s3⟩ := stored5 HFX.out HAX.out (by omega) (by omega) HBX.out (.int .i64 t.gate) (.int .i64 t.epoch) (.int .i64 nm) (.slice A6 n6 c6) (.int .i64 t.verdict)
      refine bodyPost_ret (v := .tuple #[u, .agg #[.int .i64 t.gate, .int .i64 t.epoch, .int .i64 nm, .slice A6 n6 c6, .int .i64 t.verdict]]) (by simp [results, Tryd.results18, go_sem, x0, x1, x2, x3, x4, hne, hne2]) rfl ⟨u, b, ⟨t.gate, t.epoch, nm, xs6, t.verdict⟩, _, rfl, s1, HM.out, hl, HTS.out, s2, s3⟩
  · have hk5' : (k5 == 0) = false := by simpa using hk5
    go_wp2
    go_region
    all_goals
      go_wp2
      obtain ⟨s1, s2, s3⟩ := stored5 HF5.out (FarSl.of_own (xs := t.args) (by rw [HCO.out.2.1]; exact HO5.out)) (by omega) (by omega) HB5.out (.int .i64 t.gate) (.int .i64 t.epoch) (.int .i64 t.num) (.slice A3 n3 c3) (.int .i64 t.verdict)
      refine bodyPost_ret (v := .tuple #[u, .agg #[.int .i64 t.gate, .int .i64 t.epoch, .int .i64 t.num, .slice A3 n3 c3, .int .i64 t.verdict]]) (by simp [results, Tryd.results18, go_sem, x0, x1, x2, x3, x4, hne, hne2]) rfl ⟨u, b, t, _, rfl, s1, HM.out, hl, HTS.out, s2, s3⟩
end Go.Proofs.YtaieopdfkapgdaaDoor
