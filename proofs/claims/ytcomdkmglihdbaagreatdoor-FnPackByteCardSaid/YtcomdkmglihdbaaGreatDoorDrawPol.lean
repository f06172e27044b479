/- How the laws draw tests: no bounds are asked. -/
import Derived.Test.YtcomdkmglihdbaaGreatDoorRd
import Derived.Test.YtcomdkmglihdbaaGreatDoorKit
import Derived.Test.YtcomdkmglihdbaaGreatDoorTxt
import Derived.Laws.Runes
import Derived.BigRegion
namespace Go.Proofs.YtcomdkmglihdbaaGreatDoor
open Go.RowKit
set_option linter.unusedSimpArgs false
set_option linter.unusedVariables false

set_option maxHeartbeats 1000000 in
theorem l11Word_any (g p : Nat) (w : World) (h : Rd w g p) (hp : p ≤ 900000000) :
    Calls Tryz.prog 95 #[.pointer (some ⟨g, 0, none⟩)] w fun e w' =>
      ∃ x : Int, e = .returned (.int .i64 x) ∧ 0 ≤ x ∧ x ≤ 4294967295 ∧ w.grownBy w' (some g) ∧ Rd w' g (p + 4) := by
  go_enter Tryz.func95, Tryz.ntmps95
  go_wp2_with fail
  refine (pick_any g p 6 _ h (by omega)).mono ?_; rintro e w1 ⟨k1, rfl, h1, h1', g1, r1⟩
  have h1'' := h1' (by omega)
  go_wp2_with fail
  refine (pick_any g (p + 1) 20 _ r1 (by omega)).mono ?_; rintro e w2 ⟨k2, rfl, h2, h2', g2, r2⟩
  have h2'' := h2' (by omega)
  go_wp2_with fail
  refine (pick_any g (p + 2) 20 _ r2 (by omega)).mono ?_; rintro e w3 ⟨k3, rfl, h3, h3', g3, r3⟩
  have h3'' := h3' (by omega)
  have G3 := (g1.trans g2).trans g3
  go_wp2_with fail
  have hB := Blk.new w3 3 #[.int .i64 k1, .int .i64 k2, .int .i64 (16 * k3), .int .i64 4294967295, .int .i64 4294967294, .int .i64 65535]
  refine (pick_any g (p + 3) 6 _ (r3.next (by go_grown)) (by omega)).mono ?_; rintro e w4 ⟨k4, rfl, h4, h4', g4, r4⟩
  have h4'' := h4' (by omega)
  have hlt := r3.lt
  have hB4 := hB.grown g4 (by simp; omega)
  have G4 : w.grownBy w4 (some g) := (G3.trans (World.grownBy_alloc _ _ _)).trans g4
  have c0 := hB4.cell 0; have c1 := hB4.cell 1; have c2 := hB4.cell 2; have c3 := hB4.cell 3; have c4 := hB4.cell 4; have c5 := hB4.cell 5
  simp at c0 c1 c2 c3 c4 c5
  clear h1' h2' h3' h4' hB hB4 g1 g2 g3 g4
  obtain rfl | rfl | rfl | rfl | rfl | rfl : k4 = 0 ∨ k4 = 1 ∨ k4 = 2 ∨ k4 = 3 ∨ k4 = 4 ∨ k4 = 5 := by omega
  all_goals go_wp2
  all_goals
    go_ret
    exact ⟨_, rfl, by omega, by omega, G4, r4⟩

/-- How the world stands while something is drawn. -/
structure Dq (w wr : World) (g p : Nat) : Prop where
  rd : Rd wr g p
  grown : w.grownBy wr (some g)
  lt : g < w.heap.size
theorem Dq.start {w : World} {g p : Nat} (h : Rd w g p) : Dq w w g p := ⟨h, World.grownBy.refl _ _, h.lt⟩
theorem Dq.step {w wr w1 : World} {g p p' : Nat} (h : Dq w wr g p) (hg : wr.grownBy w1 (some g)) (hr : Rd w1 g p') : Dq w w1 g p' := ⟨hr, h.grown.trans hg, h.lt⟩
theorem Dq.next {w wr w1 : World} {g p : Nat} (h : Dq w wr g p) (hb : Below wr.heap.size wr w1) : Dq w w1 g p := ⟨h.rd.next hb, h.grown.trans (grown_of_below hb _), h.lt⟩
theorem Dq.set {w wr : World} {g p : Nat} (h : Dq w wr g p) {a i : Nat} (ha : w.heap.size ≤ a) (v : Value) : Dq w (wr.setCell ⟨a, i, none⟩ v) g p :=
  ⟨h.rd.below ((Below.refl w.heap.size wr).setCell (p := ⟨a, i, none⟩) ha v) h.lt, grown_new h.grown ha v, h.lt⟩
theorem Dq.size {w wr : World} {g p : Nat} (h : Dq w wr g p) : w.heap.size ≤ wr.heap.size := h.grown.size
theorem Dq.blk {w wr w1 : World} {g p q : Nat} {t : TypeId} {cs : Array Value} (h : Dq w wr g p) (hk : Blk wr q t cs) (hq : w.heap.size ≤ q) (hg : wr.grownBy w1 (some g)) : Blk w1 q t cs := hk.grown hg (by have := h.lt; intro e; cases e; omega)

theorem and_natI (a b : Nat) (ha : a < 4294967296) (hb : b < 4294967296) : bits .and .i64 (a : Int) (b : Int) = ((a &&& b : Nat) : Int) := by
  have hle : a &&& b ≤ a := Nat.and_le_left
  have h1 : (BitVec.ofInt 64 (a : Int)).toNat = a := by
    rw [BitVec.ofInt_natCast, BitVec.toNat_ofNat]; exact Nat.mod_eq_of_lt (by omega)
  have h2 : (BitVec.ofInt 64 (b : Int)).toNat = b := by
    rw [BitVec.ofInt_natCast, BitVec.toNat_ofNat]; exact Nat.mod_eq_of_lt (by omega)
  show IntKind.i64.wrap ((BitVec.ofInt 64 (a : Int) &&& BitVec.ofInt 64 (b : Int)).toNat : Int) = _
  rw [BitVec.toNat_and, h1, h2]
  exact wrap_small _ (Int.natCast_nonneg _) (by omega)
/-- Tests as they are drawn are ok. -/
theorem testOk_full {f o x : Int} (hf : 1 ≤ f ∧ f ≤ 4) (ho : 1 ≤ o ∧ o ≤ 3) (hx : 0 ≤ x ∧ x ≤ 4294967295) : testOkB ⟨f, 4294967295, o, x⟩ = true := by
  obtain ⟨a, rfl⟩ := Int.eq_ofNat_of_zero_le hx.1
  have e : bits .and .i64 (a : Int) 4294967295 = (a : Int) := by
    have h := and_natI a 4294967295 (by omega) (by omega)
    rw [show ((4294967295 : Nat) : Int) = 4294967295 from rfl] at h
    rw [h, show (4294967295 : Nat) = 2 ^ 32 - 1 from rfl, Nat.and_two_pow_sub_one_eq_mod, Nat.mod_eq_of_lt (Nat.lt_of_lt_of_le (show a < 4294967296 by omega) (by decide))]
  unfold testOkB
  simp only [Bool.and_eq_true, inB_iff]
  refine ⟨⟨⟨⟨hf, by omega⟩, hx⟩, ho⟩, ?_⟩
  split
  · rw [e]; simp
  · simp
theorem testOk_masked {f m x : Int} (hf : 1 ≤ f ∧ f ≤ 4) (hm : 1 ≤ m ∧ m ≤ 255) (hx : 0 ≤ x ∧ x ≤ 4294967295) : testOkB ⟨f, m, 1, bits .and .i64 x m⟩ = true := by
  obtain ⟨a, rfl⟩ := Int.eq_ofNat_of_zero_le hx.1
  obtain ⟨b, rfl⟩ := Int.eq_ofNat_of_zero_le (show 0 ≤ m by omega)
  have h1 := and_natI a b (by omega) (by omega)
  have hle : a &&& b ≤ a := Nat.and_le_left
  have h2 := and_natI (a &&& b) b (by omega) (by omega)
  rw [Nat.and_assoc, Nat.and_self] at h2
  rw [h1]
  unfold testOkB
  simp only [Bool.and_eq_true, inB_iff]
  refine ⟨⟨⟨⟨hf, by omega⟩, by omega⟩, by omega⟩, ?_⟩
  rw [if_pos (by rfl)]
  simp only [h2, beq_self_eq_true]

set_option maxHeartbeats 4000000 in
theorem l11Test_ok (g p : Nat) (w : World) (h : Rd w g p) (hp : p ≤ 800000000) :
    Calls Tryz.prog 72 #[.pointer (some ⟨g, 0, none⟩)] w fun e w' =>
      ∃ (t : Ts) (q : Nat), e = .returned (.agg #[.int .i64 t.field, .int .i64 t.mask, .int .i64 t.op, .int .i64 t.value]) ∧ w.grownBy w' (some g) ∧ Rd w' g q ∧ q ≤ p + 11 ∧ testOkB t = true := by
  have D0 : Dq w (w.alloc (.cells #[.int .i64 0, .int .i64 0, .int .i64 0, .int .i64 0] 127)) g p := (Dq.start h).next (by go_grown)
  have R0 := Blk.new w 127 #[.int .i64 0, .int .i64 0, .int .i64 0, .int .i64 0]
  go_enter Tryz.func72, Tryz.ntmps72
  go_wp2_with fail
  refine (pick_any g p 2 _ D0.rd (by omega)).mono ?_; rintro e w1 ⟨k1, rfl, a1, b1, g1, r1⟩
  have b1' := b1 (by omega)
  have D1 := D0.step g1 r1
  have R1 := D0.blk R0 (Nat.le_refl _) g1
  clear D0 R0 g1 r1 b1
  go_wp2_with fail
  refine (pick_any g (p + 1) 3 _ D1.rd (by omega)).mono ?_; rintro e w2 ⟨k2, rfl, a2, b2, g2, r2⟩
  have b2' := b2 (by omega)
  have D2 := D1.step g2 r2
  have R2 := D1.blk R1 (Nat.le_refl _) g2
  clear D1 R1 g2 r2 b2
  go_wp2_with fail
  refine (l11Word_any g (p + 2) _ D2.rd (by omega)).mono ?_; rintro e w3 ⟨x, rfl, a3, b3, g3, r3⟩
  have D3 := D2.step g3 r3
  have R3 := D2.blk R2 (Nat.le_refl _) g3
  clear D2 R2 g3 r3
  have hs3 := D3.size
  have hl3 := R3.lt
  have T3 := Blk.new w3 127 #[.int .i64 (1 + k1), .int .i64 4294967295, .int .i64 (1 + k2), .int .i64 x]
  have D4 : Dq w (w3.alloc (.cells #[.int .i64 (1 + k1), .int .i64 4294967295, .int .i64 (1 + k2), .int .i64 x] 127)) g (p + 6) := D3.next (by go_grown)
  have R4 : Blk (w3.alloc (.cells #[.int .i64 (1 + k1), .int .i64 4294967295, .int .i64 (1 + k2), .int .i64 x] 127)) w.heap.size 127 #[.int .i64 0, .int .i64 0, .int .i64 0, .int .i64 0] := R3.alloc _
  go_wp2_with fail
  refine (pick_any g (p + 6) 4 _ D4.rd (by omega)).mono ?_; rintro e w4 ⟨k4, rfl, a4, b4, g4, r4⟩
  have D5 := D4.step g4 r4
  have R5 := D4.blk R4 (Nat.le_refl _) g4
  have T5 := D4.blk T3 hs3 g4
  clear D3 R3 D4 R4 T3 g4 r4
  by_cases hk : k4 = 0
  · subst hk
    go_wp2_with fail
    refine (pick_any g (p + 7) 4 _ D5.rd (by omega)).mono ?_; rintro e w5 ⟨k5, rfl, a5, b5, g5, r5⟩
    have b5' := b5 (by omega)
    have D6 := D5.step g5 r5
    have R6 := D5.blk R5 (Nat.le_refl _) g5
    have T6 := D5.blk T5 hs3 g5
    have f0 := T6.frozen 0
    have q0 : w5.cell? ⟨w3.heap.size, 0, none⟩ = some (.int .i64 (1 + k1)) := T6.cell 0
    have D := D6.set (a := w3.heap.size) (i := 0) hs3 (.int .i64 (1 + k5))
    have R : Blk _ w.heap.size _ _ := R6.far (p := ⟨w3.heap.size, 0, none⟩) (by simp; omega) (.int .i64 (1 + k5))
    have T : Blk _ w3.heap.size _ #[.int .i64 (1 + k5), .int .i64 4294967295, .int .i64 (1 + k2), .int .i64 x] := T6.set_ 0 (.int .i64 (1 + k5))
    clear D5 R5 T5 D6 R6 T6 g5 r5 b5
    have s2 := (show _ = some (Value.int .i64 (1 + k2)) from T.cell 2)
    by_cases ho : k2 = 0
    · subst ho
      replace s2 := (show _ = some (Value.int .i64 1) from s2)
      replace T : Blk _ w3.heap.size _ #[.int .i64 (1 + k5), .int .i64 4294967295, .int .i64 1, .int .i64 x] := T
      go_wp2_with fail
      refine (pick_any g _ 2 _ D.rd (by omega)).mono ?_; rintro e w6 ⟨k6, rfl, a6, b6, g6, r6⟩
      have D7 := D.step g6 r6
      have R7 := D.blk R (Nat.le_refl _) g6
      have T7 := D.blk T hs3 g6
      clear D R T g6 r6 b6 s2
      by_cases h6 : k6 = 0
      · subst h6
        have B7 := Blk.new w6 3 #[.int .i64 1, .int .i64 3, .int .i64 15, .int .i64 240, .int .i64 255]
        have D8 := D7.next (show Below w6.heap.size w6 (w6.alloc (.cells #[.int .i64 1, .int .i64 3, .int .i64 15, .int .i64 240, .int .i64 255] 3)) by go_grown)
        have R8 := R7.alloc (.cells #[.int .i64 1, .int .i64 3, .int .i64 15, .int .i64 240, .int .i64 255] 3)
        have T8 := T7.alloc (.cells #[.int .i64 1, .int .i64 3, .int .i64 15, .int .i64 240, .int .i64 255] 3)
        have hs7 := D7.size
        have hT7 := T7.lt
        go_wp2_with fail
        refine (pick_any g _ 5 _ D8.rd (by omega)).mono ?_; rintro e w7 ⟨k7, rfl, a7, b7, g7, r7⟩
        have b7' := b7 (by omega)
        obtain ⟨j, rfl⟩ : ∃ j : Nat, k7 = j := ⟨k7.toNat, by omega⟩
        have D9 := D8.step g7 r7
        have R9 := D8.blk R8 (Nat.le_refl _) g7
        have T9 := D8.blk T8 hs3 g7
        have B9 := D8.blk B7 hs7 g7
        obtain ⟨m, hm, hmr⟩ : ∃ m : Int, w7.cell? ⟨w6.heap.size, j, none⟩ = some (.int .i64 m) ∧ 1 ≤ m ∧ m ≤ 255 := by
          rw [B9.cell j]
          obtain rfl | rfl | rfl | rfl | rfl : j = 0 ∨ j = 1 ∨ j = 2 ∨ j = 3 ∨ j = 4 := by omega
          all_goals exact ⟨_, rfl, by omega, by omega⟩
        have hj5 : (j : Int) < 5 := by omega
        have f1 := T9.frozen 1
        have q1 := (show _ = some (Value.int .i64 4294967295) from T9.cell 1)
        have T10 := T9.set_ 1 (.int .i64 m)
        have f3 := T10.frozen 3
        have u3 := (show _ = some (Value.int .i64 x) from T10.cell 3)
        have u1 := (show _ = some (Value.int .i64 m) from T10.cell 1)
        have D10 := D9.set (a := w3.heap.size) (i := 1) hs3 (.int .i64 m)
        have R10 := R9.far (p := ⟨w3.heap.size, 1, none⟩) (by simp; omega) (.int .i64 m)
        have T11 := T10.set_ 3 (.int .i64 (bits .and .i64 x m))
        have D11 := D10.set (a := w3.heap.size) (i := 3) hs3 (.int .i64 (bits .and .i64 x m))
        have R11 := R10.far (p := ⟨w3.heap.size, 3, none⟩) (by simp; omega) (.int .i64 (bits .and .i64 x m))
        have TX : Blk _ w3.heap.size _ #[.int .i64 (1 + k5), .int .i64 m, .int .i64 (1), .int .i64 (bits .and .i64 x m)] := T11
        clear D7 R7 T7 B7 D8 R8 T8 g7 r7 b7 D9 R9 T9 B9 T10 D10 R10 T11
        have f0 := R11.frozen 0; have f1 := R11.frozen 1; have f2 := R11.frozen 2; have f3 := R11.frozen 3
        have z0 := (show _ = some (Value.int .i64 0) from R11.cell 0); have z1 := (show _ = some (Value.int .i64 0) from R11.cell 1); have z2 := (show _ = some (Value.int .i64 0) from R11.cell 2); have z3 := (show _ = some (Value.int .i64 0) from R11.cell 3)
        have y0 := (show _ = some (Value.int .i64 (1 + k5)) from TX.cell 0); have y1 := (show _ = some (Value.int .i64 (m)) from TX.cell 1); have y2 := (show _ = some (Value.int .i64 (1)) from TX.cell 2); have y3 := (show _ = some (Value.int .i64 (bits .and .i64 x m)) from TX.cell 3)
        go_wp2
        refine bodyPost_ret (v := .agg #[.int .i64 (1 + k5), .int .i64 (m), .int .i64 (1), .int .i64 (bits .and .i64 x m)]) (by simp [results, Tryz.results72, go_sem, z0, z1, z2, z3]) rfl ⟨⟨1 + k5, m, 1, bits .and .i64 x m⟩, _, rfl, ((((D11.set (a := w.heap.size) (i := 0) (Nat.le_refl _) (.int .i64 (1 + k5))).set (a := w.heap.size) (i := 1) (Nat.le_refl _) (.int .i64 (m))).set (a := w.heap.size) (i := 2) (Nat.le_refl _) (.int .i64 (1))).set (a := w.heap.size) (i := 3) (Nat.le_refl _) (.int .i64 (bits .and .i64 x m))).grown, ((((D11.set (a := w.heap.size) (i := 0) (Nat.le_refl _) (.int .i64 (1 + k5))).set (a := w.heap.size) (i := 1) (Nat.le_refl _) (.int .i64 (m))).set (a := w.heap.size) (i := 2) (Nat.le_refl _) (.int .i64 (1))).set (a := w.heap.size) (i := 3) (Nat.le_refl _) (.int .i64 (bits .and .i64 x m))).rd, by omega, testOk_masked (by omega) hmr ⟨a3, b3⟩⟩
      · have hd6 : (k6 == 0) = false := by simp; omega
        have f0 := R7.frozen 0; have f1 := R7.frozen 1; have f2 := R7.frozen 2; have f3 := R7.frozen 3
        have z0 := (show _ = some (Value.int .i64 0) from R7.cell 0); have z1 := (show _ = some (Value.int .i64 0) from R7.cell 1); have z2 := (show _ = some (Value.int .i64 0) from R7.cell 2); have z3 := (show _ = some (Value.int .i64 0) from R7.cell 3)
        have y0 := (show _ = some (Value.int .i64 (1 + k5)) from T7.cell 0); have y1 := (show _ = some (Value.int .i64 (4294967295)) from T7.cell 1); have y2 := (show _ = some (Value.int .i64 (1)) from T7.cell 2); have y3 := (show _ = some (Value.int .i64 (x)) from T7.cell 3)
        go_wp2
        refine bodyPost_ret (v := .agg #[.int .i64 (1 + k5), .int .i64 (4294967295), .int .i64 (1), .int .i64 (x)]) (by simp [results, Tryz.results72, go_sem, z0, z1, z2, z3]) rfl ⟨⟨1 + k5, 4294967295, 1, x⟩, _, rfl, ((((D7.set (a := w.heap.size) (i := 0) (Nat.le_refl _) (.int .i64 (1 + k5))).set (a := w.heap.size) (i := 1) (Nat.le_refl _) (.int .i64 (4294967295))).set (a := w.heap.size) (i := 2) (Nat.le_refl _) (.int .i64 (1))).set (a := w.heap.size) (i := 3) (Nat.le_refl _) (.int .i64 (x))).grown, ((((D7.set (a := w.heap.size) (i := 0) (Nat.le_refl _) (.int .i64 (1 + k5))).set (a := w.heap.size) (i := 1) (Nat.le_refl _) (.int .i64 (4294967295))).set (a := w.heap.size) (i := 2) (Nat.le_refl _) (.int .i64 (1))).set (a := w.heap.size) (i := 3) (Nat.le_refl _) (.int .i64 (x))).rd, by omega, testOk_full (by omega) (by omega) ⟨a3, b3⟩⟩
    · have hd : ((1 + k2 : Int) == 1) = false := by simp; omega
      have f0 := R.frozen 0; have f1 := R.frozen 1; have f2 := R.frozen 2; have f3 := R.frozen 3
      have z0 := (show _ = some (Value.int .i64 0) from R.cell 0); have z1 := (show _ = some (Value.int .i64 0) from R.cell 1); have z2 := (show _ = some (Value.int .i64 0) from R.cell 2); have z3 := (show _ = some (Value.int .i64 0) from R.cell 3)
      have y0 := (show _ = some (Value.int .i64 (1 + k5)) from T.cell 0); have y1 := (show _ = some (Value.int .i64 (4294967295)) from T.cell 1); have y2 := (show _ = some (Value.int .i64 (1 + k2)) from T.cell 2); have y3 := (show _ = some (Value.int .i64 (x)) from T.cell 3)
      go_wp2
      refine bodyPost_ret (v := .agg #[.int .i64 (1 + k5), .int .i64 (4294967295), .int .i64 (1 + k2), .int .i64 (x)]) (by simp [results, Tryz.results72, go_sem, z0, z1, z2, z3]) rfl ⟨⟨1 + k5, 4294967295, 1 + k2, x⟩, _, rfl, ((((D.set (a := w.heap.size) (i := 0) (Nat.le_refl _) (.int .i64 (1 + k5))).set (a := w.heap.size) (i := 1) (Nat.le_refl _) (.int .i64 (4294967295))).set (a := w.heap.size) (i := 2) (Nat.le_refl _) (.int .i64 (1 + k2))).set (a := w.heap.size) (i := 3) (Nat.le_refl _) (.int .i64 (x))).grown, ((((D.set (a := w.heap.size) (i := 0) (Nat.le_refl _) (.int .i64 (1 + k5))).set (a := w.heap.size) (i := 1) (Nat.le_refl _) (.int .i64 (4294967295))).set (a := w.heap.size) (i := 2) (Nat.le_refl _) (.int .i64 (1 + k2))).set (a := w.heap.size) (i := 3) (Nat.le_refl _) (.int .i64 (x))).rd, by omega, testOk_full (by omega) (by omega) ⟨a3, b3⟩⟩
  · have hd4 : (k4 == 0) = false := by simp; omega
    have D := D5; have R := R5; have T := T5
    clear D5 R5 T5
    have s2 := (show _ = some (Value.int .i64 (1 + k2)) from T.cell 2)
    by_cases ho : k2 = 0
    · subst ho
      replace s2 := (show _ = some (Value.int .i64 1) from s2)
      replace T : Blk _ w3.heap.size _ #[.int .i64 (1 + k1), .int .i64 4294967295, .int .i64 1, .int .i64 x] := T
      go_wp2_with fail
      refine (pick_any g _ 2 _ D.rd (by omega)).mono ?_; rintro e w6 ⟨k6, rfl, a6, b6, g6, r6⟩
      have D7 := D.step g6 r6
      have R7 := D.blk R (Nat.le_refl _) g6
      have T7 := D.blk T hs3 g6
      clear D R T g6 r6 b6 s2
      by_cases h6 : k6 = 0
      · subst h6
        have B7 := Blk.new w6 3 #[.int .i64 1, .int .i64 3, .int .i64 15, .int .i64 240, .int .i64 255]
        have D8 := D7.next (show Below w6.heap.size w6 (w6.alloc (.cells #[.int .i64 1, .int .i64 3, .int .i64 15, .int .i64 240, .int .i64 255] 3)) by go_grown)
        have R8 := R7.alloc (.cells #[.int .i64 1, .int .i64 3, .int .i64 15, .int .i64 240, .int .i64 255] 3)
        have T8 := T7.alloc (.cells #[.int .i64 1, .int .i64 3, .int .i64 15, .int .i64 240, .int .i64 255] 3)
        have hs7 := D7.size
        have hT7 := T7.lt
        go_wp2_with fail
        refine (pick_any g _ 5 _ D8.rd (by omega)).mono ?_; rintro e w7 ⟨k7, rfl, a7, b7, g7, r7⟩
        have b7' := b7 (by omega)
        obtain ⟨j, rfl⟩ : ∃ j : Nat, k7 = j := ⟨k7.toNat, by omega⟩
        have D9 := D8.step g7 r7
        have R9 := D8.blk R8 (Nat.le_refl _) g7
        have T9 := D8.blk T8 hs3 g7
        have B9 := D8.blk B7 hs7 g7
        obtain ⟨m, hm, hmr⟩ : ∃ m : Int, w7.cell? ⟨w6.heap.size, j, none⟩ = some (.int .i64 m) ∧ 1 ≤ m ∧ m ≤ 255 := by
          rw [B9.cell j]
          obtain rfl | rfl | rfl | rfl | rfl : j = 0 ∨ j = 1 ∨ j = 2 ∨ j = 3 ∨ j = 4 := by omega
          all_goals exact ⟨_, rfl, by omega, by omega⟩
        have hj5 : (j : Int) < 5 := by omega
        have f1 := T9.frozen 1
        have q1 := (show _ = some (Value.int .i64 4294967295) from T9.cell 1)
        have T10 := T9.set_ 1 (.int .i64 m)
        have f3 := T10.frozen 3
        have u3 := (show _ = some (Value.int .i64 x) from T10.cell 3)
        have u1 := (show _ = some (Value.int .i64 m) from T10.cell 1)
        have D10 := D9.set (a := w3.heap.size) (i := 1) hs3 (.int .i64 m)
        have R10 := R9.far (p := ⟨w3.heap.size, 1, none⟩) (by simp; omega) (.int .i64 m)
        have T11 := T10.set_ 3 (.int .i64 (bits .and .i64 x m))
        have D11 := D10.set (a := w3.heap.size) (i := 3) hs3 (.int .i64 (bits .and .i64 x m))
        have R11 := R10.far (p := ⟨w3.heap.size, 3, none⟩) (by simp; omega) (.int .i64 (bits .and .i64 x m))
        have TX : Blk _ w3.heap.size _ #[.int .i64 (1 + k1), .int .i64 m, .int .i64 (1), .int .i64 (bits .and .i64 x m)] := T11
        clear D7 R7 T7 B7 D8 R8 T8 g7 r7 b7 D9 R9 T9 B9 T10 D10 R10 T11
        have f0 := R11.frozen 0; have f1 := R11.frozen 1; have f2 := R11.frozen 2; have f3 := R11.frozen 3
        have z0 := (show _ = some (Value.int .i64 0) from R11.cell 0); have z1 := (show _ = some (Value.int .i64 0) from R11.cell 1); have z2 := (show _ = some (Value.int .i64 0) from R11.cell 2); have z3 := (show _ = some (Value.int .i64 0) from R11.cell 3)
        have y0 := (show _ = some (Value.int .i64 (1 + k1)) from TX.cell 0); have y1 := (show _ = some (Value.int .i64 (m)) from TX.cell 1); have y2 := (show _ = some (Value.int .i64 (1)) from TX.cell 2); have y3 := (show _ = some (Value.int .i64 (bits .and .i64 x m)) from TX.cell 3)
        go_wp2
        refine bodyPost_ret (v := .agg #[.int .i64 (1 + k1), .int .i64 (m), .int .i64 (1), .int .i64 (bits .and .i64 x m)]) (by simp [results, Tryz.results72, go_sem, z0, z1, z2, z3]) rfl ⟨⟨1 + k1, m, 1, bits .and .i64 x m⟩, _, rfl, ((((D11.set (a := w.heap.size) (i := 0) (Nat.le_refl _) (.int .i64 (1 + k1))).set (a := w.heap.size) (i := 1) (Nat.le_refl _) (.int .i64 (m))).set (a := w.heap.size) (i := 2) (Nat.le_refl _) (.int .i64 (1))).set (a := w.heap.size) (i := 3) (Nat.le_refl _) (.int .i64 (bits .and .i64 x m))).grown, ((((D11.set (a := w.heap.size) (i := 0) (Nat.le_refl _) (.int .i64 (1 + k1))).set (a := w.heap.size) (i := 1) (Nat.le_refl _) (.int .i64 (m))).set (a := w.heap.size) (i := 2) (Nat.le_refl _) (.int .i64 (1))).set (a := w.heap.size) (i := 3) (Nat.le_refl _) (.int .i64 (bits .and .i64 x m))).rd, by omega, testOk_masked (by omega) hmr ⟨a3, b3⟩⟩
      · have hd6 : (k6 == 0) = false := by simp; omega
        have f0 := R7.frozen 0; have f1 := R7.frozen 1; have f2 := R7.frozen 2; have f3 := R7.frozen 3
        have z0 := (show _ = some (Value.int .i64 0) from R7.cell 0); have z1 := (show _ = some (Value.int .i64 0) from R7.cell 1); have z2 := (show _ = some (Value.int .i64 0) from R7.cell 2); have z3 := (show _ = some (Value.int .i64 0) from R7.cell 3)
        have y0 := (show _ = some (Value.int .i64 (1 + k1)) from T7.cell 0); have y1 := (show _ = some (Value.int .i64 (4294967295)) from T7.cell 1); have y2 := (show _ = some (Value.int .i64 (1)) from T7.cell 2); have y3 := (show _ = some (Value.int .i64 (x)) from T7.cell 3)
        go_wp2
        refine bodyPost_ret (v := .agg #[.int .i64 (1 + k1), .int .i64 (4294967295), .int .i64 (1), .int .i64 (x)]) (by simp [results, Tryz.results72, go_sem, z0, z1, z2, z3]) rfl ⟨⟨1 + k1, 4294967295, 1, x⟩, _, rfl, ((((D7.set (a := w.heap.size) (i := 0) (Nat.le_refl _) (.int .i64 (1 + k1))).set (a := w.heap.size) (i := 1) (Nat.le_refl _) (.int .i64 (4294967295))).set (a := w.heap.size) (i := 2) (Nat.le_refl _) (.int .i64 (1))).set (a := w.heap.size) (i := 3) (Nat.le_refl _) (.int .i64 (x))).grown, ((((D7.set (a := w.heap.size) (i := 0) (Nat.le_refl _) (.int .i64 (1 + k1))).set (a := w.heap.size) (i := 1) (Nat.le_refl _) (.int .i64 (4294967295))).set (a := w.heap.size) (i := 2) (Nat.le_refl _) (.int .i64 (1))).set (a := w.heap.size) (i := 3) (Nat.le_refl _) (.int .i64 (x))).rd, by omega, testOk_full (by omega) (by omega) ⟨a3, b3⟩⟩
    · have hd : ((1 + k2 : Int) == 1) = false := by simp; omega
      have f0 := R.frozen 0; have f1 := R.frozen 1; have f2 := R.frozen 2; have f3 := R.frozen 3
      have z0 := (show _ = some (Value.int .i64 0) from R.cell 0); have z1 := (show _ = some (Value.int .i64 0) from R.cell 1); have z2 := (show _ = some (Value.int .i64 0) from R.cell 2); have z3 := (show _ = some (Value.int .i64 0) from R.cell 3)
      have y0 := (show _ = some (Value.int .i64 (1 + k1)) from T.cell 0); have y1 := (show _ = some (Value.int .i64 (4294967295)) from T.cell 1); have y2 := (show _ = some (Value.int .i64 (1 + k2)) from T.cell 2); have y3 := (show _ = some (Value.int .i64 (x)) from T.cell 3)
      go_wp2
      refine bodyPost_ret (v := .agg #[.int .i64 (1 + k1), .int .i64 (4294967295), .int .i64 (1 + k2), .int .i64 (x)]) (by simp [results, Tryz.results72, go_sem, z0, z1, z2, z3]) rfl ⟨⟨1 + k1, 4294967295, 1 + k2, x⟩, _, rfl, ((((D.set (a := w.heap.size) (i := 0) (Nat.le_refl _) (.int .i64 (1 + k1))).set (a := w.heap.size) (i := 1) (Nat.le_refl _) (.int .i64 (4294967295))).set (a := w.heap.size) (i := 2) (Nat.le_refl _) (.int .i64 (1 + k2))).set (a := w.heap.size) (i := 3) (Nat.le_refl _) (.int .i64 (x))).grown, ((((D.set (a := w.heap.size) (i := 0) (Nat.le_refl _) (.int .i64 (1 + k1))).set (a := w.heap.size) (i := 1) (Nat.le_refl _) (.int .i64 (4294967295))).set (a := w.heap.size) (i := 2) (Nat.le_refl _) (.int .i64 (1 + k2))).set (a := w.heap.size) (i := 3) (Nat.le_refl _) (.int .i64 (x))).rd, by omega, testOk_full (by omega) (by omega) ⟨a3, b3⟩⟩
theorem l11Test_any (g p : Nat) (w : World) (h : Rd w g p) (hp : p ≤ 800000000) :
    Calls Tryz.prog 72 #[.pointer (some ⟨g, 0, none⟩)] w fun e w' =>
      ∃ (t : Ts) (q : Nat), e = .returned (.agg #[.int .i64 t.field, .int .i64 t.mask, .int .i64 t.op, .int .i64 t.value]) ∧ w.grownBy w' (some g) ∧ Rd w' g q ∧ q ≤ p + 11 :=
  (l11Test_ok g p w h hp).mono fun e w' ⟨t, q, h1, h2, h3, h4, _⟩ => ⟨t, q, h1, h2, h3, h4⟩
end Go.Proofs.YtcomdkmglihdbaaGreatDoor
