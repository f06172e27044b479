/- The reference's spec.PackRead: the pack whose text it is, or none. -/
import Derived.Test.YtcomdkmglihdbaaGreatDoorPackSA
namespace Go.Proofs.YtcomdkmglihdbaaGreatDoor
open Go.RowKit
set_option linter.unusedSimpArgs false
set_option linter.unusedVariables false

def PackPost (key text : List UInt8) (w : World) (e : Ending) (w' : World) : Prop :=
  Below w.heap.size w w' ∧ ((∃ p : Pk, isPack key text p ∧ e = .returned (.tuple #[.agg #[.int .i64 p.e, .string ⟨p.r.toArray⟩, .string ⟨p.c.toArray⟩], .bool true])) ∨
    ((¬ ∃ p : Pk, isPack key text p) ∧ e = .returned (.tuple #[.agg #[.int .i64 0, .string ⟨#[]⟩, .string ⟨#[]⟩], .bool false])))

theorem cnt_whole {most : Nat} {l : List UInt8} (h : wholeT most l) : 1 ≤ cnt10 l ∧ cnt10 l ≤ most := by
  refine ⟨List.count_pos_iff.2 (List.mem_of_getLast? h.2), ?_⟩
  have := cnt10_le l
  have := h.1
  omega
theorem pack_nums {key text : List UInt8} {p : Pk} {a0 a1 a2 a3 : List UInt8} (h : isPack key text p) (hw : [a0, a1, a2, a3] = [[112, 97, 99, 107], Lib.itoa p.e, Lib.itoa (cnt10 p.r), Lib.itoa (cnt10 p.c)]) :
    numOf a1 = p.e ∧ numOf a2 = (cnt10 p.r : Nat) ∧ numOf a3 = (cnt10 p.c : Nat) ∧ (1 ≤ cnt10 p.r ∧ cnt10 p.r ≤ 900) ∧ (1 ≤ cnt10 p.c ∧ cnt10 p.c ≤ 2600) := by
  simp only [List.cons.injEq, and_true] at hw
  obtain ⟨_, rfl, rfl, rfl⟩ := hw
  have h1 := cnt_whole h.1.2.1
  have h2 := cnt_whole h.1.2.2
  have h3 := h.1.1
  exact ⟨numOf_itoa _ (by omega) (by omega), numOf_itoa _ (by omega) (by omega), numOf_itoa _ (by omega) (by omega), h1, h2⟩
theorem numOf_bd (l : List UInt8) : -1 ≤ numOf l ∧ numOf l ≤ 4294967295 := by
  unfold numOf
  split
  · omega
  · split
    · rename_i h
      have := (valOn_bd l 0 (by omega) (fun x hx => by simpa using List.all_eq_true.1 h x hx)).1
      split <;> omega
    · omega

set_option maxRecDepth 100000 in
set_option maxHeartbeats 4000000 in
theorem sPackRead_any (key text : List UInt8) (w : World) (hk : key.length ≤ 1048576) (ht : text.length ≤ 1048576) :
    Calls Tryz.prog 11 #[.string ⟨key.toArray⟩, .string ⟨text.toArray⟩] w (PackPost key text w) := by
  obtain ⟨ls, hls⟩ : ∃ ls, ls = cut 10 text := ⟨_, rfl⟩
  have hne : ls ≠ [] := by rw [hls]; exact cut_ne _ _
  obtain ⟨h0, rest, hcons⟩ : ∃ h0 rest, ls = h0 :: rest := by cases ls with | nil => exact absurd rfl hne | cons a b => exact ⟨a, b, rfl⟩
  obtain ⟨wl, hwl⟩ : ∃ wl, wl = cut 32 h0 := ⟨_, rfl⟩
  have hh0 : h0.length ≤ 1048577 := by
    have h1 := joinL_cut text
    rw [← hls, hcons, joinL_cons, List.length_append, List.length_cons] at h1
    omega
  have hjl : (joinL ls).length ≤ 33554432 := by rw [hls, joinL_cut]; omega
  have HWD := Lib.hid (show ∀ p, isPack key text p → wl = [[112, 97, 99, 107], Lib.itoa p.e, Lib.itoa (cnt10 p.r), Lib.itoa (cnt10 p.c)] from fun p hp => by
    obtain ⟨rs, e1, _, _⟩ := hp.lines
    rw [← hls, hcons] at e1
    rw [hwl, (List.cons.inj e1).1]
    exact head_words p hp.1)
  have HLN := Lib.hid (show ∀ p, isPack key text p → linesTo ls 1 (cnt10 p.r + 1) = p.r ∧ linesTo ls (cnt10 p.r + 1) (cnt10 p.r + cnt10 p.c + 1) = p.c from fun p hp => by
    obtain ⟨rs, _, e2, e3⟩ := hp.lines
    rw [hls]; exact ⟨e2, e3⟩)
  have HLS := Lib.hid hls; have HCO := Lib.hid hcons; have HWL := Lib.hid hwl; have HJL := Lib.hid hjl
  obtain ⟨W0, hW0⟩ : ∃ W0, W0 = w.alloc (.cells #[.int .i64 0, .string ⟨#[]⟩, .string ⟨#[]⟩] 24) := ⟨_, rfl⟩
  have b0 : Below w.heap.size w W0 := by rw [hW0]; go_grown
  have B0 : Blk W0 w.heap.size 24 #[.int .i64 0, .string ⟨#[]⟩, .string ⟨#[]⟩] := by rw [hW0]; exact Blk.new _ _ _
  have HW0 := Lib.hid hW0; have HB0 := Lib.hid b0; have HK0 := Lib.hid B0
  have hl0 : w.heap.size < W0.heap.size := B0.lt
  clear hls hne hwl hjl hW0 b0 B0
  go_enter Tryz.func11, Tryz.ntmps11
  go_wp2_with fail
  rw [← HW0.out]
  refine (l2Cut_any ⟨text.toArray⟩ 10 _ (by rw [bsize]; omega)).mono ?_; rintro e w1 ⟨v, rfl, ho, b1⟩
  rw [bstr, ← HLS.out] at ho
  obtain ⟨A, n, c, rfl, hA⟩ := SlA.of_own ho (strs_len _) (strs_rows _)
  have hn : ls.length = n := by have := hA.len; rwa [strs_len] at this
  have hn0 : 0 < n := by rw [← hn, hcons]; simp
  have hn0i : (0 : Int) < n := by omega
  have hcp := hA.cap; have hmx := hA.max
  unfold maxLen at hmx
  obtain ⟨bg, off, l0, rfl, hbg, hl00, hcl⟩ := strs_get hA hn0
  obtain rfl : l0 = h0 := by rw [hcons] at hl00; simpa using hl00.symm
  have y0 : w1.cell? ⟨bg, off, none⟩ = some (.string ⟨l0.toArray⟩) := by simpa using hcl w1 w1.heap.size (Below.refl _ _) hbg
  have HA := Lib.hid hA
  have HB1 := Lib.hid (below_then HB0.out b1); have HK1 := Lib.hid (HK0.out.below b1 hl0)
  have hl1 : w.heap.size < w1.heap.size := HK1.out.lt
  clear ho hA hcl hl00 b1 hcons hn
  go_wp2_with fail
  refine (l2Cut_any ⟨l0.toArray⟩ 32 _ (by rw [bsize]; omega)).mono ?_; rintro e w2 ⟨v2, rfl, ho2, b2⟩
  rw [bstr, ← HWL.out] at ho2
  obtain ⟨A2, n2, c2, rfl, hA2⟩ := SlA.of_own ho2 (strs_len _) (strs_rows _)
  have hn2 : wl.length = n2 := by have := hA2.len; rwa [strs_len] at this
  have hcp2 := hA2.cap; have hmx2 := hA2.max
  unfold maxLen at hmx2
  have HA2 := Lib.hid hA2; have HN2 := Lib.hid hn2
  have HB2 := Lib.hid (below_then HB1.out b2); have HK2 := Lib.hid (HK1.out.below b2 hl1)
  have HAL := Lib.hid (HA.out.below b2)
  have hl2 : w.heap.size < w2.heap.size := HK2.out.lt
  clear ho2 hA2 b2 y0 hn2
  by_cases hw4 : n2 = 4
  case neg =>
    have hno : ¬ ∃ p, isPack key text p := fun ⟨p, hp⟩ => hw4 (by rw [← HN2.out, HWD.out p hp]; rfl)
    have HNO := Lib.hid hno
    have hq : ¬ (n2 : Int) = 4 := by omega
    have hq2 : ((n2 : Int) != 4) = true := by simpa using hq
    clear hno hw4
    have x0 := (show _ = some (Value.int .i64 0) from HK2.out.cell 0); have x1 := (show _ = some (Value.string ⟨#[]⟩) from HK2.out.cell 1); have x2 := (show _ = some (Value.string ⟨#[]⟩) from HK2.out.cell 2); have f0 := HK2.out.frozen 0; have f1 := HK2.out.frozen 1; have f2 := HK2.out.frozen 2
    go_wp2
    refine bodyPost_ret (v := .tuple #[.agg #[.int .i64 0, .string ⟨#[]⟩, .string ⟨#[]⟩], .bool false]) (by simp [results, Tryz.results11, go_sem, x0, x1, x2]) rfl ⟨?_, .inr ⟨HNO.out, rfl⟩⟩
    exact (((HB2.out.setCell (p := ⟨w.heap.size, 0, none⟩) (Nat.le_refl _) _).setCell (p := ⟨w.heap.size, 1, none⟩) (Nat.le_refl _) _).setCell (p := ⟨w.heap.size, 2, none⟩) (Nat.le_refl _) _)
  subst hw4
  obtain ⟨a0, a1, a2, a3, hwl4⟩ : ∃ a0 a1 a2 a3, wl = [a0, a1, a2, a3] := by
    have h := HN2.out
    match wl, h with
    | [a, b, c, d], _ => exact ⟨a, b, c, d, rfl⟩
  subst hwl4
  obtain ⟨bw, ow, m0, rfl, hbw, e0, c0⟩ := strs_get HA2.out (k := 0) (by omega)
  obtain ⟨b1', o1', m1, q1, -, e1, c1⟩ := strs_get HA2.out (k := 1) (by omega)
  obtain ⟨b2', o2', m2, q2, -, e2, c2'⟩ := strs_get HA2.out (k := 2) (by omega)
  obtain ⟨b3', o3', m3, q3, -, e3, c3⟩ := strs_get HA2.out (k := 3) (by omega)
  simp only [Option.some.injEq, Addr.mk.injEq, and_true] at q1 q2 q3
  obtain ⟨rfl, rfl⟩ := q1
  obtain ⟨rfl, rfl⟩ := q2
  obtain ⟨rfl, rfl⟩ := q3
  obtain rfl : a0 = m0 := by simpa using e0
  obtain rfl : a1 = m1 := by simpa using e1
  obtain rfl : a2 = m2 := by simpa using e2
  obtain rfl : a3 = m3 := by simpa using e3
  have z0 : w2.cell? ⟨bw, ow, none⟩ = some (.string ⟨a0.toArray⟩) := by simpa using c0 w2 w2.heap.size (Below.refl _ _) hbw
  have z1 := c1 w2 w2.heap.size (Below.refl _ _) hbw
  have z2 := c2' w2 w2.heap.size (Below.refl _ _) hbw
  have z3 := c3 w2 w2.heap.size (Below.refl _ _) hbw
  clear e0 e1 e2 e3 c0 c1 c2' c3
  by_cases hp : a0 = [112, 97, 99, 107]
  case neg =>
    have HNO := Lib.hid (show ¬ ∃ p, isPack key text p from fun ⟨p, h⟩ => hp (by have := HWD.out p h; simp at this; exact this.1))
    have p1 : (a0 == [112, 97, 99, 107]) = false := by simpa using hp
    have p2 : (a0 != [112, 97, 99, 107]) = true := by simpa using hp
    have x0 := (show _ = some (Value.int .i64 0) from HK2.out.cell 0); have x1 := (show _ = some (Value.string ⟨#[]⟩) from HK2.out.cell 1); have x2 := (show _ = some (Value.string ⟨#[]⟩) from HK2.out.cell 2); have f0 := HK2.out.frozen 0; have f1 := HK2.out.frozen 1; have f2 := HK2.out.frozen 2
    go_wp2
    refine bodyPost_ret (v := .tuple #[.agg #[.int .i64 0, .string ⟨#[]⟩, .string ⟨#[]⟩], .bool false]) (by simp [results, Tryz.results11, go_sem, x0, x1, x2]) rfl ⟨?_, .inr ⟨HNO.out, rfl⟩⟩
    exact (((HB2.out.setCell (p := ⟨w.heap.size, 0, none⟩) (Nat.le_refl _) _).setCell (p := ⟨w.heap.size, 1, none⟩) (Nat.le_refl _) _).setCell (p := ⟨w.heap.size, 2, none⟩) (Nat.le_refl _) _)
  have p1 : (a0 == [112, 97, 99, 107]) = true := by simpa using hp
  have p2 : (a0 != [112, 97, 99, 107]) = false := by simpa using hp
  have HPP := Lib.hid hp
  clear hp
  go_wp2_with fail
  refine (l2Num_any ⟨a2.toArray⟩ _).mono ?_; rintro e4 w4 ⟨rfl, rfl⟩
  rw [bstr]
  go_wp2_with fail
  refine (l2Num_any ⟨a3.toArray⟩ _).mono ?_; rintro e4 w4 ⟨rfl, rfl⟩
  rw [bstr]
  obtain ⟨N, hN⟩ : ∃ N, N = numOf a2 := ⟨_, rfl⟩
  obtain ⟨M, hM⟩ : ∃ M, M = numOf a3 := ⟨_, rfl⟩
  obtain ⟨E, hE⟩ : ∃ E, E = numOf a1 := ⟨_, rfl⟩
  rw [← hN, ← hM]
  have HNU := Lib.hid (show ∀ p, isPack key text p → E = p.e ∧ N = (cnt10 p.r : Nat) ∧ M = (cnt10 p.c : Nat) ∧ (1 ≤ cnt10 p.r ∧ cnt10 p.r ≤ 900) ∧ (1 ≤ cnt10 p.c ∧ cnt10 p.c ≤ 2600) from fun p h => by rw [hE, hN, hM]; exact pack_nums h (HWD.out p h))
  have HE := Lib.hid hE
  have hEb := numOf_bd a1
  rw [← hE] at hEb
  clear hN hM hE
  by_cases hn9 : 1 ≤ N ∧ N ≤ 900
  case neg =>
    have HI := Lib.hid (show inB N 1 900 = false from inB_not.2 hn9)
    have HNO := Lib.hid (show ¬ ∃ p, isPack key text p from fun ⟨p, h⟩ => hn9 (by have := HNU.out p h; omega))
    clear hn9
    go_wp2_with fail
    refine (l1In_any N 1 900 _).mono ?_; rintro e4 w4 ⟨rfl, rfl⟩
    rw [HI.out]
    have x0 := (show _ = some (Value.int .i64 0) from HK2.out.cell 0); have x1 := (show _ = some (Value.string ⟨#[]⟩) from HK2.out.cell 1); have x2 := (show _ = some (Value.string ⟨#[]⟩) from HK2.out.cell 2); have f0 := HK2.out.frozen 0; have f1 := HK2.out.frozen 1; have f2 := HK2.out.frozen 2
    go_wp2
    refine bodyPost_ret (v := .tuple #[.agg #[.int .i64 0, .string ⟨#[]⟩, .string ⟨#[]⟩], .bool false]) (by simp [results, Tryz.results11, go_sem, x0, x1, x2]) rfl ⟨?_, .inr ⟨HNO.out, rfl⟩⟩
    exact (((HB2.out.setCell (p := ⟨w.heap.size, 0, none⟩) (Nat.le_refl _) _).setCell (p := ⟨w.heap.size, 1, none⟩) (Nat.le_refl _) _).setCell (p := ⟨w.heap.size, 2, none⟩) (Nat.le_refl _) _)
  have HI := Lib.hid (show inB N 1 900 = true from inB_iff.2 hn9)
  go_wp2_with fail
  refine (l1In_any N 1 900 _).mono ?_; rintro e4 w4 ⟨rfl, rfl⟩
  rw [HI.out]
  by_cases hm9 : 1 ≤ M ∧ M ≤ 2600
  case neg =>
    have HI2 := Lib.hid (show inB M 1 2600 = false from inB_not.2 hm9)
    have HNO := Lib.hid (show ¬ ∃ p, isPack key text p from fun ⟨p, h⟩ => hm9 (by have := HNU.out p h; omega))
    clear hm9
    go_wp2_with fail
    refine (l1In_any M 1 2600 _).mono ?_; rintro e4 w4 ⟨rfl, rfl⟩
    rw [HI2.out]
    have x0 := (show _ = some (Value.int .i64 0) from HK2.out.cell 0); have x1 := (show _ = some (Value.string ⟨#[]⟩) from HK2.out.cell 1); have x2 := (show _ = some (Value.string ⟨#[]⟩) from HK2.out.cell 2); have f0 := HK2.out.frozen 0; have f1 := HK2.out.frozen 1; have f2 := HK2.out.frozen 2
    go_wp2
    refine bodyPost_ret (v := .tuple #[.agg #[.int .i64 0, .string ⟨#[]⟩, .string ⟨#[]⟩], .bool false]) (by simp [results, Tryz.results11, go_sem, x0, x1, x2]) rfl ⟨?_, .inr ⟨HNO.out, rfl⟩⟩
    exact (((HB2.out.setCell (p := ⟨w.heap.size, 0, none⟩) (Nat.le_refl _) _).setCell (p := ⟨w.heap.size, 1, none⟩) (Nat.le_refl _) _).setCell (p := ⟨w.heap.size, 2, none⟩) (Nat.le_refl _) _)
  have HI2 := Lib.hid (show inB M 1 2600 = true from inB_iff.2 hm9)
  go_wp2_with fail
  refine (l1In_any M 1 2600 _).mono ?_; rintro e4 w4 ⟨rfl, rfl⟩
  rw [HI2.out]
  obtain ⟨N', rfl⟩ := Int.eq_ofNat_of_zero_le (show 0 ≤ N by omega)
  obtain ⟨M', rfl⟩ := Int.eq_ofNat_of_zero_le (show 0 ≤ M by omega)
  have hn1 : N' ≤ 900 := by omega
  have hm1 : M' ≤ 2600 := by omega
  have HJ1 := Lib.hid (show ∀ W, Sl W 1 (.slice (some ⟨bg, off, none⟩) n c) (strs ls) → Calls Tryz.prog 31 #[.slice (some ⟨bg, off, none⟩) n c, .int .i64 1, .int .i64 ((N' : Int) + 1)] W fun e w' => e = .returned (.string ⟨(linesTo ls 1 (N' + 1)).toArray⟩) ∧ Below W.heap.size W w' from fun W h => by
    have := l7Join_any _ ls 1 (N' + 1) W h (by omega) (by omega) HJL.out
    push_cast at this
    exact this)
  have HJ2 := Lib.hid (show ∀ W, Sl W 1 (.slice (some ⟨bg, off, none⟩) n c) (strs ls) → Calls Tryz.prog 31 #[.slice (some ⟨bg, off, none⟩) n c, .int .i64 ((N' : Int) + 1), .int .i64 ((N' : Int) + M' + 1)] W fun e w' => e = .returned (.string ⟨(linesTo ls (N' + 1) (N' + M' + 1)).toArray⟩) ∧ Below W.heap.size W w' from fun W h => by
    have := l7Join_any _ ls (N' + 1) (N' + M' + 1) W h (by omega) (by omega) HJL.out
    push_cast at this
    exact this)
  clear hn9 hm9
  go_wp2_with fail
  refine (l2Num_any ⟨a1.toArray⟩ _).mono ?_; rintro e4 w4 ⟨rfl, rfl⟩
  rw [bstr, ← HE.out]
  go_wp2_with fail
  refine (HJ1.out _ ⟨_, _, _, rfl, HAL.out⟩).mono ?_; rintro e4 w5 ⟨rfl, b5⟩
  have HB5 := Lib.hid (below_then HB2.out b5); have HK5 := Lib.hid (HK2.out.below b5 hl2); have HAL5 := Lib.hid (HAL.out.below b5)
  have hl5 : w.heap.size < w5.heap.size := HK5.out.lt
  clear b5 z0 z1 z2 z3
  go_wp2_with fail
  refine (HJ2.out _ ⟨_, _, _, rfl, HAL5.out⟩).mono ?_; rintro e4 w6 ⟨rfl, b6⟩
  have HB6 := Lib.hid (below_then HB5.out b6); have HK6 := Lib.hid (HK5.out.below b6 hl5)
  have hl6 : w.heap.size < w6.heap.size := HK6.out.lt
  clear b6
  obtain ⟨R, hR⟩ : ∃ R, R = linesTo ls 1 (N' + 1) := ⟨_, rfl⟩
  obtain ⟨C, hC⟩ : ∃ C, C = linesTo ls (N' + 1) (N' + M' + 1) := ⟨_, rfl⟩
  rw [← hR, ← hC]
  have HUQ := Lib.hid (show ∀ p, isPack key text p → p = ⟨E, R, C⟩ from fun p h => by
    obtain ⟨u1, u2, u3, _, _⟩ := HNU.out p h
    obtain ⟨v1, v2⟩ := HLN.out p h
    have k1 : cnt10 p.r = N' := by omega
    have k2 : cnt10 p.c = M' := by omega
    rw [k1] at v1 v2
    rw [k2] at v2
    rw [hR, hC, v1, v2, u1])
  have hRl : R.length ≤ 4194304 := by
    have h1 := joinL_part ls 1 (N' + 1)
    have h2 := joinL_cut text
    rw [← HLS.out] at h2
    rw [hR]; unfold linesTo; omega
  have hCl : C.length ≤ 4194304 := by
    have h1 := joinL_part ls (N' + 1) (N' + M' + 1)
    have h2 := joinL_cut text
    rw [← HLS.out] at h2
    rw [hC]; unfold linesTo; omega
  have HTN := Lib.hid (show text ≠ [] from fun h => by
    have h1 := HCO.out
    rw [HLS.out, h] at h1
    have h2 : l0 = [] := by injection h1 with h1 _; exact h1.symm
    have h3 := HWL.out
    rw [h2] at h3
    exact absurd (congrArg List.length h3) (by simp [cut, cutGo]))
  obtain ⟨W7, hW7⟩ : ∃ X, X = w6.alloc (.cells #[.int .i64 E, .string ⟨R.toArray⟩, .string ⟨C.toArray⟩] 24) := ⟨_, rfl⟩
  have b7 : Below w6.heap.size w6 W7 := by rw [hW7]; go_grown
  have B7 : Blk W7 w6.heap.size 24 #[.int .i64 E, .string ⟨R.toArray⟩, .string ⟨C.toArray⟩] := by rw [hW7]; exact Blk.new _ _ _
  have HW7 := Lib.hid hW7; have HB7 := Lib.hid (below_then HB6.out b7); have HK7 := Lib.hid (HK6.out.below b7 hl6); have HP7 := Lib.hid B7
  have hl7 : w.heap.size < W7.heap.size := HK7.out.lt
  have hp7 : w6.heap.size < W7.heap.size := B7.lt
  clear hR hC hW7 b7 B7
  go_wp2_with fail
  rw [← HW7.out]
  refine (sPackWrite_any key ⟨E, R, C⟩ _ (by omega) (by show -9223372036854775808 ≤ E ∧ E ≤ 9223372036854775807; omega) hRl hCl).mono ?_; rintro e4 w8 ⟨rfl, b8⟩
  obtain ⟨T, hT⟩ : ∃ T, T = Pk.written key ⟨E, R, C⟩ := ⟨_, rfl⟩
  rw [← hT]
  have HTT := Lib.hid hT
  have HB8 := Lib.hid (below_then HB7.out b8); have HK8 := Lib.hid (HK7.out.below b8 hl7); have HP8 := Lib.hid (HP7.out.below b8 hp7)
  have hne8 : ¬ w.heap.size = w6.heap.size := by omega
  have hne9 : ¬ w6.heap.size = w.heap.size := by omega
  clear hT b8 hRl hCl
  by_cases hTe : T = text
  · have HIS := Lib.hid (isPack_of (by rw [← HTT.out]; exact hTe) HTN.out : isPack key text ⟨E, R, C⟩)
    have t1 : (T == text) = true := by simpa using hTe
    have t2 : (T != text) = false := by simpa using hTe
    clear hTe
    have x0 := (show _ = some (Value.int .i64 0) from HK8.out.cell 0); have x1 := (show _ = some (Value.string ⟨#[]⟩) from HK8.out.cell 1); have x2 := (show _ = some (Value.string ⟨#[]⟩) from HK8.out.cell 2); have f0 := HK8.out.frozen 0; have f1 := HK8.out.frozen 1; have f2 := HK8.out.frozen 2
    have y0 := (show _ = some (Value.int .i64 E) from HP8.out.cell 0); have y1 := (show _ = some (Value.string ⟨R.toArray⟩) from HP8.out.cell 1); have y2 := (show _ = some (Value.string ⟨C.toArray⟩) from HP8.out.cell 2)
    go_wp2
    refine bodyPost_ret (v := .tuple #[.agg #[.int .i64 E, .string ⟨R.toArray⟩, .string ⟨C.toArray⟩], .bool true]) (by simp [results, Tryz.results11, go_sem, x0, x1, x2, hne8, hne9]) rfl ⟨?_, .inl ⟨⟨E, R, C⟩, HIS.out, rfl⟩⟩
    exact (((HB8.out.setCell (p := ⟨w.heap.size, 0, none⟩) (Nat.le_refl _) _).setCell (p := ⟨w.heap.size, 1, none⟩) (Nat.le_refl _) _).setCell (p := ⟨w.heap.size, 2, none⟩) (Nat.le_refl _) _)
  · have HNO := Lib.hid (show ¬ ∃ p, isPack key text p from fun ⟨p, h⟩ => hTe (by
      have hq := HUQ.out p h
      rw [HTT.out, ← hq, written_yes h.1]
      exact h.2.symm))
    have t1 : (T == text) = false := by simpa using hTe
    have t2 : (T != text) = true := by simpa using hTe
    clear hTe
    have x0 := (show _ = some (Value.int .i64 0) from HK8.out.cell 0); have x1 := (show _ = some (Value.string ⟨#[]⟩) from HK8.out.cell 1); have x2 := (show _ = some (Value.string ⟨#[]⟩) from HK8.out.cell 2); have f0 := HK8.out.frozen 0; have f1 := HK8.out.frozen 1; have f2 := HK8.out.frozen 2
    go_wp2
    refine bodyPost_ret (v := .tuple #[.agg #[.int .i64 0, .string ⟨#[]⟩, .string ⟨#[]⟩], .bool false]) (by simp [results, Tryz.results11, go_sem, x0, x1, x2]) rfl ⟨?_, .inr ⟨HNO.out, rfl⟩⟩
    exact (((HB8.out.setCell (p := ⟨w.heap.size, 0, none⟩) (Nat.le_refl _) _).setCell (p := ⟨w.heap.size, 1, none⟩) (Nat.le_refl _) _).setCell (p := ⟨w.heap.size, 2, none⟩) (Nat.le_refl _) _)
end Go.Proofs.YtcomdkmglihdbaaGreatDoor
