/- How a graph and a call are drawn; impl.GraphTrim; impl.GraphRun: what it says of a call stands among the verdicts. -/
import Derived.Test.YtccklepidlddcaaDrawBent
import Derived.Test.YtccklepidlddcaaRdOpen
import Derived.Test.YtccklepidlddcaaDrawAny2
import Derived.Test.YtccklepidlddcaaWgCode
import Derived.Test.YtccklepidlddcaaGVerdP
import Derived.Test.YtccklepidlddcaaRelA
namespace Go.Proofs.Ytccklepidlddcaa
open Go.RowKit
set_option linter.unusedSimpArgs false
set_option linter.unusedVariables false

/-- A row of points lies apart from the reader: the reader has two cells alone. -/
theorem Sl.apartV {w w' : World} {g p : Nat} {v : Value} {gs : List Pt} (h : Sl w 7 v (gs.map Pt.cells)) (hr : Rd w g p) (hg : w.grownBy w' (some g)) : Sl w' 7 v (gs.map Pt.cells) := by
  obtain ⟨A, n, c, rfl, hA⟩ := h
  rcases Nat.eq_zero_or_pos n with h0 | h0
  · subst h0
    exact ⟨A, 0, c, rfl, hA.len, hA.cap, hA.max, fun h => absurd h (by omega)⟩
  · refine ⟨A, n, c, rfl, hA.grown hg fun b off e => ?_⟩
    obtain ⟨b', off', e', hb, he⟩ := hA.at_ h0
    rw [e] at e'
    cases e'
    intro e2
    subst e2
    obtain ⟨_, _, _, _, hrd⟩ := hr
    have hl := hA.len
    have hr0 : (gs.map Pt.cells)[0]? = some ((gs.map Pt.cells)[0]'(by omega)) := List.getElem?_eq_getElem _
    have hlen : ((gs.map Pt.cells)[0]'(by omega)).length = 7 := Pt.rows gs _ (List.getElem_mem _)
    have h6 := he 0 _ hr0 6 _ (List.getElem?_eq_getElem (by rw [hlen]; omega))
    rw [hrd.blk.cell] at h6
    simp at h6

set_option maxHeartbeats 1000000 in
theorem DrawGraphTrim_any (v : Value) (ys : List Int) (w : World) (hs : Sl w 1 v (u8s ys)) (hb : ∀ y ∈ ys, 0 ≤ y ∧ y ≤ 255) :
    Calls Try.prog 14 #[v] w fun e w' => ∃ (v' : Value) (gs : List Pt), e = .returned v' ∧ Sl w' 7 v' (gs.map Pt.cells) ∧ gs.length ≤ 1200 ∧ Below w.heap.size w w' := by
  have HS := Lib.hid hs; have HB := Lib.hid hb
  obtain ⟨A, n, c, rfl, -⟩ := hs
  clear hb
  go_enter Try.func14, Try.ntmps14
  go_wp2_with fail
  refine (l1Open_any _ ys _ HS.out HB.out).mono ?_; rintro e w1 ⟨rfl, r1, b1⟩
  go_wp2_with fail
  refine (l11Graph_any w.heap.size 0 _ r1 (by omega)).mono ?_; rintro e w2 ⟨v2, gs, q, rfl, hs2, hl2, g2, r2, hq⟩
  have D2 : Dq w1 w2 w.heap.size q := (Dq.start r1).step g2 r2
  have HS2 := Lib.hid hs2; clear hs2 r1 g2 r2
  go_wp2_with fail
  refine (pick_any w.heap.size q 10 _ D2.rd (by omega)).mono ?_; rintro e w3 ⟨k3, rfl, a3, b3, g3, r3⟩
  have D3 := D2.step g3 r3
  have HS3 := Lib.hid (HS2.out.apartV D2.rd g3)
  clear g3 r3 b3 D2
  by_cases hk : k3 = 0
  · subst hk
    go_wp2_with fail
    refine (l11BentGraph_any w.heap.size (q + 1) v2 gs _ D3.rd (by omega) HS3.out hl2).mono ?_; rintro e w4 ⟨v4, gs4, q4, rfl, hs4, hl4, g4, r4, -⟩
    have D4 := D3.step g4 r4
    have HS4 := Lib.hid hs4; clear hs4 g4 r4
    go_wp2
    go_ret
    exact ⟨v4, gs4, rfl, HS4.out, hl4, b1.trans (below_of_grown D4.grown (Nat.le_refl _) D4.lt)⟩
  · have hd : (k3 == 0) = false := by simp; omega
    go_wp2
    go_ret
    exact ⟨v2, gs, rfl, HS3.out, by omega, b1.trans (below_of_grown D3.grown (Nat.le_refl _) D3.lt)⟩
section
theorem wordOkW_any (n : Int) (w : World) :
    Calls Try.prog 33 #[.int .i64 n] w fun e w' => e = .returned (.bool (inB n 0 4294967295)) ∧ w = w' := by
  go_enter Try.func33, Try.ntmps33
  go_wp2
  all_goals (go_ret; exact ⟨ret_bool (by simp [inB]; omega), rfl⟩)

set_option maxHeartbeats 1000000 in
theorem CallOk_any (n : Int) (av : Value) (xs : List Int) (w : World) (hs : Sl w 1 av (ints xs)) :
    Calls Try.prog 26 #[.agg #[.int .i64 n, av]] w fun e w' => e = .returned (.bool (callOkB n xs)) ∧ Below w.heap.size w w' := by
  obtain ⟨A, m, c, rfl, hA⟩ := hs
  have hl : xs.length = m := by have := hA.len; rwa [ints_len] at this
  have hc := hA.cap
  have hm := hA.max
  unfold maxLen at hm
  have HL := Lib.hid hl; clear hl
  by_cases h1 : (0 ≤ n ∧ n ≤ 4294967295) ∧ m = 4
  · obtain ⟨h1, rfl⟩ := h1
    have hi : inB n 0 4294967295 = true := inB_iff.2 h1
    have H1 := Lib.hid h1; clear h1
    go_enter Try.func26, Try.ntmps26
    go_wp2_with (go_at_call 33; refine (wordOkW_any _ _).mono ?_; rintro e w' ⟨rfl, rfl⟩)
    go_loopw [18] (fun i wr => ∃ k : Nat, k ≤ 4 ∧ i = .int .i64 k ∧ wordsTo xs k ∧ Below w.heap.size w wr) (fun i _ => 4 - (intOf i).toNat)
    case atStart => exact ⟨0, by omega, rfl, wordsTo_zero xs, by go_grown⟩
    case round =>
      obtain ⟨k, hk, rfl, hto, hb⟩ := hrel
      have hsz := hb.size
      by_cases hlt : k < 4
      · obtain ⟨b, off, x, rfl, hab, hgp, hcell⟩ := ints_get hA hlt
        have c0 := hcell wr _ hb hab
        have HP := Lib.hid hgp; clear hgp hcell
        by_cases hx : 0 ≤ x ∧ x ≤ 4294967295
        · have hin : inB x 0 4294967295 = true := inB_iff.2 hx
          have HX := Lib.hid hx; clear hx
          go_wp2_with (go_at_call 33; refine (wordOkW_any _ _).mono ?_; rintro e w' ⟨rfl, rfl⟩)
          exact ⟨⟨k + 1, by omega, by go_num, wordsTo_succ hto HP.out HX.out, hb⟩, by simp [intOf]; omega⟩
        · have hin : inB x 0 4294967295 = false := inB_not.2 hx
          have HX := Lib.hid hx; clear hx
          go_wp2_with (go_at_call 33; refine (wordOkW_any _ _).mono ?_; rintro e w' ⟨rfl, rfl⟩)
          go_ret
          exact ⟨ret_bool (callOkB_of (by simpa using fun h : callOk n xs => HX.out (h.2.2 x (List.mem_of_getElem? HP.out)))), hb⟩
      · go_wp2
        go_ret
        exact ⟨ret_bool (callOkB_of (by simpa using ⟨H1.out, HL.out, wordsTo_all hto (by rw [HL.out]; omega)⟩)), hb⟩
  · have hno : false = callOkB n xs := callOkB_of (by simpa using fun h : callOk n xs => h1 ⟨h.1, HL.out.symm.trans h.2.1⟩)
    have HN := Lib.hid hno; clear hno
    by_cases h2 : 0 ≤ n ∧ n ≤ 4294967295
    · have hi : inB n 0 4294967295 = true := inB_iff.2 h2
      have h3 : ((m : Int) != 4) = true := by simp; omega
      clear h1 h2
      go_enter Try.func26, Try.ntmps26
      go_wp2_with (go_at_call 33; refine (wordOkW_any _ _).mono ?_; rintro e w' ⟨rfl, rfl⟩)
      go_ret
      exact ⟨ret_bool HN.out, by go_grown⟩
    · have hi : inB n 0 4294967295 = false := inB_not.2 h2
      clear h1 h2
      go_enter Try.func26, Try.ntmps26
      go_wp2_with (go_at_call 33; refine (wordOkW_any _ _).mono ?_; rintro e w' ⟨rfl, rfl⟩)
      go_ret
      exact ⟨ret_bool HN.out, by go_grown⟩

def fieldOfV (n : Int) (xs : List Int) (k : Int) : Int := if k = 0 then n else (xs[(k - 1).toNat]?).getD 0
theorem fieldOf_zeroV (n : Int) (xs : List Int) : fieldOfV n xs 0 = n := by simp [fieldOfV]
theorem intsCellRV {w : World} {A : Option Addr} {n c : Nat} {xs : List Int} (h : SlA w 1 A n c (ints xs)) {k : Nat} (hk : k < n) :
    ∃ b off, A = some ⟨b, off, none⟩ ∧ b < w.heap.size ∧ (∀ (w' : World) (B : Nat), Below B w w' → b < B → w'.cell? ⟨b, off + k, none⟩ = some (.int .i64 ((xs[k]?).getD 0))) := by
  have hl := h.len
  rw [ints_len] at hl
  obtain ⟨b, o, e, hb, hc⟩ := h.get hk
  refine ⟨b, o, e, hb, fun w' B hw hB => ?_⟩
  have hr : (ints xs)[k]? = some [.int .i64 ((xs[k]?).getD 0)] := by simp [ints, show k < xs.length by omega]
  have f := hc _ hr 0 _ rfl
  rw [Nat.mul_one, Nat.add_zero] at f
  exact cellAt hw hB f

theorem callFieldV_any (n : Int) (A : Option Addr) (c : Nat) (xs : List Int) (k : Int) (w : World) (hA : SlA w 1 A 4 c (ints xs)) (hk : 0 ≤ k ∧ k ≤ 4) :
    Calls Try.prog 28 #[.agg #[.int .i64 n, .slice A 4 c], .int .i64 k] w fun e w' => e = .returned (.int .i64 (fieldOfV n xs k)) ∧ Below w.heap.size w w' := by
  have hm := hA.max
  unfold maxLen at hm
  by_cases h0 : k = 0
  · subst h0
    rw [fieldOf_zeroV]
    go_enter Try.func28, Try.ntmps28
    go_wp2
    go_ret
    exact ⟨rfl, by go_grown⟩
  · obtain ⟨j, rfl⟩ : ∃ j : Nat, k = j + 1 := ⟨(k - 1).toNat, by omega⟩
    have hj4 : j < 4 := by omega
    have hji : (j : Int) < 4 := by omega
    have hf : fieldOfV n xs ((j : Int) + 1) = (xs[j]?).getD 0 := by unfold fieldOfV; rw [if_neg h0, show (((j : Int) + 1 - 1).toNat) = j by omega]
    rw [hf]
    obtain ⟨b, off, rfl, hb, hcell⟩ := intsCellRV hA hj4
    have c0 := hcell _ _ ((Below.refl w.heap.size w).alloc (Nat.le_refl _) (.cells #[.int .i64 n, .slice (some ⟨b, off, none⟩) 4 c] 30)) hb
    have h0' : ((j : Int) + 1 == 0) = false := by simp; omega
    have HF := Lib.hid hf; clear hf hcell
    go_enter Try.func28, Try.ntmps28
    go_wp2
    go_ret
    exact ⟨rfl, by go_grown⟩

theorem holds_eqV (a b : Int) (w : World) :
    Calls Try.prog 27 #[.int .i64 1, .int .i64 a, .int .i64 b] w fun e w' => e = .returned (.bool (a == b)) ∧ w = w' := by
  go_enter Try.func27, Try.ntmps27
  go_wp2
  go_ret
  exact ⟨rfl, rfl⟩
theorem holds_gtV (a b : Int) (w : World) :
    Calls Try.prog 27 #[.int .i64 3, .int .i64 a, .int .i64 b] w fun e w' => e = .returned (.bool (decide (b < a))) ∧ w = w' := by
  go_enter Try.func27, Try.ntmps27
  go_wp2
  all_goals
    go_ret
    exact ⟨ret_bool (by first | rfl | simp; omega), rfl⟩

end

theorem DrawGraphVerdicts_any (v : Value) (ys : List Int) (w : World) (hs : Sl w 1 v (u8s ys)) (hb : ∀ y ∈ ys, 0 ≤ y ∧ y ≤ 255) :
    Calls Try.prog 4 #[v] w fun e w' => ∃ (v' : Value) (gs : List Pt), e = .returned v' ∧ Sl w' 7 v' (gs.map Pt.cells) ∧ gs.length ≤ 1200 ∧ Below w.heap.size w w' := by
  have HS := Lib.hid hs; have HB := Lib.hid hb
  obtain ⟨A, n, c, rfl, -⟩ := hs
  clear hb
  go_enter Try.func4, Try.ntmps4
  go_wp2_with fail
  refine (DrawGraphTrim_any _ ys _ HS.out HB.out).mono ?_; rintro e w1 ⟨v1, gs, rfl, hs1, hl1, b1⟩
  have HS1 := Lib.hid hs1; clear hs1
  go_wp2
  go_ret
  exact ⟨v1, gs, rfl, HS1.out, hl1, b1⟩
set_option maxHeartbeats 1000000 in
theorem DrawGraphRun_any (v : Value) (ys : List Int) (w : World) (hs : Sl w 1 v (u8s ys)) (hb : ∀ y ∈ ys, 0 ≤ y ∧ y ≤ 255) :
    Calls Try.prog 10 #[v] w fun e w' => ∃ (v' : Value) (n : Int) (av : Value) (xs : List Int), e = .returned (.tuple #[v', .agg #[.int .i64 n, av]]) ∧ Sl w' 1 av (ints xs) ∧ Below w.heap.size w w' := by
  obtain ⟨W1, hW1⟩ : ∃ W, W = w.alloc (.cells #[.int .i64 0, .slice none 0 0] 30) := ⟨_, rfl⟩
  have K1 : Hid (Blk W1 w.heap.size 30 #[.int .i64 0, .slice none 0 0]) := by rw [hW1]; exact Lib.hid (Blk.new _ _ _)
  have bW : Hid (Below w.heap.size w W1) := by rw [hW1]; exact Lib.hid (by go_grown)
  have HS := Lib.hid (hs.below bW.out); have HB := Lib.hid hb; have HW1 := Lib.hid hW1
  obtain ⟨A, n, c, rfl, -⟩ := hs
  clear hb hW1
  go_enter Try.func10, Try.ntmps10
  go_wp2_with fail
  rw [← HW1.out]
  refine (l1Open_any _ ys _ HS.out HB.out).mono ?_; rintro e w1 ⟨rfl, r1, b1⟩
  go_wp2_with fail
  refine (l11Graph_any W1.heap.size 0 _ r1 (by omega)).mono ?_; rintro e w2 ⟨v2, gs, q, rfl, hs2, hl2, g2, r2, hq⟩
  have D2 : Dq w1 w2 W1.heap.size q := (Dq.start r1).step g2 r2
  have HS2 := Lib.hid hs2; clear hs2 r1 g2 r2
  go_wp2_with fail
  refine (pick_any W1.heap.size q 10 _ D2.rd (by omega)).mono ?_; rintro e w3 ⟨k3, rfl, a3, b3, g3, r3⟩
  have D3 := D2.step g3 r3
  have HS3 := Lib.hid (HS2.out.apartV D2.rd g3)
  clear g3 r3 b3 D2
  by_cases hk : k3 = 0
  · subst hk
    go_wp2_with fail
    refine (l11BentGraph_any W1.heap.size (q + 1) v2 gs _ D3.rd (by omega) HS3.out hl2).mono ?_; rintro e w4 ⟨v4, gs4, q4, rfl, hs4, hl4, g4, r4, hq4⟩
    have D4 := D3.step g4 r4
    clear hs4 g4 r4
    go_wp2_with fail
    refine (l11AnyCall_any W1.heap.size q4 _ D4.rd (by omega)).mono ?_; rintro e w5 ⟨n5, v5, xs, q5, rfl, hf5, g5, r5, hq5⟩
    have D5 := D4.step g5 r5
    have b5 := Lib.hid (b1.trans (below_of_grown D5.grown (Nat.le_refl _) D5.lt))
    have K5 := Lib.hid (K1.out.below b5.out K1.out.lt)
    have HB5 := Lib.hid (below_then bW.out b5.out)
    obtain ⟨A5, m5, cc5, rfl, hA5, hfar⟩ := hf5
    have HK := Lib.hid (SlA.kept2 (w := w) (a := .int .i64 n5) (b := .slice A5 m5 cc5) hA5 (fun b off e => by have h1 := hfar b off e; have h2 := K1.out.lt; have h3 := b1.size; have h4 := D4.size; omega))
    have x0 := (show _ = some (Value.int .i64 0) from K5.out.cell 0); have x1 := (show _ = some (Value.slice none 0 0) from K5.out.cell 1); have f0 := K5.out.frozen 0; have f1 := K5.out.frozen 1
    clear hA5 hfar g5 r5 D5
    go_wp2
    refine bodyPost_ret (v := .tuple #[v4, .agg #[.int .i64 n5, .slice A5 m5 cc5]]) (by simp [results, Try.results10, go_sem, x0, x1]) rfl ⟨_, n5, _, xs, rfl, ⟨_, _, _, rfl, HK.out⟩, (HB5.out.setCell (p := ⟨w.heap.size, 0, none⟩) (Nat.le_refl _) _).setCell (p := ⟨w.heap.size, 1, none⟩) (Nat.le_refl _) _⟩
  · have hd : (k3 == 0) = false := by simp; omega
    go_wp2_with fail
    refine (l11AnyCall_any W1.heap.size (q + 1) _ D3.rd (by omega)).mono ?_; rintro e w5 ⟨n5, v5, xs, q5, rfl, hf5, g5, r5, hq5⟩
    have D5 := D3.step g5 r5
    have b5 := Lib.hid (b1.trans (below_of_grown D5.grown (Nat.le_refl _) D5.lt))
    have K5 := Lib.hid (K1.out.below b5.out K1.out.lt)
    have HB5 := Lib.hid (below_then bW.out b5.out)
    obtain ⟨A5, m5, cc5, rfl, hA5, hfar⟩ := hf5
    have HK := Lib.hid (SlA.kept2 (w := w) (a := .int .i64 n5) (b := .slice A5 m5 cc5) hA5 (fun b off e => by have h1 := hfar b off e; have h2 := K1.out.lt; have h3 := b1.size; have h4 := D3.size; omega))
    have x0 := (show _ = some (Value.int .i64 0) from K5.out.cell 0); have x1 := (show _ = some (Value.slice none 0 0) from K5.out.cell 1); have f0 := K5.out.frozen 0; have f1 := K5.out.frozen 1
    clear hA5 hfar g5 r5 D5
    go_wp2
    refine bodyPost_ret (v := .tuple #[v2, .agg #[.int .i64 n5, .slice A5 m5 cc5]]) (by simp [results, Try.results10, go_sem, x0, x1]) rfl ⟨_, n5, _, xs, rfl, ⟨_, _, _, rfl, HK.out⟩, (HB5.out.setCell (p := ⟨w.heap.size, 0, none⟩) (Nat.le_refl _) _).setCell (p := ⟨w.heap.size, 1, none⟩) (Nat.le_refl _) _⟩

theorem GraphTrim_any (v : Value) (g : List Pt) (w : World) (hs : Sl w 7 v (g.map Pt.cells)) (hg : graphOk g) :
    Calls Try.prog 13 #[v] w fun e w' => ∃ (v' : Value) (g' : List Pt), e = .returned v' ∧ Sl w' 7 v' (g'.map Pt.cells) ∧ TrimIs g (g.length - 1) g' ∧ Below w.heap.size w w' := by
  have HGO := Lib.hid (GraphOk_any v g w hs)
  rw [show graphOkB g = true from graphOkB_iff.2 hg] at HGO
  obtain ⟨A, n, c, rfl, hA⟩ := hs
  have hn : g.length = n := by have := hA.len; simpa using this
  have hc := hA.cap
  have hm := hA.max
  unfold maxLen at hm
  have h1 : 1 ≤ n ∧ n ≤ 120 := by rw [← hn]; exact hg.1
  obtain ⟨h1, h2⟩ := h1
  have HA := Lib.hid hA; have HG := Lib.hid hg; have HN := Lib.hid hn
  clear hA hg hn
  go_enter Try.func13, Try.ntmps13
  go_wp2_with fail
  refine (HGO.out).mono ?_; rintro e w1 ⟨rfl, hb1⟩
  have HB1 := Lib.hid hb1; clear hb1
  go_wp2_with fail
  rw [show (n : Int) - 1 = ((n - 1 : Nat) : Int) by omega]
  refine (trimFrom_any (n - 1) A n c g _ (HA.out.below HB1.out) (graphOk_good HG.out) (graphOk_small HG.out) (by omega) (by omega)).mono ?_
  rintro e w2 ⟨v2, g2, rfl, hs2, ht2, -, -, -, hb2⟩
  have HS2 := Lib.hid hs2; have HT2 := Lib.hid ht2; have HB2 := Lib.hid hb2
  clear hs2 ht2 hb2
  go_wp2
  go_ret
  exact ⟨v2, g2, rfl, HS2.out, by rw [HN.out]; exact HT2.out, below_then HB1.out HB2.out⟩

theorem callOk_len {n : Int} {xs : List Int} (h : callOkB n xs = true) : xs.length = 4 := ((callOkB_iff).1 h).2.1
set_option maxHeartbeats 16000000 in
theorem GraphRun_any (v : Value) (g : List Pt) (n0 : Int) (av : Value) (xs : List Int) (w : World) (hs : Sl w 7 v (g.map Pt.cells)) (hg : graphOk g) (hx : Sl w 1 av (ints xs)) :
    Calls Try.prog 11 #[v, .agg #[.int .i64 n0, av]] w fun e w' => ∃ r : Int, e = .returned (.int .i64 r) ∧ (callOkB n0 xs = true → r ∈ verdictsOf g) ∧ Below w.heap.size w w' := by
  obtain ⟨W1, hW1⟩ : ∃ W, W = w.alloc (.cells #[.int .i64 n0, av] 30) := ⟨_, rfl⟩
  have K1 : Hid (Blk W1 w.heap.size 30 #[.int .i64 n0, av]) := by rw [hW1]; exact Lib.hid (Blk.new _ _ _)
  have bW : Hid (Below w.heap.size w W1) := by rw [hW1]; exact Lib.hid (by go_grown)
  replace hs := hs.below bW.out
  replace hx := hx.below bW.out
  have HGO := Lib.hid (GraphOk_any v g W1 hs)
  rw [show graphOkB g = true from graphOkB_iff.2 hg] at HGO
  have HX := Lib.hid hx; have HW1 := Lib.hid hW1
  clear hW1
  obtain ⟨A, n, c, rfl, hA⟩ := hs
  obtain ⟨A4, n4, c4, rfl, hA4⟩ := hx
  have hn : g.length = n := by have := hA.len; simpa using this
  have hn4 : xs.length = n4 := by have := hA4.len; rwa [ints_len] at this
  have hc := hA.cap
  have hm := hA.max
  unfold maxLen at hm
  have h1 : 1 ≤ n ∧ n ≤ 120 := by rw [← hn]; exact hg.1
  obtain ⟨h1, h2⟩ := h1
  have HA := Lib.hid hA; have HG := Lib.hid hg; have HN := Lib.hid hn; have HA4 := Lib.hid hA4
  clear hA hg hA4
  cases hco : callOkB n0 xs with
  | false =>
    clear hn hn4
    go_enter Try.func11, Try.ntmps11
    go_wp2_with fail
    rw [← HW1.out]
    refine (HGO.out).mono ?_; rintro e w1 ⟨rfl, hb1⟩
    have x0 := (show _ = some (Value.int .i64 n0) from (K1.out.below hb1 K1.out.lt).cell 0); have x1 := (show _ = some (Value.slice A4 _ c4) from (K1.out.below hb1 K1.out.lt).cell 1)
    go_wp2_with fail
    refine (CallOk_any n0 _ xs _ (HX.out.below hb1)).mono ?_; rintro e w2 ⟨rfl, hb2⟩
    rw [hco]
    go_wp2
    go_ret
    exact ⟨4, rfl, fun h => (Bool.false_ne_true h).elim, below_then bW.out (below_then hb1 hb2)⟩
  | true =>
    obtain rfl : 4 = n4 := (callOk_len hco).symm.trans hn4
    clear hn4 hn
    go_enter Try.func11, Try.ntmps11
    go_wp2_with fail
    rw [← HW1.out]
    refine (HGO.out).mono ?_; rintro e w1 ⟨rfl, hb1⟩
    have x0 := (show _ = some (Value.int .i64 n0) from (K1.out.below hb1 K1.out.lt).cell 0); have x1 := (show _ = some (Value.slice A4 _ c4) from (K1.out.below hb1 K1.out.lt).cell 1)
    go_wp2_with fail
    refine (CallOk_any n0 _ xs _ (HX.out.below hb1)).mono ?_; rintro e w2 ⟨rfl, hb2⟩
    rw [hco]
    have HB2 := Lib.hid (below_then hb1 hb2)
    have KC := Lib.hid (K1.out.below HB2.out K1.out.lt)
    clear hb1 hb2 hco x0 x1
    obtain ⟨b, off, p0, rfl, hab, hgp0, hcell0⟩ := pts_get HA.out (k := n - 1) (by omega)
    have HP0 := Lib.hid hgp0
    have HR0 := Lib.hid (show (reachOf g)[n - 1]? = some true by rw [← HN.out]; exact reach_top HG.out)
    obtain ⟨pv, pf, pm, po, pl, py, pn⟩ := p0
    obtain ⟨c0, c1, c2, c3, c4', c5, c6⟩ := hcell0 w2 _ HB2.out hab
    simp only at c0 c1 c2 c3 c4' c5 c6
    have hi0 : (n : Int) - 1 = ((n - 1 : Nat) : Int) := by omega
    clear hgp0 hcell0
    have hsz := HB2.out.size
    go_wp2_with fail
    go_loopg [] (n - 1) (fun gk wr => ∃ (k : Nat) (p : Pt), gk = k ∧ k < n ∧ Hid (g[k]? = some p) ∧ Hid ((reachOf g)[k]? = some true) ∧ Hid (Blk wr w2.heap.size 40 #[.int .i64 p.verdict, .int .i64 p.field, .int .i64 p.mask, .int .i64 p.op, .int .i64 p.value, .int .i64 p.yes, .int .i64 p.no]) ∧ Hid (Below w2.heap.size w2 wr))
    case atStart => exact ⟨n - 1, _, rfl, by omega, HP0, HR0, Lib.hid (Blk.new _ _ _), Lib.hid (by go_grown)⟩
    case round =>
      obtain ⟨k, ⟨pv, pf, pm, po, pl, py, pn⟩, hgk, hkn, HP, HR, HBk, HBL⟩ := hrel
      have HGK := Lib.hid hgk
      clear hgk c0 c1 c2 c3 c4' c5 c6 HP0 HR0 hi0 HW1
      have HBB := Lib.hid HBk.out
      simp only at HBB
      by_cases h0 : po = 0
      · subst h0
        have HV : Hid (pv ∈ verdictsOf g) := Lib.hid (leaf_in HG.out HR.out HP.out rfl)
        have y0 := (show _ = some (Value.int .i64 pv) from HBB.out.cell 0); have y3 := (show _ = some (Value.int .i64 0) from HBB.out.cell 3)
        go_wp2
        go_ret
        exact ⟨pv, rfl, HV.out, below_then (below_then bW.out HB2.out) HBL.out⟩
      · obtain ⟨y, nn, hy, hnn, hyk, hnk, ry, rn⟩ := reach_look HG.out HR.out HP.out h0
        simp only at hy hnn
        subst hy hnn
        have hpt : (po = 1 ∨ po = 3) ∧ (0 ≤ pf ∧ pf ≤ 4) := by
          rcases HG.out.2 k _ HP.out with h | h
          · exact absurd h.1 h0
          · exact ⟨h.1, h.2.2.1⟩
        have HPT := Lib.hid hpt; have HRY := Lib.hid ry; have HRN := Lib.hid rn
        have hd : (po != 0) = true := by simpa using h0
        have HKR := Lib.hid (KC.out.below HBL.out (Nat.lt_of_lt_of_le K1.out.lt HB2.out.size))
        have HA4R := Lib.hid (HA4.out.below (below_then HB2.out HBL.out))
        have y3 := (show _ = some (Value.int .i64 po) from HBB.out.cell 3)
        clear hpt ry rn h0
        obtain ⟨wd, hwd⟩ : ∃ wd, wd = fieldOfV n0 xs pf := ⟨_, rfl⟩
        have HWD := Lib.hid hwd
        clear hwd
        obtain ⟨by', offy, ⟨qv, qf, qm, qo, ql, qy, qn⟩, ey, hby, hgy, hcy⟩ := pts_get HA.out (k := y) (by omega)
        obtain ⟨rfl, rfl⟩ : b = by' ∧ off = offy := by simpa using ey
        obtain ⟨bn', offn, ⟨rv, rf, rm, ro, rl, ry', rn'⟩, en, hbn, hgn, hcn⟩ := pts_get HA.out (k := nn) (by omega)
        obtain ⟨rfl, rfl⟩ : b = bn' ∧ off = offn := by simpa using en
        have HGY := Lib.hid hgy; have HGN := Lib.hid hgn; have HCY := Lib.hid hcy; have HCN := Lib.hid hcn
        clear hcy hcn hgy hgn ey en
        have hyn : (y : Int) < n := by omega
        have hnnn : (nn : Int) < n := by omega
        rcases HPT.out.1 with rfl | rfl
        · go_wp2_with fail
          clear y3
          refine wp_region_fixed (fun w' => Below wr.heap.size wr w') (by kernel_rfl) (by kernel_rfl) (Below.refl _ _).drew ?_
          iterate 12
            apply wpFx_step
            case h =>
              intro wf hw
              have H9 := Lib.hid hw
              have HB9 := Lib.hid (HBB.out.below hw HBB.out.lt)
              have HK9 := Lib.hid (HKR.out.below hw HKR.out.lt)
              have x0 := (show _ = some (Value.int .i64 n0) from HK9.out.cell 0); have x1 := (show _ = some (Value.slice A4 4 c4) from HK9.out.cell 1)
              have y0 := (show _ = some (Value.int .i64 pv) from HB9.out.cell 0); have y1 := (show _ = some (Value.int .i64 pf) from HB9.out.cell 1); have y2 := (show _ = some (Value.int .i64 pm) from HB9.out.cell 2); have y3 := (show _ = some (Value.int .i64 _) from HB9.out.cell 3); have y4 := (show _ = some (Value.int .i64 pl) from HB9.out.cell 4); have y5 := (show _ = some (Value.int .i64 (y : Int)) from HB9.out.cell 5); have y6 := (show _ = some (Value.int .i64 (nn : Int)) from HB9.out.cell 6)
              clear hw
              go_wp2_with (first | (go_at_call 28; refine (callFieldV_any n0 A4 c4 xs pf _ (HA4R.out.below H9.out) HPT.out.2).mono ?_; rintro e w4 ⟨rfl, hbb⟩; rw [← HWD.out]; replace H9 := Lib.hid (below_then H9.out hbb); clear hbb) | (go_at_call 27; refine (holds_eqV _ _ _).mono ?_; rintro e w4 ⟨rfl, rfl⟩))
              exact ⟨rfl, rfl, H9.out⟩
          refine wpFx_end (fun w3 hw => ?_)
          have HBK3 := Lib.hid (HBB.out.below hw HBB.out.lt)
          have HALL := Lib.hid (below_then HB2.out (below_then HBL.out hw))
          have HBE := Lib.hid (below_then HBL.out hw)
          have hl3 : w2.heap.size < w3.heap.size := HBK3.out.lt
          obtain ⟨u0, u1, u2, u3, u4, u5, u6⟩ := HCY.out w3 _ HALL.out hab
          obtain ⟨v0, v1, v2, v3, v4, v5, v6⟩ := HCN.out w3 _ HALL.out hab
          simp only at u0 u1 u2 u3 u4 u5 u6 v0 v1 v2 v3 v4 v5 v6
          have y0 := (show _ = some (Value.int .i64 pv) from HBK3.out.cell 0); have y1 := (show _ = some (Value.int .i64 pf) from HBK3.out.cell 1); have y2 := (show _ = some (Value.int .i64 pm) from HBK3.out.cell 2); have y3 := (show _ = some (Value.int .i64 _) from HBK3.out.cell 3); have y4 := (show _ = some (Value.int .i64 pl) from HBK3.out.cell 4); have y5 := (show _ = some (Value.int .i64 (y : Int)) from HBK3.out.cell 5); have y6 := (show _ = some (Value.int .i64 (nn : Int)) from HBK3.out.cell 6)
          have z0 := HBK3.out.frozen 0; have z1 := HBK3.out.frozen 1; have z2 := HBK3.out.frozen 2; have z3 := HBK3.out.frozen 3; have z4 := HBK3.out.frozen 4; have z5 := HBK3.out.frozen 5; have z6 := HBK3.out.frozen 6
          clear hw
          generalize hbb : (Go.bits BinOp.and IntKind.i64 wd pm == pl) = bb
          clear hbb
          cases bb with
          | true =>
            go_wp2
            go_roundg y
            case measure => have := HGK.out; omega
            case rel => exact ⟨y, ⟨qv, qf, qm, qo, ql, qy, qn⟩, rfl, by omega, HGY, HRY, Lib.hid (((((((HBK3.out.set_ 0 _).set_ 1 _).set_ 2 _).set_ 3 _).set_ 4 _).set_ 5 _).set_ 6 _), Lib.hid (((((((HBE.out.setCell (p := ⟨w2.heap.size, 0, none⟩) (Nat.le_refl _) _).setCell (p := ⟨w2.heap.size, 1, none⟩) (Nat.le_refl _) _).setCell (p := ⟨w2.heap.size, 2, none⟩) (Nat.le_refl _) _).setCell (p := ⟨w2.heap.size, 3, none⟩) (Nat.le_refl _) _).setCell (p := ⟨w2.heap.size, 4, none⟩) (Nat.le_refl _) _).setCell (p := ⟨w2.heap.size, 5, none⟩) (Nat.le_refl _) _).setCell (p := ⟨w2.heap.size, 6, none⟩) (Nat.le_refl _) _)⟩
          | false =>
            go_wp2
            go_roundg nn
            case measure => have := HGK.out; omega
            case rel => exact ⟨nn, ⟨rv, rf, rm, ro, rl, ry', rn'⟩, rfl, by omega, HGN, HRN, Lib.hid (((((((HBK3.out.set_ 0 _).set_ 1 _).set_ 2 _).set_ 3 _).set_ 4 _).set_ 5 _).set_ 6 _), Lib.hid (((((((HBE.out.setCell (p := ⟨w2.heap.size, 0, none⟩) (Nat.le_refl _) _).setCell (p := ⟨w2.heap.size, 1, none⟩) (Nat.le_refl _) _).setCell (p := ⟨w2.heap.size, 2, none⟩) (Nat.le_refl _) _).setCell (p := ⟨w2.heap.size, 3, none⟩) (Nat.le_refl _) _).setCell (p := ⟨w2.heap.size, 4, none⟩) (Nat.le_refl _) _).setCell (p := ⟨w2.heap.size, 5, none⟩) (Nat.le_refl _) _).setCell (p := ⟨w2.heap.size, 6, none⟩) (Nat.le_refl _) _)⟩
        · go_wp2_with fail
          clear y3
          refine wp_region_fixed (fun w' => Below wr.heap.size wr w') (by kernel_rfl) (by kernel_rfl) (Below.refl _ _).drew ?_
          iterate 12
            apply wpFx_step
            case h =>
              intro wf hw
              have H9 := Lib.hid hw
              have HB9 := Lib.hid (HBB.out.below hw HBB.out.lt)
              have HK9 := Lib.hid (HKR.out.below hw HKR.out.lt)
              have x0 := (show _ = some (Value.int .i64 n0) from HK9.out.cell 0); have x1 := (show _ = some (Value.slice A4 4 c4) from HK9.out.cell 1)
              have y0 := (show _ = some (Value.int .i64 pv) from HB9.out.cell 0); have y1 := (show _ = some (Value.int .i64 pf) from HB9.out.cell 1); have y2 := (show _ = some (Value.int .i64 pm) from HB9.out.cell 2); have y3 := (show _ = some (Value.int .i64 _) from HB9.out.cell 3); have y4 := (show _ = some (Value.int .i64 pl) from HB9.out.cell 4); have y5 := (show _ = some (Value.int .i64 (y : Int)) from HB9.out.cell 5); have y6 := (show _ = some (Value.int .i64 (nn : Int)) from HB9.out.cell 6)
              clear hw
              go_wp2_with (first | (go_at_call 28; refine (callFieldV_any n0 A4 c4 xs pf _ (HA4R.out.below H9.out) HPT.out.2).mono ?_; rintro e w4 ⟨rfl, hbb⟩; rw [← HWD.out]; replace H9 := Lib.hid (below_then H9.out hbb); clear hbb) | (go_at_call 27; refine (holds_gtV _ _ _).mono ?_; rintro e w4 ⟨rfl, rfl⟩))
              exact ⟨rfl, rfl, H9.out⟩
          refine wpFx_end (fun w3 hw => ?_)
          have HBK3 := Lib.hid (HBB.out.below hw HBB.out.lt)
          have HALL := Lib.hid (below_then HB2.out (below_then HBL.out hw))
          have HBE := Lib.hid (below_then HBL.out hw)
          have hl3 : w2.heap.size < w3.heap.size := HBK3.out.lt
          obtain ⟨u0, u1, u2, u3, u4, u5, u6⟩ := HCY.out w3 _ HALL.out hab
          obtain ⟨v0, v1, v2, v3, v4, v5, v6⟩ := HCN.out w3 _ HALL.out hab
          simp only at u0 u1 u2 u3 u4 u5 u6 v0 v1 v2 v3 v4 v5 v6
          have y0 := (show _ = some (Value.int .i64 pv) from HBK3.out.cell 0); have y1 := (show _ = some (Value.int .i64 pf) from HBK3.out.cell 1); have y2 := (show _ = some (Value.int .i64 pm) from HBK3.out.cell 2); have y3 := (show _ = some (Value.int .i64 _) from HBK3.out.cell 3); have y4 := (show _ = some (Value.int .i64 pl) from HBK3.out.cell 4); have y5 := (show _ = some (Value.int .i64 (y : Int)) from HBK3.out.cell 5); have y6 := (show _ = some (Value.int .i64 (nn : Int)) from HBK3.out.cell 6)
          have z0 := HBK3.out.frozen 0; have z1 := HBK3.out.frozen 1; have z2 := HBK3.out.frozen 2; have z3 := HBK3.out.frozen 3; have z4 := HBK3.out.frozen 4; have z5 := HBK3.out.frozen 5; have z6 := HBK3.out.frozen 6
          clear hw
          generalize hbb : decide (pl < Go.bits BinOp.and IntKind.i64 wd pm) = bb
          clear hbb
          cases bb with
          | true =>
            go_wp2
            go_roundg y
            case measure => have := HGK.out; omega
            case rel => exact ⟨y, ⟨qv, qf, qm, qo, ql, qy, qn⟩, rfl, by omega, HGY, HRY, Lib.hid (((((((HBK3.out.set_ 0 _).set_ 1 _).set_ 2 _).set_ 3 _).set_ 4 _).set_ 5 _).set_ 6 _), Lib.hid (((((((HBE.out.setCell (p := ⟨w2.heap.size, 0, none⟩) (Nat.le_refl _) _).setCell (p := ⟨w2.heap.size, 1, none⟩) (Nat.le_refl _) _).setCell (p := ⟨w2.heap.size, 2, none⟩) (Nat.le_refl _) _).setCell (p := ⟨w2.heap.size, 3, none⟩) (Nat.le_refl _) _).setCell (p := ⟨w2.heap.size, 4, none⟩) (Nat.le_refl _) _).setCell (p := ⟨w2.heap.size, 5, none⟩) (Nat.le_refl _) _).setCell (p := ⟨w2.heap.size, 6, none⟩) (Nat.le_refl _) _)⟩
          | false =>
            go_wp2
            go_roundg nn
            case measure => have := HGK.out; omega
            case rel => exact ⟨nn, ⟨rv, rf, rm, ro, rl, ry', rn'⟩, rfl, by omega, HGN, HRN, Lib.hid (((((((HBK3.out.set_ 0 _).set_ 1 _).set_ 2 _).set_ 3 _).set_ 4 _).set_ 5 _).set_ 6 _), Lib.hid (((((((HBE.out.setCell (p := ⟨w2.heap.size, 0, none⟩) (Nat.le_refl _) _).setCell (p := ⟨w2.heap.size, 1, none⟩) (Nat.le_refl _) _).setCell (p := ⟨w2.heap.size, 2, none⟩) (Nat.le_refl _) _).setCell (p := ⟨w2.heap.size, 3, none⟩) (Nat.le_refl _) _).setCell (p := ⟨w2.heap.size, 4, none⟩) (Nat.le_refl _) _).setCell (p := ⟨w2.heap.size, 5, none⟩) (Nat.le_refl _) _).setCell (p := ⟨w2.heap.size, 6, none⟩) (Nat.le_refl _) _)⟩
end Go.Proofs.Ytccklepidlddcaa
