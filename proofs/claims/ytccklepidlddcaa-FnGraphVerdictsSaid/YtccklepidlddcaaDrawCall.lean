/- How the laws draw words and calls: what is drawn is in its bounds. -/
import Derived.Test.YtccklepidlddcaaTxt
import Derived.Test.YtccklepidlddcaaRd
namespace Go.Proofs.Ytccklepidlddcaa
open Go.RowKit
set_option linter.unusedSimpArgs false
set_option linter.unusedVariables false

set_option maxHeartbeats 1000000 in
theorem l11Word_any (g p : Nat) (w : World) (h : Rd w g p) (hp : p ≤ 900000000) :
    Calls Try.prog 53 #[.pointer (some ⟨g, 0, none⟩)] w fun e w' =>
      ∃ x : Int, e = .returned (.int .i64 x) ∧ 0 ≤ x ∧ x ≤ 4294967295 ∧ w.grownBy w' (some g) ∧ Rd w' g (p + 4) := by
  go_enter Try.func53, Try.ntmps53
  go_wp2_with fail
  refine (pick_any g p 6 _ h (by omega)).mono ?_; rintro e w1 ⟨k1, rfl, h1, h1', g1, r1⟩
  have h1'' := h1' (by omega)
  go_wp2_with fail
  refine (pick_any g (p + 1) 20 _ r1 (by omega)).mono ?_; rintro e w2 ⟨k2, rfl, h2, h2', g2, r2⟩
  have h2'' := h2' (by omega)
  go_wp2_with fail
  refine (pick_any g (p + 2) 20 _ r2 (by omega)).mono ?_; rintro e w3 ⟨k3, rfl, h3, h3', g3, r3⟩
  have h3'' := h3' (by omega)
  have G3 := (g1.trans g2).trans g3
  go_wp2_with fail
  have hB := Blk.new w3 3 #[.int .i64 k1, .int .i64 k2, .int .i64 (16 * k3), .int .i64 4294967295, .int .i64 4294967294, .int .i64 65535]
  refine (pick_any g (p + 3) 6 _ (r3.next (by go_grown)) (by omega)).mono ?_; rintro e w4 ⟨k4, rfl, h4, h4', g4, r4⟩
  have h4'' := h4' (by omega)
  have hlt := r3.lt
  have hB4 := hB.grown g4 (by simp; omega)
  have G4 : w.grownBy w4 (some g) := (G3.trans (World.grownBy_alloc _ _ _)).trans g4
  have c0 := hB4.cell 0; have c1 := hB4.cell 1; have c2 := hB4.cell 2; have c3 := hB4.cell 3; have c4 := hB4.cell 4; have c5 := hB4.cell 5
  simp at c0 c1 c2 c3 c4 c5
  clear h1' h2' h3' h4' hB hB4 g1 g2 g3 g4
  obtain rfl | rfl | rfl | rfl | rfl | rfl : k4 = 0 ∨ k4 = 1 ∨ k4 = 2 ∨ k4 = 3 ∨ k4 = 4 ∨ k4 = 5 := by omega
  all_goals go_wp2
  all_goals
    go_ret
    exact ⟨_, rfl, by omega, by omega, G4, r4⟩

/-- A row of words. -/
def Words (xs : List Int) : Prop := ∀ x ∈ xs, 0 ≤ x ∧ x ≤ 4294967295

/-- 'append(out, x)' inside a region, where a call stands behind the draw. -/
theorem step_app0 {P : Program} {w0 : World} {ops : Array Oper} {o : Oper} {a : Act} {K : Act → World → Prop} {Q : Exit → Act → World → Prop} {E : Prop} {e2 : TypeId} {r : List Value} (hgd : o.guard = none) (s x : Operand) (t : TypeId)
    (ho : o.op = .call { callee := .builtin .append, args := #[s, x], argTypes := #[t, t] })
    (base : Nat) (e : TypeId) {z : Value} {size bytes : Nat} (ht : P.underlying t = some (.slice e)) (hinfo : (P.info? e).map (fun i => (i.zero, i.size, i.bytes)) = some (some z, size, bytes))
    (hzs : z.cells.size = size) (hsz : 0 < size) (hby : 0 < bytes)
    (v : Value) (n : Nat) (cs : List (List Value)) (hs : a.eval s = v) (hown : w0.ownsRow base e size v n cs.flatten)
    (hr : r.length = size) (h1 : ∀ u ∈ r, u.oneCell' = true) (hx : a.eval x = .slice (some ⟨w0.heap.size, 0, none⟩) 1 1)
    (hn : (n + 1) * bytes ≤ 140737488355328) (hbase : base ≤ w0.heap.size)
    (h : ∀ v' w', w'.ownsRow base e size v' (n + 1) (cs ++ [r]).flatten → Below base w0 w' → v' ≠ .slice none 0 0 → K (a.put o.dst v') w') :
    if Region.wanted o (yielded ops a.tmps) = true then Oper.wp P o a (w0.alloc (.cells r.toArray e2)) K Q else E := by
  have hw : Region.wanted o (yielded ops a.tmps) = true := by simp [Region.wanted, hgd]
  rw [if_pos hw]
  obtain ⟨i0, hi0, hz0, hz1, hz2⟩ := info_parts hinfo
  have hn1 : n + 1 ≤ 140737488355328 := Nat.le_trans (Nat.le_mul_of_pos_right _ hby) hn
  refine wp_append_own _ s x t ho base e i0 z size bytes ht hi0 hz0 hz1 hz2 hzs hsz v n cs.flatten hs (hown.alloc _) ⟨w0.heap.size, 0, none⟩ 1 1 r hx (by omega) (fun j u hu => ?_) h1 (by unfold maxLen; omega) hn
    (by simp; omega) (fun v' w' hown' hg hv => h v' w' (by simpa using hown') ?_ (fun e => by have := (hv.1 e).2; omega))
  · rw [add_at, cell_of_row _ _ _ r.toArray e2 (0, 0) (heap_alloc_new w0 _)]
    simpa using hu
  · exact ((Below.refl base w0).alloc hbase _).grown hg (by simp; omega) (fun k hk => (hown.lt k hk).1)

/-- How the world stands while a call is drawn. -/
structure Dr (w wr : World) (g p h3 : Nat) (num : Int) (v : Value) (xs : List Int) : Prop where
  rd : Rd wr g p
  t2 : Blk wr w.heap.size 30 #[.int .i64 0, .slice none 0 0]
  t3 : Blk wr h3 30 #[.int .i64 num, v]
  after : w.heap.size < h3
  own : wr.ownsRow (h3 + 1) 3 1 v xs.length (ints xs).flatten
  grown : w.grownBy wr (some g)
  lt : g < w.heap.size
theorem Dr.step {w wr w1 : World} {g p p' h3 : Nat} {num : Int} {v : Value} {xs : List Int} (h : Dr w wr g p h3 num v xs) (hg : wr.grownBy w1 (some g)) (hr : Rd w1 g p') : Dr w w1 g p' h3 num v xs :=
  ⟨hr, h.t2.grown hg (by intro e; have := h.lt; cases e; omega), h.t3.grown hg (by intro e; have := h.lt; have := h.after; cases e; omega), h.after, h.own.kept hg (by
    rcases ho : v.ownBlock with _ | b
    · exact .inl rfl
    · exact .inr (by have := (h.own.lt b ho).1; have := h.lt; have := h.after; intro e; cases e; omega)), h.grown.trans hg, h.lt⟩
theorem Dr.drew {w wr : World} {g p h3 : Nat} {num : Int} {v : Value} {xs : List Int} (h : Dr w wr g p h3 num v xs) : Dr w wr.drew g p h3 num v xs := h.step (grown_drew _ _) (h.rd.next ((Below.refl _ _).drew))
theorem Dr.num {w wr : World} {g p h3 : Nat} {num : Int} {v : Value} {xs : List Int} (h : Dr w wr g p h3 num v xs) (x : Int) : Dr w (wr.setCell ⟨h3, 0, none⟩ (.int .i64 x)) g p h3 x v xs :=
  ⟨h.rd.below ((Below.refl h3 wr).setCell (p := ⟨h3, 0, none⟩) (Nat.le_refl _) _) (by have := h.lt; have := h.after; omega), h.t2.far (by have := h.after; simp; omega) _, h.t3.set_ 0 _, h.after, ownsRow_setCell_below h.own (by simp) _, grown_new h.grown (by have := h.after; omega) _, h.lt⟩
theorem Dr.app {w wr w2 : World} {g p h3 : Nat} {num x : Int} {v v2 : Value} {xs : List Int} (h : Dr w wr g p h3 num v xs) (ho : w2.ownsRow (h3 + 1) 3 1 v2 (xs.length + 1) (ints xs ++ [[Value.int .i64 x]]).flatten) (hb : Below (h3 + 1) wr w2) : Dr w (w2.setCell ⟨h3, 1, none⟩ v2) g p h3 num v2 (xs ++ [x]) :=
  ⟨h.rd.below ((hb.mono (Nat.le_succ h3)).setCell (p := ⟨h3, 1, none⟩) (Nat.le_refl _) v2) (by have := h.lt; have := h.after; omega),
   (h.t2.below hb (by have := h.after; omega)).far (by have := h.after; simp; omega) _, (h.t3.below hb (by omega)).set_ 1 _, h.after, ownsRow_setCell_below (by simpa [ints] using ho) (by simp) _, grown_new (grown_then h.grown hb (by have := h.after; omega)) (by have := h.after; omega) _, h.lt⟩

set_option maxRecDepth 100000 in
set_option maxHeartbeats 4000000 in
theorem l11Call_any (g p : Nat) (w : World) (h : Rd w g p) (hp : p ≤ 800000000) :
    Calls Try.prog 36 #[.pointer (some ⟨g, 0, none⟩)] w fun e w' =>
      ∃ (n : Int) (v : Value) (xs : List Int) (q : Nat), e = .returned (.agg #[.int .i64 n, v]) ∧ callOk n xs ∧ w'.ownsRow w.heap.size 3 1 v 4 (ints xs).flatten ∧ w.grownBy w' (some g) ∧ Rd w' g q ∧ q ≤ p + 22 := by
  have hlt := h.lt
  go_enter Try.func36, Try.ntmps36
  go_wp2_with fail
  refine (pick_any g p 12 _ (h.next (by go_grown)) (by omega)).mono ?_; rintro e w1 ⟨k1, rfl, a1, a1', g1, r1⟩
  have a1'' := a1' (by omega)
  have hw1 : w.heap.size < w1.heap.size := by have := g1.size; simp at this; omega
  have t2 : Blk w1 w.heap.size 30 #[.int .i64 0, .slice none 0 0] := (Blk.new w _ _).grown g1 (by intro e; cases e; omega)
  have D1 : Dr w (w1.alloc (.cells #[.int .i64 k1, .slice none 0 0] 30)) g (p + 1) w1.heap.size k1 (.slice none 0 0) [] :=
    ⟨r1.next (by go_grown), t2.alloc _, Blk.new w1 _ _, hw1, World.ownsRow_nil _ _ _ _, ((World.grownBy_alloc w _ _).trans g1).trans (World.grownBy_alloc _ _ _), hlt⟩
  go_wp2_with fail
  refine (pick_any g (p + 1) 6 _ D1.rd (by omega)).mono ?_; rintro e w2 ⟨k2, rfl, a2, a2', g2, r2⟩
  have D2 := D1.step g2 r2
  by_cases hk2 : k2 = 0
  · subst hk2
    go_wp2_with fail
    refine (l11Word_any g (p + 2) _ D2.rd (by omega)).mono ?_; rintro e w3 ⟨x, rfl, x0, x1, g3, r3⟩
    have D3 := D2.step g3 r3
    have p0 : w3.cell? ⟨w1.heap.size, 0, none⟩ = some (.int .i64 k1) := D3.t3.cell 0
    have f0 := D3.t3.frozen 0
    have D := D3.num x
    clear D1 D2 D3
    go_wp2
    go_loopw [4] (fun i wr => ∃ (k : Nat) (v : Value) (xs : List Int) (q : Nat) (num : Int), k ≤ 4 ∧ i = .int .i64 k ∧ Hid (xs.length = k) ∧ Hid (Words xs) ∧ (0 ≤ num ∧ num ≤ 4294967295) ∧ q ≤ p + 6 + 4 * k ∧ Dr w wr g q w1.heap.size num v xs) (fun i _ => 4 - (intOf i).toNat)
    case atStart => exact ⟨0, _, [], _, _, by omega, rfl, rfl, (fun x hx => by simp at hx), by omega, by omega, D⟩
    case round =>
      obtain ⟨k, v, xs, q, num, hk, rfl, HXL, HW, hnum, hq, hD⟩ := hrel
      obtain ⟨A5, n5, c5, rfl, -⟩ := SlA.of_own hD.own (ints_len xs) (ints_rows xs)
      have p0 : wr.cell? ⟨w1.heap.size, 0, none⟩ = some (.int .i64 num) := hD.t3.cell 0
      have p1 : wr.cell? ⟨w1.heap.size, 1, none⟩ = some (.slice A5 n5 c5) := hD.t3.cell 1
      by_cases hk4 : k < 4
      · go_wp2
        go_region_law (first
          | (refine step_app0 (w0 := w5) rfl (.tmp 19) (.tmp 22) _ rfl (w1.heap.size + 1) 3 Try.underlying25 info_int rfl (by omega) (by omega) (.slice A5 n5 c5) xs.length (ints xs) rfl D5.own rfl (by simp [Value.oneCell']) rfl (by have := HXL.out; omega) (by have := D5.t3.lt; omega) ?_; intro v2 w6 hown2 hb2 _; obtain ⟨g2, cap2, rfl, hg2, hg2'⟩ := hown2.form (by omega); have y1 : w6.cell? ⟨w1.heap.size, 1, none⟩ = some (.slice A5 n5 c5) := (hb2.cell (p := ⟨w1.heap.size, 1, none⟩) (by simp)).trans (D5.t3.cell 1); have y2 := (hb2.frozen (p := ⟨w1.heap.size, 1, none⟩) (by simp)).trans (D5.t3.frozen 1))
          | (go_simp; go_at_call 53; refine (l11Word_any g q _ hD.drew.rd (by omega)).mono ?_; rintro e w5 ⟨x, rfl, x0, x1, g5, r5⟩; have D5 := hD.drew.step g5 r5; have z1 : w5.cell? ⟨w1.heap.size, 1, none⟩ = some (.slice A5 n5 c5) := D5.t3.cell 1; have l5 : w1.heap.size < w5.heap.size := D5.t3.lt; have l6 : ¬ w1.heap.size = w5.heap.size := by omega))
        all_goals go_wp2
        all_goals
          have hxl := HXL.out
          refine ⟨⟨k + 1, _, xs ++ [x], q + 4, num, by omega, by go_num, by show (xs ++ [x]).length = k + 1; simp; omega, fun y hy => by
            rcases List.mem_append.1 hy with h' | h'
            · exact HW.out y h'
            · rw [List.mem_singleton] at h'; subst h'; exact ⟨x0, x1⟩, hnum, by omega, D5.app hown2 hb2⟩, by simp [intOf]; omega⟩
      · obtain rfl : k = 4 := by omega
        have hxl := HXL.out
        have t0 : wr.cell? ⟨w.heap.size, 0, none⟩ = some (.int .i64 0) := hD.t2.cell 0
        have t1 : wr.cell? ⟨w.heap.size, 1, none⟩ = some (.slice none 0 0) := hD.t2.cell 1
        have f0 := hD.t2.frozen 0; have f1 := hD.t2.frozen 1
        go_wp2
        refine bodyPost_ret (v := .agg #[.int .i64 num, .slice A5 n5 c5]) (by simp [results, Try.results36, go_sem, t0, t1]) rfl ⟨num, _, xs, q, rfl, ⟨hnum, hxl, HW.out⟩, ?_, grown_new (grown_new hD.grown (Nat.le_refl _) _) (Nat.le_refl _) _, ?_, by omega⟩
        · have := hD.own; rw [hxl] at this
          exact own_base (ownsRow_setCell_below (ownsRow_setCell_below this (by show w.heap.size < _; omega) _) (by show w.heap.size < _; omega) _) (by omega)
        · exact hD.rd.below (((Below.refl w.heap.size wr).setCell (p := ⟨w.heap.size, 0, none⟩) (Nat.le_refl _) _).setCell (p := ⟨w.heap.size, 1, none⟩) (Nat.le_refl _) _) hlt
  · have hd : (k2 == 0) = false := by simp; omega
    have D := D2
    clear D1 D2
    go_wp2
    go_loopw [4] (fun i wr => ∃ (k : Nat) (v : Value) (xs : List Int) (q : Nat) (num : Int), k ≤ 4 ∧ i = .int .i64 k ∧ Hid (xs.length = k) ∧ Hid (Words xs) ∧ (0 ≤ num ∧ num ≤ 4294967295) ∧ q ≤ p + 6 + 4 * k ∧ Dr w wr g q w1.heap.size num v xs) (fun i _ => 4 - (intOf i).toNat)
    case atStart => exact ⟨0, _, [], _, _, by omega, rfl, rfl, (fun x hx => by simp at hx), by omega, by omega, D⟩
    case round =>
      obtain ⟨k, v, xs, q, num, hk, rfl, HXL, HW, hnum, hq, hD⟩ := hrel
      obtain ⟨A5, n5, c5, rfl, -⟩ := SlA.of_own hD.own (ints_len xs) (ints_rows xs)
      have p0 : wr.cell? ⟨w1.heap.size, 0, none⟩ = some (.int .i64 num) := hD.t3.cell 0
      have p1 : wr.cell? ⟨w1.heap.size, 1, none⟩ = some (.slice A5 n5 c5) := hD.t3.cell 1
      by_cases hk4 : k < 4
      · go_wp2
        go_region_law (first
          | (refine step_app0 (w0 := w5) rfl (.tmp 19) (.tmp 22) _ rfl (w1.heap.size + 1) 3 Try.underlying25 info_int rfl (by omega) (by omega) (.slice A5 n5 c5) xs.length (ints xs) rfl D5.own rfl (by simp [Value.oneCell']) rfl (by have := HXL.out; omega) (by have := D5.t3.lt; omega) ?_; intro v2 w6 hown2 hb2 _; obtain ⟨g2, cap2, rfl, hg2, hg2'⟩ := hown2.form (by omega); have y1 : w6.cell? ⟨w1.heap.size, 1, none⟩ = some (.slice A5 n5 c5) := (hb2.cell (p := ⟨w1.heap.size, 1, none⟩) (by simp)).trans (D5.t3.cell 1); have y2 := (hb2.frozen (p := ⟨w1.heap.size, 1, none⟩) (by simp)).trans (D5.t3.frozen 1))
          | (go_simp; go_at_call 53; refine (l11Word_any g q _ hD.drew.rd (by omega)).mono ?_; rintro e w5 ⟨x, rfl, x0, x1, g5, r5⟩; have D5 := hD.drew.step g5 r5; have z1 : w5.cell? ⟨w1.heap.size, 1, none⟩ = some (.slice A5 n5 c5) := D5.t3.cell 1; have l5 : w1.heap.size < w5.heap.size := D5.t3.lt; have l6 : ¬ w1.heap.size = w5.heap.size := by omega))
        all_goals go_wp2
        all_goals
          have hxl := HXL.out
          refine ⟨⟨k + 1, _, xs ++ [x], q + 4, num, by omega, by go_num, by show (xs ++ [x]).length = k + 1; simp; omega, fun y hy => by
            rcases List.mem_append.1 hy with h' | h'
            · exact HW.out y h'
            · rw [List.mem_singleton] at h'; subst h'; exact ⟨x0, x1⟩, hnum, by omega, D5.app hown2 hb2⟩, by simp [intOf]; omega⟩
      · obtain rfl : k = 4 := by omega
        have hxl := HXL.out
        have t0 : wr.cell? ⟨w.heap.size, 0, none⟩ = some (.int .i64 0) := hD.t2.cell 0
        have t1 : wr.cell? ⟨w.heap.size, 1, none⟩ = some (.slice none 0 0) := hD.t2.cell 1
        have f0 := hD.t2.frozen 0; have f1 := hD.t2.frozen 1
        go_wp2
        refine bodyPost_ret (v := .agg #[.int .i64 num, .slice A5 n5 c5]) (by simp [results, Try.results36, go_sem, t0, t1]) rfl ⟨num, _, xs, q, rfl, ⟨hnum, hxl, HW.out⟩, ?_, grown_new (grown_new hD.grown (Nat.le_refl _) _) (Nat.le_refl _) _, ?_, by omega⟩
        · have := hD.own; rw [hxl] at this
          exact own_base (ownsRow_setCell_below (ownsRow_setCell_below this (by show w.heap.size < _; omega) _) (by show w.heap.size < _; omega) _) (by omega)
        · exact hD.rd.below (((Below.refl w.heap.size wr).setCell (p := ⟨w.heap.size, 0, none⟩) (Nat.le_refl _) _).setCell (p := ⟨w.heap.size, 1, none⟩) (Nat.le_refl _) _) hlt
end Go.Proofs.Ytccklepidlddcaa
