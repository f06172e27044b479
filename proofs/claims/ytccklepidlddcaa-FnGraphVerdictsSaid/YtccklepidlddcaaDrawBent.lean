/- How the laws draw graphs of which one point is another one: no bounds are asked. -/
import Derived.Test.YtccklepidlddcaaDrawGraph
namespace Go.Proofs.Ytccklepidlddcaa
open Go.RowKit
set_option linter.unusedSimpArgs false
set_option linter.unusedVariables false

theorem pts_flat_len (gs : List Pt) : (gs.map Pt.cells).flatten.length = gs.length * 7 := by
  rw [flat_len (size := 7) _ (Pt.rows gs)]; simp
theorem pts_one (gs : List Pt) : ∀ u ∈ (gs.map Pt.cells).flatten, u.oneCell' = true := by
  intro u hu
  simp only [List.mem_flatten, List.mem_map] at hu
  obtain ⟨r, ⟨p, _, rfl⟩, hu⟩ := hu
  simp [Pt.cells] at hu
  rcases hu with rfl | rfl | rfl | rfl | rfl | rfl | rfl <;> rfl
theorem flat_back {size : Nat} (cs : List (List Value)) (hs : ∀ r ∈ cs, r.length = size) (h0 : 0 < size) {j : Nat} {v : Value} (h : cs.flatten[j]? = some v) : ∃ k i r, j = k * size + i ∧ cs[k]? = some r ∧ r[i]? = some v := by
  have hj := (List.getElem?_eq_some_iff.1 h).1
  rw [flat_len cs hs] at hj
  have hk : j / size < cs.length := Nat.div_lt_of_lt_mul (by rw [Nat.mul_comm]; exact hj)
  have hi : j % size < size := Nat.mod_lt _ h0
  have hr : cs[j / size]? = some cs[j / size] := List.getElem?_eq_getElem hk
  have hl : cs[j / size].length = size := hs _ (List.getElem_mem hk)
  have hv : cs[j / size][j % size]? = some (cs[j / size][j % size]'(by omega)) := List.getElem?_eq_getElem _
  have hj2 : j = j / size * size + j % size := by rw [Nat.mul_comm]; exact (Nat.div_add_mod j size).symm
  refine ⟨j / size, j % size, _, hj2, hr, ?_⟩
  have h2 := flat_get cs hs _ _ hr _ _ hv
  rw [← hj2, h] at h2
  rw [hv, h2]
theorem SlA.news {w : World} {size n c : Nat} {a : Addr} {cs : List (List Value)} (h : SlA w size (some a) n c cs) (hs : ∀ r ∈ cs, r.length = size) (h0 : 0 < size) : ∀ (j : Nat) (u : Value), cs.flatten[j]? = some u → w.cell? (a.add j) = some u := by
  intro j u hj
  obtain ⟨k, i, r, rfl, hr, hv⟩ := flat_back cs hs h0 hj
  have hk := (List.getElem?_eq_some_iff.1 hr).1
  obtain ⟨b, off, e, hb, he⟩ := h.at_ (by have := h.len; omega)
  cases e
  have := he k r hr i u hv
  rw [show ((⟨b, off, none⟩ : Addr).add (k * size + i)) = ⟨b, off + k * size + i, none⟩ by simp [Addr.add, Nat.add_assoc]]
  exact this
theorem pts_set : ∀ (gs : List Pt) (k i : Nat) (m : Int), k < gs.length → i < 7 → ∃ gs' : List Pt, gs'.length = gs.length ∧ (gs.map Pt.cells).flatten.set (k * 7 + i) (.int .i64 m) = (gs'.map Pt.cells).flatten
  | [], k, i, m, hk, _ => by simp at hk
  | p :: gs, 0, i, m, _, hi => by
    obtain ⟨v, f, k, o, l, y, n⟩ := p
    have e : ∃ q : Pt, ∀ rest : List Value, (Pt.cells ⟨v, f, k, o, l, y, n⟩ ++ rest).set i (.int .i64 m) = q.cells ++ rest := by
      obtain rfl | rfl | rfl | rfl | rfl | rfl | rfl : i = 0 ∨ i = 1 ∨ i = 2 ∨ i = 3 ∨ i = 4 ∨ i = 5 ∨ i = 6 := by omega
      · exact ⟨⟨m, f, k, o, l, y, n⟩, fun _ => rfl⟩
      · exact ⟨⟨v, m, k, o, l, y, n⟩, fun _ => rfl⟩
      · exact ⟨⟨v, f, m, o, l, y, n⟩, fun _ => rfl⟩
      · exact ⟨⟨v, f, k, m, l, y, n⟩, fun _ => rfl⟩
      · exact ⟨⟨v, f, k, o, m, y, n⟩, fun _ => rfl⟩
      · exact ⟨⟨v, f, k, o, l, m, n⟩, fun _ => rfl⟩
      · exact ⟨⟨v, f, k, o, l, y, m⟩, fun _ => rfl⟩
    obtain ⟨q, hq⟩ := e
    exact ⟨q :: gs, rfl, by simpa using hq _⟩
  | p :: gs, k + 1, i, m, hk, hi => by
    obtain ⟨gs', h1, h2⟩ := pts_set gs k i m (by simpa using hk) hi
    refine ⟨p :: gs', by simp [h1], ?_⟩
    rw [List.map_cons, List.flatten_cons, List.map_cons, List.flatten_cons, ← h2, List.set_append_right _ _ (by simp [Pt.cells]; omega)]
    congr 2
    simp [Pt.cells]
    omega
/-- A number of a point is another one. -/
theorem pt_store {w : World} {base b cap : Nat} {gs : List Pt} (h : w.ownsRow base 40 7 (.slice (some ⟨b, 0, none⟩) gs.length cap) gs.length (gs.map Pt.cells).flatten) {k i : Nat} (hk : k < gs.length) (hi : i < 7) :
    (∃ u, w.cell? ⟨b, k * 7 + i, none⟩ = some u) ∧ w.frozen? ⟨b, k * 7 + i, none⟩ = false ∧ ∀ m : Int, ∃ gs' : List Pt, gs'.length = gs.length ∧ (w.setCell ⟨b, k * 7 + i, none⟩ (.int .i64 m)).ownsRow base 40 7 (.slice (some ⟨b, 0, none⟩) gs.length cap) gs'.length (gs'.map Pt.cells).flatten := by
  refine ⟨?_, h.frozenAt _, fun m => ?_⟩
  · rw [h.cellAt _ (by omega)]
    exact ⟨_, List.getElem?_eq_getElem (by rw [pts_flat_len]; omega)⟩
  · obtain ⟨gs', h1, h2⟩ := pts_set gs k i m hk hi
    refine ⟨gs', h1, ?_⟩
    rw [← h2, h1]
    exact (h.stored _ _).1

set_option maxRecDepth 20000 in
set_option maxHeartbeats 8000000 in
theorem l11BentGraph_any (g p : Nat) (v : Value) (gs : List Pt) (w : World) (h : Rd w g p) (hp : p ≤ 600000000) (hs : Sl w 7 v (gs.map Pt.cells)) (hl : gs.length ≤ 1000) :
    Calls Try.prog 24 #[.pointer (some ⟨g, 0, none⟩), v] w fun e w' =>
      ∃ (v' : Value) (gs' : List Pt) (q : Nat), e = .returned v' ∧ Sl w' 7 v' (gs'.map Pt.cells) ∧ gs'.length ≤ 1200 ∧ w.grownBy w' (some g) ∧ Rd w' g q ∧ q ≤ p + 3 := by
  obtain ⟨A, n, c, rfl, hA⟩ := hs
  have hn : gs.length = n := by have := hA.len; simpa using this
  have hc := hA.cap
  have hm := hA.max
  unfold maxLen at hm
  cases A with
  | none =>
    have h0 : n = 0 := by
      rcases Nat.eq_zero_or_pos n with h | h
      · exact h
      · obtain ⟨b, off, e, _⟩ := hA.at_ h; cases e
    subst h0
    clear hA
    go_enter Try.func24, Try.ntmps24
    go_wp2
    go_ret
    exact ⟨_, [], p, rfl, Sl.empty w 7 _, by simp, grown_of_below (by go_grown) _, h.next (by go_grown), by omega⟩
  | some ad =>
    subst hn
    have O0 : (w.alloc (.cells #[] 40)).ownsRow w.heap.size 40 7 (.slice (some ⟨w.heap.size, 0, none⟩) 0 0) 0 [] := World.ownsRow_lit (base := w.heap.size) (e := 40) (size := 7) w #[] 0 (Nat.le_refl _) (by unfold maxLen; omega) rfl
    have D0 : Dq w (w.alloc (.cells #[] 40)) g p := (Dq.start h).next (by go_grown)
    have hnews := (hA.below (show Below w.heap.size w (w.alloc (.cells #[] 40)) by go_grown)).news (Pt.rows gs) (by omega)
    obtain ⟨i0, hi0, hz0, hz1, hz2⟩ := info_parts info_PointM
    have HN := Lib.hid hnews; have HO := Lib.hid O0; have HL := Lib.hid (pts_flat_len gs); have HW := Lib.hid (pts_one gs); clear hnews O0 hA h
    by_cases hz : gs.length = 0
    · go_enter Try.func24, Try.ntmps24
      go_wp2_with (at_builtin; go_must (refine wpList_append_own _ rfl (.tmp 7) (.tmp 8) _ rfl w.heap.size 40 i0 _ 7 56 Try.underlying23 hi0 hz0 hz1 hz2 rfl (by omega) (.slice (some ⟨w.heap.size, 0, none⟩) 0 0) 0 [] rfl HO.out ad gs.length c (gs.map Pt.cells).flatten rfl HL.out HN.out HW.out (by unfold maxLen; omega) (by omega) (by simp) ?_); intro v5 w5 hown5 hg5 hv5; simp only [Nat.zero_add, List.nil_append] at hown5; have D5 := D0.app ((Below.refl w.heap.size _).grown hg5 (by simp) (fun k hk => by cases hk; exact Nat.le_refl _)) (Nat.le_refl _); clear hv5 hg5; (obtain ⟨A5, n5, c5, rfl, hS5⟩ := SlA.of_own hown5 (by simp) (Pt.rows gs); have hn5 : gs.length = n5 := (by have := hS5.len; simpa using this); obtain rfl : n5 = 0 := (by omega); have HS5 := Lib.hid hS5; clear hS5 hown5))
      go_ret
      exact ⟨_, gs, p, rfl, ⟨_, _, _, rfl, HS5.out⟩, by omega, D5.grown, D5.rd, by omega⟩
    · have hzd : ((gs.length : Int) == 0) = false := by simp; intro e; exact hz (by simp [e])
      go_enter Try.func24, Try.ntmps24
      go_wp2_with (at_builtin; go_must (refine wpList_append_own _ rfl (.tmp 7) (.tmp 8) _ rfl w.heap.size 40 i0 _ 7 56 Try.underlying23 hi0 hz0 hz1 hz2 rfl (by omega) (.slice (some ⟨w.heap.size, 0, none⟩) 0 0) 0 [] rfl HO.out ad gs.length c (gs.map Pt.cells).flatten rfl HL.out HN.out HW.out (by unfold maxLen; omega) (by omega) (by simp) ?_); intro v5 w5 hown5 hg5 hv5; simp only [Nat.zero_add, List.nil_append] at hown5; have D5 := D0.app ((Below.refl w.heap.size _).grown hg5 (by simp) (fun k hk => by cases hk; exact Nat.le_refl _)) (Nat.le_refl _); clear hv5 hg5; obtain ⟨g5, c5, rfl, hc5, hc5'⟩ := hown5.form (by omega))
      have hge : w.heap.size ≤ g5 := (hown5.lt g5 rfl).1
      refine (pick_any g p _ _ D5.rd (by omega)).mono ?_; rintro e w6 ⟨k6, rfl, a6, b6, g6, r6⟩
      have b6' := b6 (by omega)
      obtain ⟨k, rfl⟩ : ∃ k : Nat, k6 = k := ⟨k6.toNat, by omega⟩
      have hk : k < gs.length := by omega
      have hki : (k : Int) < gs.length := by omega
      have D6 := D5.step g6 r6
      have O6 := own_low hown5 g6 D5.lt
      clear D5 hown5 g6 r6 b6
      go_wp2_with fail
      refine (pick_any g (p + 1) 6 _ D6.rd (by omega)).mono ?_; rintro e w7 ⟨kk, rfl, a7, b7, g7, r7⟩
      have b7' := b7 (by omega)
      have D7 := D6.step g7 r7
      have O7 := own_low O6 g7 D6.lt
      clear D6 O6 g7 r7 b7 HN HO HL HW D0
      obtain rfl | rfl | rfl | rfl | rfl | rfl : kk = 0 ∨ kk = 1 ∨ kk = 2 ∨ kk = 3 ∨ kk = 4 ∨ kk = 5 := by omega
      · go_wp2_with fail
        refine (pick_any g (p + 2) _ _ D7.rd (by omega)).mono ?_; rintro e w8 ⟨k8, rfl, a8, b8, g8, r8⟩
        have b8' := b8 (by omega)
        have D8 := D7.step g8 r8
        have O8 := own_low O7 g8 D7.lt
        clear D7 O7 g8 r8 b8
        obtain ⟨⟨u, hu⟩, hf, hset⟩ := pt_store O8 hk (i := 5) (by omega)
        obtain ⟨gs', hl', O9⟩ := hset (k8 - 1)
        go_wp2
        go_ret
        exact ⟨_, gs', _, rfl, SlA.of_own O9 (by simp) (Pt.rows gs'), by omega, (D8.set hge _).grown, (D8.set hge _).rd, by omega⟩
      · go_wp2_with fail
        refine (pick_any g (p + 2) 5 _ D7.rd (by omega)).mono ?_; rintro e w8 ⟨k8, rfl, a8, b8, g8, r8⟩
        have b8' := b8 (by omega)
        have D8 := D7.step g8 r8
        have O8 := own_low O7 g8 D7.lt
        clear D7 O7 g8 r8 b8
        obtain ⟨⟨u, hu⟩, hf, hset⟩ := pt_store O8 hk (i := 3) (by omega)
        obtain ⟨gs', hl', O9⟩ := hset (k8)
        go_wp2
        go_ret
        exact ⟨_, gs', _, rfl, SlA.of_own O9 (by simp) (Pt.rows gs'), by omega, (D8.set hge _).grown, (D8.set hge _).rd, by omega⟩
      · go_wp2_with fail
        refine (pick_any g (p + 2) 6 _ D7.rd (by omega)).mono ?_; rintro e w8 ⟨k8, rfl, a8, b8, g8, r8⟩
        have b8' := b8 (by omega)
        have D8 := D7.step g8 r8
        have O8 := own_low O7 g8 D7.lt
        clear D7 O7 g8 r8 b8
        have hst := pt_store O8 hk (i := 0) (by omega)
        simp only [Nat.add_zero] at hst
        obtain ⟨⟨u, hu⟩, hf, hset⟩ := hst
        obtain ⟨gs', hl', O9⟩ := hset (k8)
        go_wp2
        go_ret
        exact ⟨_, gs', _, rfl, SlA.of_own O9 (by simp) (Pt.rows gs'), by omega, (D8.set hge _).grown, (D8.set hge _).rd, by omega⟩
      · go_wp2_with fail
        refine (pick_any g (p + 2) 7 _ D7.rd (by omega)).mono ?_; rintro e w8 ⟨k8, rfl, a8, b8, g8, r8⟩
        have b8' := b8 (by omega)
        have D8 := D7.step g8 r8
        have O8 := own_low O7 g8 D7.lt
        clear D7 O7 g8 r8 b8
        obtain ⟨⟨u, hu⟩, hf, hset⟩ := pt_store O8 hk (i := 1) (by omega)
        obtain ⟨gs', hl', O9⟩ := hset (k8 - 1)
        go_wp2
        go_ret
        exact ⟨_, gs', _, rfl, SlA.of_own O9 (by simp) (Pt.rows gs'), by omega, (D8.set hge _).grown, (D8.set hge _).rd, by omega⟩
      · have B7 := Blk.new w7 3 #[.int .i64 (-1), .int .i64 4294967296, .int .i64 3]
        have D7' := D7.next (show Below w7.heap.size w7 (w7.alloc (.cells #[.int .i64 (-1), .int .i64 4294967296, .int .i64 3] 3)) by go_grown)
        have O7' := O7.alloc (.cells #[.int .i64 (-1), .int .i64 4294967296, .int .i64 3] 3)
        have hs7 := D7.size
        go_wp2_with fail
        refine (pick_any g (p + 2) 3 _ D7'.rd (by omega)).mono ?_; rintro e w8 ⟨k8, rfl, a8, b8, g8, r8⟩
        have b8' := b8 (by omega)
        obtain ⟨j, rfl⟩ : ∃ j : Nat, k8 = j := ⟨k8.toNat, by omega⟩
        have hj3 : (j : Int) < 3 := by omega
        have D8 := D7'.step g8 r8
        have O8 := own_low O7' g8 D7.lt
        have B8 := D7'.blk B7 hs7 g8
        obtain ⟨m, hm⟩ : ∃ m : Int, w8.cell? ⟨w7.heap.size, j, none⟩ = some (.int .i64 m) := by
          rw [B8.cell j]
          obtain rfl | rfl | rfl : j = 0 ∨ j = 1 ∨ j = 2 := by omega
          all_goals exact ⟨_, rfl⟩
        clear D7 O7 g8 r8 b8 D7' O7' B7 B8
        obtain ⟨⟨u, hu⟩, hf, hset⟩ := pt_store O8 hk (i := 4) (by omega)
        obtain ⟨gs', hl', O9⟩ := hset (m)
        go_wp2
        go_ret
        exact ⟨_, gs', _, rfl, SlA.of_own O9 (by simp) (Pt.rows gs'), by omega, (D8.set hge _).grown, (D8.set hge _).rd, by omega⟩
      · have HD7 := Lib.hid D7; have HO7 := Lib.hid O7; clear D7 O7
        go_wp2
        go_loopw [5] (fun u wr => ∃ (gs' : List Pt) (b cap : Nat), u = .slice (some ⟨b, 0, none⟩) gs'.length cap ∧ 1 ≤ gs'.length ∧ gs'.length ≤ 1100 ∧ Dq w wr g (p + 2) ∧ wr.ownsRow w.heap.size 40 7 u gs'.length (gs'.map Pt.cells).flatten) (fun u _ => 1200 - (match u with | .slice _ n _ => n | _ => 0))
        case atStart => exact ⟨gs, g5, c5, rfl, by omega, by omega, HD7.out, HO7.out⟩
        case round =>
          obtain ⟨gs', b, cap, rfl, hl1, hl2, D, O⟩ := hrel
          clear HD7 HO7
          by_cases hle : gs'.length ≤ 120
          · have hlei : (gs'.length : Int) ≤ 120 := by omega
            have h0i : (0 : Int) < gs'.length := by omega
            obtain ⟨x, rest, rfl⟩ : ∃ x rest, gs' = x :: rest := by cases gs' with | nil => simp at hl1 | cons x rest => exact ⟨x, rest, rfl⟩
            have y0 := (show _ = some (Value.int .i64 x.verdict) from O.cellAt 0 (by omega)); have y1 := (show _ = some (Value.int .i64 x.field) from O.cellAt 1 (by omega)); have y2 := (show _ = some (Value.int .i64 x.mask) from O.cellAt 2 (by omega)); have y3 := (show _ = some (Value.int .i64 x.op) from O.cellAt 3 (by omega)); have y4 := (show _ = some (Value.int .i64 x.value) from O.cellAt 4 (by omega)); have y5 := (show _ = some (Value.int .i64 x.yes) from O.cellAt 5 (by omega)); have y6 := (show _ = some (Value.int .i64 x.no) from O.cellAt 6 (by omega))
            have hsz := D.size
            generalize hgl : (x :: rest).length = N at *
            generalize hgr : (x :: rest).map Pt.cells = R at *
            have HD := Lib.hid D; have HO := Lib.hid O; clear D O
            go_wp2_with (at_builtin; go_must (refine wpList_app1g rfl (.tmp 23) (.tmp 27) _ rfl w.heap.size 40 Try.underlying23 info_PointM rfl (by omega) (by omega) (.slice (some ⟨b, 0, none⟩) N cap) N R rfl HO.out rfl (by simp [Value.oneCell']) rfl (by omega) (by omega) ?_); intro v9 w9 hown9 hg9 _; obtain ⟨g9, cap9, rfl, hg9', hg9''⟩ := hown9.form (by omega))
            have hb9 : Below w.heap.size wr w9 := (Below.refl w.heap.size wr).grown hg9 hsz (fun k hk => (HO.out.lt k hk).1)
            have hN : (x :: rest ++ [x]).length = N + 1 := by rw [List.length_append, hgl]; rfl
            refine ⟨⟨x :: rest ++ [x], g9, cap9, by rw [hN], by rw [hN]; omega, by rw [hN]; omega, HD.out.app hb9 (Nat.le_refl _), ?_⟩, by simp only; omega⟩
            rw [hN, List.map_append, hgr]
            simpa [Pt.cells] using hown9
          · go_wp2
            go_ret
            exact ⟨_, gs', p + 2, rfl, SlA.of_own O (by simp) (Pt.rows gs'), by omega, D.grown, D.rd, by omega⟩
end Go.Proofs.Ytccklepidlddcaa
