/- How the laws draw programs of which one place is another one: l11Bent. -/
import Derived.Test.YteflnpejhhkchaaGreatDoorDrawCode
import Derived.Deep.RegionHeld3
namespace Go.Proofs.YteflnpejhhkchaaGreatDoor
open Go.RowKit
set_option linter.unusedSimpArgs false
set_option linter.unusedVariables false

theorem run_slH (b N c k : Nat) (hk : (k : Int) ≤ c) (W : World) : (Instr.slice 23 (.slice (some ⟨b, 0, none⟩) N c) none (some (.int .i64 (k : Int))) none).run Tryz.prog W = .ok (.slice (some ⟨b, 0, none⟩) k c) W := by
  have h0 : (0 : Int) ≤ k := by omega
  simp [go_sem, hk, h0]
theorem run_slL (b N c k : Nat) (hk : (k : Int) ≤ N) (hc : c ≠ k) (W : World) : (Instr.slice 23 (.slice (some ⟨b, 0, none⟩) N c) (some (.int .i64 (k : Int))) none none).run Tryz.prog W = .ok (.slice (some ⟨b, k * 4, none⟩) (N - k) (c - k)) W := by
  have h0 : (0 : Int) ≤ k := by omega
  simp [go_sem, hk, h0, hc]
theorem run_slE (b N k : Nat) (hk : (k : Int) ≤ N) (W : World) : (Instr.slice 23 (.slice (some ⟨b, 0, none⟩) N k) (some (.int .i64 (k : Int))) none none).run Tryz.prog W = .ok (.slice (some ⟨b, 0, none⟩) (N - k) (k - k)) W := by
  have h0 : (0 : Int) ≤ k := by omega
  simp [go_sem, hk, h0]
theorem ins_flat_len (gs : List In4) : (insR gs).flatten.length = gs.length * 4 := by
  rw [flat_len (size := 4) _ (insR_rows gs), insR_len]
theorem flat_backC {size : Nat} (cs : List (List Value)) (hs : ∀ r ∈ cs, r.length = size) (h0 : 0 < size) {j : Nat} {v : Value} (h : cs.flatten[j]? = some v) : ∃ k i r, j = k * size + i ∧ cs[k]? = some r ∧ r[i]? = some v := by
  have hj := (List.getElem?_eq_some_iff.1 h).1
  rw [flat_len cs hs] at hj
  have hk : j / size < cs.length := Nat.div_lt_of_lt_mul (by rw [Nat.mul_comm]; exact hj)
  have hi : j % size < size := Nat.mod_lt _ h0
  have hr : cs[j / size]? = some cs[j / size] := List.getElem?_eq_getElem hk
  have hl : cs[j / size].length = size := hs _ (List.getElem_mem hk)
  have hv : cs[j / size][j % size]? = some (cs[j / size][j % size]'(by omega)) := List.getElem?_eq_getElem _
  have hj2 : j = j / size * size + j % size := by rw [Nat.mul_comm]; exact (Nat.div_add_mod j size).symm
  refine ⟨j / size, j % size, _, hj2, hr, ?_⟩
  have h2 := flat_get cs hs _ _ hr _ _ hv
  rw [← hj2, h] at h2
  rw [hv, h2]
theorem SlA.newsC {w : World} {size n c : Nat} {a : Addr} {cs : List (List Value)} (h : SlA w size (some a) n c cs) (hs : ∀ r ∈ cs, r.length = size) (h0 : 0 < size) : ∀ (j : Nat) (u : Value), cs.flatten[j]? = some u → w.cell? (a.add j) = some u := by
  intro j u hj
  obtain ⟨k, i, r, rfl, hr, hv⟩ := flat_backC cs hs h0 hj
  have hk := (List.getElem?_eq_some_iff.1 hr).1
  obtain ⟨b, off, e, hb, he⟩ := h.at_ (by have := h.len; omega)
  cases e
  have := he k r hr i u hv
  rw [show ((⟨b, off, none⟩ : Addr).add (k * size + i)) = ⟨b, off + k * size + i, none⟩ by simp [Addr.add, Nat.add_assoc]]
  exact this
theorem ins_set : ∀ (gs : List In4) (k i : Nat) (m : Int), k < gs.length → i < 4 → ∃ gs' : List In4, gs'.length = gs.length ∧ (insR gs).flatten.set (k * 4 + i) (.int .i64 m) = (insR gs').flatten
  | [], k, i, m, hk, _ => by simp at hk
  | p :: gs, 0, i, m, _, hi => by
    obtain ⟨o, l, y, n⟩ := p
    have e : ∃ q : In4, ∀ rest : List Value, (In4.cells ⟨o, l, y, n⟩ ++ rest).set i (.int .i64 m) = q.cells ++ rest := by
      obtain rfl | rfl | rfl | rfl : i = 0 ∨ i = 1 ∨ i = 2 ∨ i = 3 := by omega
      · exact ⟨⟨m, l, y, n⟩, fun _ => rfl⟩
      · exact ⟨⟨o, m, y, n⟩, fun _ => rfl⟩
      · exact ⟨⟨o, l, m, n⟩, fun _ => rfl⟩
      · exact ⟨⟨o, l, y, m⟩, fun _ => rfl⟩
    obtain ⟨q, hq⟩ := e
    exact ⟨q :: gs, rfl, by simpa [insR] using hq _⟩
  | p :: gs, k + 1, i, m, hk, hi => by
    obtain ⟨gs', h1, h2⟩ := ins_set gs k i m (by simpa using hk) hi
    refine ⟨p :: gs', by simp [h1], ?_⟩
    have e1 : insR (p :: gs) = p.cells :: insR gs := rfl
    have e2 : insR (p :: gs') = p.cells :: insR gs' := rfl
    rw [e1, List.flatten_cons, e2, List.flatten_cons, ← h2, List.set_append_right _ _ (by simp [In4.cells]; omega)]
    congr 2
    simp [In4.cells]
    omega
theorem ins_int (gs : List In4) {k i : Nat} (hk : k < gs.length) (hi : i < 4) : ∃ m : Int, (insR gs).flatten[k * 4 + i]? = some (.int .i64 m) := by
  have hr : (insR gs)[k]? = some gs[k].cells := by simp [insR, hk]
  obtain rfl | rfl | rfl | rfl : i = 0 ∨ i = 1 ∨ i = 2 ∨ i = 3 := by omega
  · exact ⟨_, flat_get _ (insR_rows gs) _ _ hr 0 _ rfl⟩
  · exact ⟨_, flat_get _ (insR_rows gs) _ _ hr 1 _ rfl⟩
  · exact ⟨_, flat_get _ (insR_rows gs) _ _ hr 2 _ rfl⟩
  · exact ⟨_, flat_get _ (insR_rows gs) _ _ hr 3 _ rfl⟩
/-- A number of a place is another one. -/
theorem ins_store {w : World} {base b cap N : Nat} {gs : List In4} (hN : gs.length = N) (h : w.ownsRow base 56 4 (.slice (some ⟨b, 0, none⟩) N cap) N (insR gs).flatten) {k i : Nat} (hk : k < N) (hi : i < 4) :
    (∃ m : Int, w.cell? ⟨b, k * 4 + i, none⟩ = some (.int .i64 m)) ∧ w.frozen? ⟨b, k * 4 + i, none⟩ = false ∧ ∀ m : Int, ∃ gs' : List In4, gs'.length = N ∧ (w.setCell ⟨b, k * 4 + i, none⟩ (.int .i64 m)).ownsRow base 56 4 (.slice (some ⟨b, 0, none⟩) N cap) N (insR gs').flatten := by
  subst hN
  refine ⟨?_, h.frozenAt _, fun m => ?_⟩
  · rw [h.cellAt _ (by omega)]
    exact ins_int gs hk hi
  · obtain ⟨gs', h1, h2⟩ := ins_set gs k i m hk hi
    refine ⟨gs', h1, ?_⟩
    rw [← h2]
    exact (h.stored _ _).1

theorem ins_drop : ∀ (gs : List In4) (m : Nat), (insR (gs.drop m)).flatten = (insR gs).flatten.drop (m * 4)
  | gs, 0 => by simp
  | [], m + 1 => by simp [insR]
  | x :: gs, m + 1 => by
    have := ins_drop gs m
    rw [List.drop_succ_cons, this, Nat.add_mul]
    rfl
theorem ins_take : ∀ (gs : List In4) (m : Nat), (insR (gs.take m)).flatten = (insR gs).flatten.take (m * 4)
  | gs, 0 => by simp [insR]
  | [], m + 1 => by simp [insR]
  | x :: gs, m + 1 => by
    have := ins_take gs m
    show x.cells ++ (insR (gs.take m)).flatten = _
    rw [this, Nat.add_mul]
    rfl
theorem own_take_ins {w : World} {base b N cap : Nat} {gs : List In4} (hN : gs.length = N) (h : w.ownsRow base 56 4 (.slice (some ⟨b, 0, none⟩) N cap) N (insR gs).flatten) {k : Nat} (hk : k ≤ N) : w.ownsRow base 56 4 (.slice (some ⟨b, 0, none⟩) k cap) k (insR (gs.take k)).flatten := by
  refine ⟨by rw [ins_flat_len, List.length_take]; rw [Nat.min_eq_left (by omega)], ?_⟩
  rcases h.2 with ⟨e, _⟩ | ⟨g, cap', cur, e, h1, h2, h3, h4, h5, h6⟩
  · cases e
  · cases e
    refine .inr ⟨b, cap, cur, rfl, h1, h2, by omega, h4, h5, ?_⟩
    rw [ins_take, ← h6, List.take_take, Nat.min_eq_left (by omega)]
/-- 'append(x, y...)' inside a region. -/
theorem step_ownC {P : Program} {w : World} {ops : Array Oper} {o : Oper} {a : Act} {K : Act → World → Prop} {Q : Exit → Act → World → Prop} {E : Prop} (hgd : o.guard = none) (s x : Operand) (t : TypeId)
    (ho : o.op = .call { callee := .builtin .append, args := #[s, x], argTypes := #[t, t] })
    (base : Nat) (e : TypeId) (i : TypeInfo) (z : Value) (size bytes : Nat) (ht : P.underlying t = some (.slice e)) (hi : P.info? e = some i) (hz : i.zero = some z)
    (hsize : i.size = size) (hby : i.bytes = bytes) (hzs : z.cells.size = size) (hsz : 0 < size)
    (v : Value) (n : Nat) (xs : List Value) (hs : a.eval s = v) (hown : w.ownsRow base e size v n xs)
    (ad : Addr) (m c : Nat) (news : List Value) (hx : a.eval x = .slice (some ad) m c) (hl : news.length = m * size) (hnews : ∀ j u, news[j]? = some u → w.cell? (ad.add j) = some u) (h1 : ∀ u ∈ news, u.oneCell' = true)
    (h63 : n + m ≤ maxLen) (hbytes : (n + m) * bytes ≤ 140737488355328) (hbase : base ≤ w.heap.size)
    (h : ∀ v' w', w'.ownsRow base e size v' (n + m) (xs ++ news) → w.grownBy w' v.ownBlock → (v' = .slice none 0 0 ↔ v = .slice none 0 0 ∧ m = 0) → K (a.put o.dst v') w') :
    if Region.wanted o (yielded ops a.tmps) = true then Oper.wp P o a w K Q else E := by
  have hw : Region.wanted o (yielded ops a.tmps) = true := by simp [Region.wanted, hgd]
  rw [if_pos hw]
  exact wp_append_own w s x t ho base e i z size bytes ht hi hz hsize hby hzs hsz v n xs hs hown ad m c news hx hl hnews h1 h63 hbytes hbase h
theorem own_cap {w : World} {base b n cap m s : Nat} {e : TypeId} {xs : List Value} (h : w.ownsRow base e s (.slice (some ⟨b, 0, none⟩) n cap) m xs) : n ≤ cap ∧ cap ≤ 9223372036854775807 := by
  rcases h.2 with ⟨e, _⟩ | ⟨g, cap', cur, e, _, _, h1, h2, _⟩
  · cases e
  · cases e
    exact ⟨h1, h2⟩

set_option maxRecDepth 100000 in
set_option maxHeartbeats 8000000 in
theorem l11Bent_any (g p : Nat) (v : Value) (gs : List In4) (w : World) (h : Rd w g p) (hp : p ≤ 600000000) (hs : Sl w 4 v (insR gs)) (hl : gs.length ≤ 1000) :
    Calls Tryz.prog 54 #[.pointer (some ⟨g, 0, none⟩), v] w fun e w' =>
      ∃ (v' : Value) (gs' : List In4) (q : Nat), e = .returned v' ∧ Sl w' 4 v' (insR gs') ∧ gs'.length ≤ 1000 ∧ w.grownBy w' (some g) ∧ Rd w' g q := by
  obtain ⟨A, n, c, rfl, hA⟩ := hs
  have hn : gs.length = n := by have := hA.len; rwa [insR_len] at this
  have hc := hA.cap
  have hm := hA.max
  unfold maxLen at hm
  cases A with
  | none =>
    have h0 : n = 0 := by
      rcases Nat.eq_zero_or_pos n with h | h
      · exact h
      · obtain ⟨b, off, e, _⟩ := hA.at_ h; cases e
    subst h0
    clear hA
    go_enter Tryz.func54, Tryz.ntmps54
    go_wp2
    go_ret
    exact ⟨_, [], p, rfl, Sl.empty w 4 _, by simp, grown_of_below (by go_grown) _, h.next (by go_grown)⟩
  | some ad =>
    subst hn
    have O0 : (w.alloc (.cells #[] 56)).ownsRow w.heap.size 56 4 (.slice (some ⟨w.heap.size, 0, none⟩) 0 0) 0 [] := World.ownsRow_lit (base := w.heap.size) (e := 56) (size := 4) w #[] 0 (Nat.le_refl _) (by unfold maxLen; omega) rfl
    have D0 : Dq w (w.alloc (.cells #[] 56)) g p := (Dq.start h).next (by go_grown)
    have hnews := (hA.below (show Below w.heap.size w (w.alloc (.cells #[] 56)) by go_grown)).newsC (insR_rows gs) (by omega)
    obtain ⟨i0, hi0, hz0, hz1, hz2⟩ := info_parts info_Ins
    have HN := Lib.hid hnews; have HO := Lib.hid O0; have HL := Lib.hid (ins_flat_len gs); have HW := Lib.hid (ins_one gs); clear hnews O0 hA h
    by_cases hz : gs.length = 0
    · go_enter Tryz.func54, Tryz.ntmps54
      go_wp2_with (at_builtin; go_must (refine wpList_append_own _ rfl (.tmp 8) (.tmp 9) _ rfl w.heap.size 56 i0 _ 4 32 Tryz.underlying23 hi0 hz0 hz1 hz2 rfl (by omega) (.slice (some ⟨w.heap.size, 0, none⟩) 0 0) 0 [] rfl HO.out ad gs.length c (insR gs).flatten rfl HL.out HN.out HW.out (by unfold maxLen; omega) (by omega) (by simp) ?_); intro v5 w5 hown5 hg5 hv5; simp only [Nat.zero_add, List.nil_append] at hown5; have D5 := D0.app ((Below.refl w.heap.size _).grown hg5 (by simp) (fun k hk => by cases hk; exact Nat.le_refl _)) (Nat.le_refl _); clear hv5 hg5; (obtain ⟨A5, n5, c5, rfl, hS5⟩ := SlA.of_own hown5 (insR_len gs) (insR_rows gs); have hn5 : gs.length = n5 := (by have := hS5.len; rwa [insR_len] at this); obtain rfl : n5 = 0 := (by omega); have HS5 := Lib.hid hS5; clear hS5 hown5))
      go_ret
      exact ⟨_, gs, p, rfl, ⟨_, _, _, rfl, HS5.out⟩, by omega, D5.grown, D5.rd⟩
    · have hzd : ((gs.length : Int) == 0) = false := by simp; intro e; exact hz (by simp [e])
      go_enter Tryz.func54, Tryz.ntmps54
      go_wp2_with (at_builtin; go_must (refine wpList_append_own _ rfl (.tmp 8) (.tmp 9) _ rfl w.heap.size 56 i0 _ 4 32 Tryz.underlying23 hi0 hz0 hz1 hz2 rfl (by omega) (.slice (some ⟨w.heap.size, 0, none⟩) 0 0) 0 [] rfl HO.out ad gs.length c (insR gs).flatten rfl HL.out HN.out HW.out (by unfold maxLen; omega) (by omega) (by simp) ?_); intro v5 w5 hown5 hg5 hv5; simp only [Nat.zero_add, List.nil_append] at hown5; have D5 := D0.app ((Below.refl w.heap.size _).grown hg5 (by simp) (fun k hk => by cases hk; exact Nat.le_refl _)) (Nat.le_refl _); clear hv5 hg5; obtain ⟨g5, c5, rfl, hc5, hc5'⟩ := hown5.form (by omega))
      have hge : w.heap.size ≤ g5 := (hown5.lt g5 rfl).1
      clear HN HO HL HW
      generalize hN : gs.length = N at *
      refine (pick_any g p _ _ D5.rd (by omega)).mono ?_; rintro e w6 ⟨k6, rfl, a6, b6, g6, r6⟩
      have b6' := b6 (by omega)
      obtain ⟨k, rfl⟩ : ∃ k : Nat, k6 = k := ⟨k6.toNat, by omega⟩
      have hk : k < N := by omega
      have hki : (k : Int) < N := by omega
      have D6 := D5.step g6 r6
      have O6 := own_low hown5 g6 D5.lt
      clear D5 hown5 g6 r6 b6
      go_wp2_with fail
      refine (pick_any g (p + 1) 7 _ D6.rd (by omega)).mono ?_; rintro e w7 ⟨kk, rfl, a7, b7, g7, r7⟩
      have b7' := b7 (by omega)
      have D7 := D6.step g7 r7
      have O7 := own_low O6 g7 D6.lt
      clear D6 O6 g7 r7 b7 D0
      obtain rfl | rfl | rfl | rfl | rfl | rfl | rfl : kk = 0 ∨ kk = 1 ∨ kk = 2 ∨ kk = 3 ∨ kk = 4 ∨ kk = 5 ∨ kk = 6 := by omega
      · obtain ⟨⟨m0, hu⟩, hf, hset⟩ := ins_store hN O7 hk (i := 1) (by omega)
        obtain ⟨gs', hl', O9⟩ := hset (wrap64 (m0 + 1))
        go_wp2
        go_ret
        exact ⟨_, gs', _, rfl, SlA.of_own O9 (by rw [insR_len]; exact hl') (insR_rows gs'), by omega, (D7.set hge _).grown, (D7.set hge _).rd⟩
      · have B7 := Blk.new w7 3 #[.int .i64 0, .int .i64 (-1), .int .i64 4294967295, .int .i64 4294967296]
        have D7' := D7.next (show Below w7.heap.size w7 (w7.alloc (.cells #[.int .i64 0, .int .i64 (-1), .int .i64 4294967295, .int .i64 4294967296] 3)) by go_grown)
        have O7' := O7.alloc (.cells #[.int .i64 0, .int .i64 (-1), .int .i64 4294967295, .int .i64 4294967296] 3)
        have hs7 := D7.size
        go_wp2_with fail
        refine (pick_any g (p + 2) 4 _ D7'.rd (by omega)).mono ?_; rintro e w8 ⟨k8, rfl, a8, b8, g8, r8⟩
        have b8' := b8 (by omega)
        obtain ⟨j, rfl⟩ : ∃ j : Nat, k8 = j := ⟨k8.toNat, by omega⟩
        have hj3 : (j : Int) < 4 := by omega
        have D8 := D7'.step g8 r8
        have O8 := own_low O7' g8 D7.lt
        have B8 := D7'.blk B7 hs7 g8
        obtain ⟨m, hm⟩ : ∃ m : Int, w8.cell? ⟨w7.heap.size, j, none⟩ = some (.int .i64 m) := by
          rw [B8.cell j]
          obtain rfl | rfl | rfl | rfl : j = 0 ∨ j = 1 ∨ j = 2 ∨ j = 3 := by omega
          all_goals exact ⟨_, rfl⟩
        clear D7 O7 g8 r8 b8 D7' O7' B7 B8
        obtain ⟨⟨m0, hu⟩, hf, hset⟩ := ins_store hN O8 hk (i := 1) (by omega)
        obtain ⟨gs', hl', O9⟩ := hset (m)
        go_wp2
        go_ret
        exact ⟨_, gs', _, rfl, SlA.of_own O9 (by rw [insR_len]; exact hl') (insR_rows gs'), by omega, (D8.set hge _).grown, (D8.set hge _).rd⟩
      · go_wp2_with fail
        refine (pick_any g (p + 2) 8 _ D7.rd (by omega)).mono ?_; rintro e w8 ⟨k8, rfl, a8, b8, g8, r8⟩
        have b8' := b8 (by omega)
        have D8 := D7.step g8 r8
        have O8 := own_low O7 g8 D7.lt
        clear D7 O7 g8 r8 b8
        have hst := ins_store hN O8 hk (i := 0) (by omega)
        simp only [Nat.add_zero] at hst
        obtain ⟨⟨m0, hu⟩, hf, hset⟩ := hst
        obtain ⟨gs', hl', O9⟩ := hset (k8)
        go_wp2
        go_ret
        exact ⟨_, gs', _, rfl, SlA.of_own O9 (by rw [insR_len]; exact hl') (insR_rows gs'), by omega, (D8.set hge _).grown, (D8.set hge _).rd⟩
      · go_wp2_with fail
        refine (pick_any g (p + 2) 8 _ D7.rd (by omega)).mono ?_; rintro e w8 ⟨k8, rfl, a8, b8, g8, r8⟩
        have b8' := b8 (by omega)
        have D8 := D7.step g8 r8
        have O8 := own_low O7 g8 D7.lt
        clear D7 O7 g8 r8 b8
        obtain ⟨⟨m0, hu⟩, hf, hset⟩ := ins_store hN O8 hk (i := 2) (by omega)
        obtain ⟨gs', hl', O9⟩ := hset (k8)
        go_wp2
        go_ret
        exact ⟨_, gs', _, rfl, SlA.of_own O9 (by rw [insR_len]; exact hl') (insR_rows gs'), by omega, (D8.set hge _).grown, (D8.set hge _).rd⟩
      · go_wp2_with fail
        refine (pick_any g (p + 2) 8 _ D7.rd (by omega)).mono ?_; rintro e w8 ⟨k8, rfl, a8, b8, g8, r8⟩
        have b8' := b8 (by omega)
        have D8 := D7.step g8 r8
        have O8 := own_low O7 g8 D7.lt
        clear D7 O7 g8 r8 b8
        obtain ⟨⟨m0, hu⟩, hf, hset⟩ := ins_store hN O8 hk (i := 3) (by omega)
        obtain ⟨gs', hl', O9⟩ := hset (k8)
        go_wp2
        go_ret
        exact ⟨_, gs', _, rfl, SlA.of_own O9 (by rw [insR_len]; exact hl') (insR_rows gs'), by omega, (D8.set hge _).grown, (D8.set hge _).rd⟩
      · obtain ⟨⟨m2, hu⟩, hf, hset⟩ := ins_store hN O7 hk (i := 2) (by omega)
        obtain ⟨⟨m3, hu3⟩, -, -⟩ := ins_store hN O7 hk (i := 3) (by omega)
        obtain ⟨gs1, hl1, O8⟩ := hset m3
        have D8 := D7.set (a := g5) (i := k * 4 + 2) hge (.int .i64 m3)
        obtain ⟨⟨m4, hu4⟩, hf4, hset4⟩ := ins_store hl1 O8 hk (i := 3) (by omega)
        obtain ⟨gs', hl', O9⟩ := hset4 m2
        clear O7 O8
        go_wp2
        go_ret
        exact ⟨_, gs', _, rfl, SlA.of_own O9 (by rw [insR_len]; exact hl') (insR_rows gs'), by omega, (D8.set hge _).grown, (D8.set hge _).rd⟩
      · obtain ⟨m, hmk⟩ : ∃ m : Nat, m = k + 1 := ⟨_, rfl⟩
        have hcap := own_cap O7
        have HT := Lib.hid (show w7.drew.ownsRow w.heap.size 56 4 (.slice (some ⟨g5, 0, none⟩) k c5) k (insR (gs.take k)).flatten from own_take_ins hN O7 (by omega))
        have HD7 := Lib.hid (D7.next (show Below w7.heap.size w7 w7.drew by go_grown))
        have hw : IntKind.i64.wrap ((k : Int) + 1) = (m : Int) := by rw [hmk]; exact IntWalk.i64_in _ (by omega)
        have h0 : (0 : Int) ≤ m ∧ (m : Int) ≤ N := by omega
        have h00 : (0 : Int) ≤ m := by omega
        have h01 : (m : Int) ≤ N := by omega
        have hkc : (k : Int) ≤ c5 := by omega
        have hs7 := HD7.out.size
        have HM := Lib.hid (show (k + (N - m)) * 32 ≤ 140737488355328 by omega)
        have HM2 := Lib.hid (show k + (N - m) ≤ 9223372036854775807 by omega)
        have HLN := Lib.hid (show (gs.take k ++ gs.drop m).length = k + (N - m) by rw [List.length_append, List.length_take, List.length_drop]; omega)
        have HKN := Lib.hid (show k + (N - m) ≤ 1000 by omega)
        by_cases hcm : c5 = m
        case' pos =>
          have hcm' := hcm.symm
          subst hcm'
          have hN0 : N - m = 0 := by omega
          have HNW := Lib.hid (show ∀ (j : Nat) (u : Value), (insR (gs.drop m)).flatten[j]? = some u → w7.drew.cell? ((⟨g5, 0, none⟩ : Addr).add j) = some u by
            intro j u hj
            rw [List.drop_eq_nil_of_le (show gs.length ≤ _ by omega)] at hj
            simp [insR] at hj)
          obtain ⟨ad5, had5⟩ : ∃ a : Addr, a = ⟨g5, 0, none⟩ := ⟨_, rfl⟩
        case' neg =>
          have HNW := Lib.hid (show ∀ (j : Nat) (u : Value), (insR (gs.drop m)).flatten[j]? = some u → w7.drew.cell? ((⟨g5, m * 4, none⟩ : Addr).add j) = some u by
            intro j u hj
            rw [ins_drop, List.getElem?_drop] at hj
            rw [show ((⟨g5, m * 4, none⟩ : Addr).add j) = ⟨g5, m * 4 + j, none⟩ by simp [Addr.add]]
            have hlt := (List.getElem?_eq_some_iff.1 hj).1
            rw [ins_flat_len] at hlt
            exact ((show w7.drew.ownsRow w.heap.size 56 4 (.slice (some ⟨g5, 0, none⟩) N c5) N (insR gs).flatten from O7).cellAt (m * 4 + j) (by omega)).trans hj)
          obtain ⟨ad5, had5⟩ : ∃ a : Addr, a = ⟨g5, m * 4, none⟩ := ⟨_, rfl⟩
        case pos =>
          have HKL := Lib.hid (show k ≤ 1000 by omega)
          have HKT := Lib.hid (show (gs.take k).length = k by rw [List.length_take]; omega)
          clear O7 D7 hmk HNW had5
          have hw2 := fun _ : Unit => hw
          have hs1 := fun W => run_slH g5 N m k hkc W
          have hs2 := fun W => run_slE g5 N m h01 W
          go_wp2
          go_region_held3 (fun _ => True) (first | trivial | go_keep) (fail)
          go_wp2
          go_ret
          exact ⟨_, gs.take k, _, rfl, SlA.of_own HT.out (by rw [insR_len]; exact HKT.out) (insR_rows _), by rw [HKT.out]; exact HKL.out, HD7.out.grown, HD7.out.rd⟩
        case neg =>
          rw [← had5] at HNW
          have HLD := Lib.hid (show (insR (gs.drop m)).flatten.length = (N - m) * 4 by rw [ins_flat_len, List.length_drop, hN])
          clear O7 D7 hmk
          have hw2 := fun _ : Unit => hw
          have hs1 := fun W => run_slH g5 N c5 k hkc W
          have hs2 := fun W => run_slL g5 N c5 m h01 hcm W
          go_wp2
          go_region_held3 (fun _ => True) (first | trivial | go_keep) ((refine step_ownC rfl (.tmp 23) (.tmp 27) _ rfl w.heap.size 56 i0 _ 4 32 Tryz.underlying23 hi0 hz0 hz1 hz2 rfl (by omega) (.slice (some ⟨g5, 0, none⟩) k c5) k (insR (gs.take k)).flatten rfl HT.out ad5 (N - m) (c5 - m) (insR (gs.drop m)).flatten (by rw [had5]; rfl) HLD.out HNW.out (ins_one _) HM2.out HM.out hs7 ?_; intro v9 w9 hown9 hg9 _))
          have D9 := HD7.out.app ((Below.refl w.heap.size _).grown hg9 hs7 (fun k hk => (HT.out.lt k hk).1)) (Nat.le_refl _)
          have HD9 := Lib.hid D9
          have HO9 := Lib.hid hown9
          clear hown9 hg9 D9
          go_wp2
          go_ret
          exact ⟨_, _, _, rfl, SlA.of_own (own_eq HO9.out rfl (by rw [insR_app, List.flatten_append])) (by rw [insR_len]; exact HLN.out) (insR_rows _), by rw [HLN.out]; exact HKN.out, HD9.out.grown, HD9.out.rd⟩
end Go.Proofs.YteflnpejhhkchaaGreatDoor
