/- How the laws draw graphs: no bounds are asked. -/
import Derived.Test.YtccklepidlddcaaDrawPol2
import Derived.Test.YtccklepidlddcaaOpsLaw
namespace Go.Proofs.Ytccklepidlddcaa
open Go.RowKit
set_option linter.unusedSimpArgs false
set_option linter.unusedVariables false

/-- What each operation of the region that draws a point yields. -/
def gT (H g : Nat) (A : Option Addr) (n c : Nat) (i : Nat) (w : World) (v : Value) : Prop :=
  match i with
  | 0 | 3 | 8 | 12 | 14 | 18 => v = .pointer (some ⟨g, 0, none⟩)
  | 1 | 13 | 17 | 21 | 6 | 11 => ∃ k : Int, v = .int .i64 k
  | 2 => ∃ h : Nat, v = .slice (some ⟨h, 0, none⟩) 3 3 ∧ H ≤ h ∧ Blk w h 3 #[.int .i64 4294967295, .int .i64 3, .int .i64 15]
  | 7 => ∃ h : Nat, v = .slice (some ⟨h, 0, none⟩) 2 2 ∧ H ≤ h ∧ Blk w h 3 #[.int .i64 1, .int .i64 3]
  | 4 => ∃ k : Nat, v = .int .i64 k ∧ k < 3
  | 9 => ∃ k : Nat, v = .int .i64 k ∧ k < 2
  | 5 | 10 => ∃ (h k : Nat) (m : Int) (cs : Array Value), v = .pointer (some ⟨h, k, none⟩) ∧ H ≤ h ∧ Blk w h 3 cs ∧ cs[k]? = some (.int .i64 m)
  | 15 | 19 => v = .slice A n c
  | 16 | 20 => v = .int .i64 n
  | 22 => ∃ x : Pt, v = .agg #[.int .i64 x.verdict, .int .i64 x.field, .int .i64 x.mask, .int .i64 x.op, .int .i64 x.value, .int .i64 x.yes, .int .i64 x.no]
  | 23 => ∃ (h : Nat) (x : Pt), v = .pointer (some ⟨h, 0, none⟩) ∧ H ≤ h ∧ Blk w h 40 #[.int .i64 x.verdict, .int .i64 x.field, .int .i64 x.mask, .int .i64 x.op, .int .i64 x.value, .int .i64 x.yes, .int .i64 x.no]
  | _ => True
theorem gT_keep {H g : Nat} {A : Option Addr} {n c : Nat} {w w' : World} (h1 : ∀ (h : Nat) (cs : Array Value), H ≤ h → Blk w h 3 cs → Blk w' h 3 cs)
    (h2 : ∀ (h : Nat) (x : Pt), H ≤ h → Blk w h 40 #[.int .i64 x.verdict, .int .i64 x.field, .int .i64 x.mask, .int .i64 x.op, .int .i64 x.value, .int .i64 x.yes, .int .i64 x.no] → ∃ y : Pt, Blk w' h 40 #[.int .i64 y.verdict, .int .i64 y.field, .int .i64 y.mask, .int .i64 y.op, .int .i64 y.value, .int .i64 y.yes, .int .i64 y.no]) :
    ∀ (j : Nat) (u : Value), gT H g A n c j w u → gT H g A n c j w' u := by
  intro j u h
  unfold gT at h ⊢
  split at h
  all_goals (try exact h)
  all_goals first
    | (obtain ⟨a, k, m, cs, e, b, d, f⟩ := h; exact ⟨a, k, m, cs, e, b, h1 a _ b d, f⟩)
    | (obtain ⟨a, x, e, b, d⟩ := h; obtain ⟨y, hy⟩ := h2 a x b d; exact ⟨a, y, e, b, hy⟩)
    | (obtain ⟨a, e, b, d⟩ := h; exact ⟨a, e, b, h1 a _ b d⟩)

set_option maxRecDepth 20000 in
set_option maxHeartbeats 8000000 in
theorem l11Graph_any (g p : Nat) (w : World) (h : Rd w g p) (hp : p ≤ 600000000) :
    Calls Try.prog 22 #[.pointer (some ⟨g, 0, none⟩)] w fun e w' =>
      ∃ (v : Value) (gs : List Pt) (q : Nat), e = .returned v ∧ Sl w' 7 v (gs.map Pt.cells) ∧ gs.length ≤ 1000 ∧ w.grownBy w' (some g) ∧ Rd w' g q ∧ q ≤ p + 2000 := by
  go_enter Try.func22, Try.ntmps22
  go_wp2_with fail
  refine (pick_any g p 2 _ h (by omega)).mono ?_; rintro e w1 ⟨k1, rfl, a1, b1, g1, r1⟩
  have D1 := (Dq.start h).step g1 r1
  clear h g1 r1 b1
  by_cases hk : k1 = 0
  · subst hk
    go_wp2_with fail
    refine (l11Policy_any g (p + 1) 4 3 _ D1.rd (by omega) (by omega) (by omega)).mono ?_; rintro e w2 ⟨po, v2, q2, rfl, hP2, g2, r2, hq2⟩
    have D2 := D1.step g2 r2
    have HP := Lib.hid hP2; clear hP2
    go_wp2_with fail
    refine (GraphMake_any po v2 _ HP.out).mono ?_; rintro e w3 ⟨v3, g3, rfl, hs3, ha3, hl3, hb3⟩
    have D3 := D2.next hb3
    have HS := Lib.hid hs3; have HD := Lib.hid D3; clear hs3 ha3 D1 D2 D3 g2 r2
    go_wp2
    go_ret
    exact ⟨v3, g3, q2, rfl, HS.out, hl3, HD.out.grown, HD.out.rd, by omega⟩
  · have hd1 : (k1 == 0) = false := by simp; omega
    go_wp2_with fail
    refine (pick_any g (p + 1) 4 _ D1.rd (by omega)).mono ?_; rintro e w2 ⟨k2, rfl, a2, b2, g2, r2⟩
    have b2' := b2 (by omega)
    have D2 := D1.step g2 r2
    clear D1 g2 r2 b2
    go_wp2_with fail
    refine (pick_any g (p + 2) 4 _ D2.rd (by omega)).mono ?_; rintro e w3 ⟨k3, rfl, a3, b3, g3, r3⟩
    have b3' := b3 (by omega)
    have D3 := D2.step g3 r3
    clear D2 g3 r3 b3
    obtain ⟨XB, hXB⟩ : ∃ X, X = Obj.cells #[.int .i64 (1 + k2), .int .i64 0, .int .i64 0, .int .i64 0, .int .i64 0, .int .i64 0, .int .i64 0, .int .i64 (1 + k3), .int .i64 0, .int .i64 0, .int .i64 0, .int .i64 0, .int .i64 0, .int .i64 0] 40 := ⟨_, rfl⟩
    have D4 : Dq w (w3.alloc XB) g (p + 3) := D3.next (by rw [hXB]; go_grown)
    have O4 : (w3.alloc XB).ownsRow w.heap.size 40 7 (.slice (some ⟨w3.heap.size, 0, none⟩) 2 2) ([⟨1 + k2, 0, 0, 0, 0, 0, 0⟩, ⟨1 + k3, 0, 0, 0, 0, 0, 0⟩] : List Pt).length (([⟨1 + k2, 0, 0, 0, 0, 0, 0⟩, ⟨1 + k3, 0, 0, 0, 0, 0, 0⟩] : List Pt).map Pt.cells).flatten := by
      rw [hXB]
      exact World.ownsRow_lit (base := w.heap.size) (e := 40) (size := 7) w3 _ 2 D3.size (by unfold maxLen; omega) rfl
    rw [hXB] at D4 O4
    have HO4 := Lib.hid O4; clear O4 hXB D3
    go_wp2_with fail
    refine (pick_any g (p + 3) 7 _ D4.rd (by omega)).mono ?_; rintro e w5 ⟨k5, rfl, a5, b5, g5, r5⟩
    have b5' := b5 (by omega)
    have D5 := D4.step g5 r5
    have O5 := own_low HO4.out g5 D4.lt
    obtain ⟨z5, rfl⟩ : ∃ z : Nat, k5 = z := ⟨k5.toNat, by omega⟩
    have HD5 := Lib.hid D5; have HO5 := Lib.hid O5; clear D4 D5 O5 HO4 g5 r5 b5
    go_wp2
    go_loopw [3, 4] (fun u i wr => ∃ (z q : Nat) (gs : List Pt), z ≤ 7 ∧ i = .int .i64 z ∧ q + 30 * z ≤ p + 244 ∧ gs.length + z ≤ 9 ∧ Dq w wr g q ∧ wr.ownsRow w.heap.size 40 7 u gs.length (gs.map Pt.cells).flatten) (fun _ i _ => (intOf i).toNat)
    case atStart => exact ⟨z5, p + 4, _, by omega, rfl, by omega, by simp; omega, HD5.out, HO5.out⟩
    case round =>
      obtain ⟨z, q, gs, hz, rfl, hq, hgl, D, O⟩ := hrel
      clear HD5 HO5
      obtain ⟨A, n, c, rfl, hSA⟩ := SlA.of_own O (by simp) (Pt.rows gs)
      have hn : gs.length = n := by have := hSA.len; simpa using this
      have hcc := hSA.cap
      have hmm := hSA.max
      unfold maxLen at hmm
      subst hn
      by_cases hz0 : z = 0
      · subst hz0
        have HS := Lib.hid hSA; have HD := Lib.hid D; clear hSA D O
        go_wp2
        go_ret
        exact ⟨_, gs, q, rfl, ⟨_, _, _, rfl, HS.out⟩, by omega, HD.out.grown, HD.out.rd, by omega⟩
      · obtain ⟨z', rfl⟩ : ∃ z', z = z' + 1 := ⟨z - 1, by omega⟩
        have hzi : (0 : Int) < ((z' + 1 : Nat) : Int) := by omega
        have HD := Lib.hid D; have HO := Lib.hid O; clear hSA D O
        go_wp2
        refine wp_region_typed _ (gT wr.heap.size g A gs.length c) (fun k w' => ∃ q', q' ≤ q + k ∧ Dq wr w' g q') (by kernel_rfl) (by kernel_rfl) ⟨q, by omega, (Dq.start HD.out.rd).next (by go_grown)⟩ ?_ ?_
        · intro i o listed a w' k K ho hI hks hq hdep hK
          obtain ⟨q', hq', D⟩ := hq
          have hk25 : k < 25 := hks
          have h0 : a.eval (.tmp 0) = .pointer (some ⟨g, 0, none⟩) := (hI.old 0 (by kernel_rfl)).trans rfl
          have h3 : a.eval (.tmp 3) = .slice A gs.length c := (hI.old 3 (by kernel_rfl)).trans rfl
          have hi25 : i < 25 := (Array.getElem?_eq_some_iff.1 ho).1
          obtain rfl | rfl | rfl | rfl | rfl | rfl | rfl | rfl | rfl | rfl | rfl | rfl | rfl | rfl | rfl | rfl | rfl | rfl | rfl | rfl | rfl | rfl | rfl | rfl | rfl : i = 0 ∨ i = 1 ∨ i = 2 ∨ i = 3 ∨ i = 4 ∨ i = 5 ∨ i = 6 ∨ i = 7 ∨ i = 8 ∨ i = 9 ∨ i = 10 ∨ i = 11 ∨ i = 12 ∨ i = 13 ∨ i = 14 ∨ i = 15 ∨ i = 16 ∨ i = 17 ∨ i = 18 ∨ i = 19 ∨ i = 20 ∨ i = 21 ∨ i = 22 ∨ i = 23 ∨ i = 24 := by omega
          · obtain rfl := Option.some.inj ho
            refine wp_move (.tmp 0) rfl ?_
            exact hK _ _ ⟨q', by omega, D⟩ (fun _ _ h => h) (fun _ => h0)
          · obtain rfl := Option.some.inj ho
            have t0 := hI.new 0 _ 27 rfl (hdep _ (Array.mem_of_getElem? (i := 0) rfl) rfl) rfl
            refine wp_pick (.tmp 27) (.const (.int .i64 3)) _ rfl ?_
            rw [show a.eval (.tmp 27) = _ from t0]
            refine (pick_any g q' 3 _ D.rd (by omega)).mono ?_
            rintro e w9 ⟨kk, rfl, p1, p2, g9, r9⟩
            have p2' := p2 (by omega)
            exact ⟨_, rfl, hK _ _ ⟨q' + 1, by omega, D.step g9 r9⟩ (gT_keep (fun h cs hh hb => hb.grown g9 (by have := D.lt; intro e; cases e; omega)) (fun h x hh hb => ⟨x, hb.grown g9 (by have := D.lt; intro e; cases e; omega)⟩)) (fun _ => ⟨kk, rfl⟩)⟩
          · obtain rfl := Option.some.inj ho
            refine wp_run (run_build3 rfl (fun _ => rfl) _) ?_
            exact hK _ _ ⟨q', by omega, D.next (by go_grown)⟩ (gT_keep (fun h cs hh hb => hb.alloc _) (fun h x hh hb => ⟨x, hb.alloc _⟩)) (fun _ => ⟨_, rfl, D.size, Blk.new _ _ _⟩)
          · obtain rfl := Option.some.inj ho
            refine wp_move (.tmp 0) rfl ?_
            exact hK _ _ ⟨q', by omega, D⟩ (fun _ _ h => h) (fun _ => h0)
          · obtain rfl := Option.some.inj ho
            have t3 := hI.new 3 _ 30 rfl (hdep _ (Array.mem_of_getElem? (i := 0) rfl) rfl) rfl
            refine wp_pick (.tmp 30) (.const (.int .i64 3)) _ rfl ?_
            rw [show a.eval (.tmp 30) = _ from t3]
            refine (pick_any g q' 3 _ D.rd (by omega)).mono ?_
            rintro e w9 ⟨kk, rfl, p1, p2, g9, r9⟩
            have p2' := p2 (by omega)
            exact ⟨_, rfl, hK _ _ ⟨q' + 1, by omega, D.step g9 r9⟩ (gT_keep (fun h cs hh hb => hb.grown g9 (by have := D.lt; intro e; cases e; omega)) (fun h x hh hb => ⟨x, hb.grown g9 (by have := D.lt; intro e; cases e; omega)⟩)) (fun _ => ⟨kk.toNat, by rw [Int.toNat_of_nonneg p1], by omega⟩)⟩
          · obtain rfl := Option.some.inj ho
            have t2 := hI.new 2 _ 29 rfl (hdep _ (Array.mem_of_getElem? (i := 0) rfl) rfl) rfl
            have t4 := hI.new 4 _ 31 rfl (hdep _ (Array.mem_of_getElem? (i := 1) rfl) rfl) rfl
            obtain ⟨hb, e1, hH, B⟩ := t2
            obtain ⟨kk, e2, k3⟩ := t4
            refine wp_run (run_index (.tmp 29) (.tmp 31) hb 3 kk rfl e1 e2 k3 (by omega) _) ?_
            have hm : ∃ m : Int, (#[.int .i64 4294967295, .int .i64 3, .int .i64 15] : Array Value)[kk]? = some (.int .i64 m) := by
              obtain rfl | rfl | rfl : kk = 0 ∨ kk = 1 ∨ kk = 2 := by omega
              all_goals exact ⟨_, rfl⟩
            obtain ⟨m, hm⟩ := hm
            exact hK _ _ ⟨q', by omega, D⟩ (fun _ _ h => h) (fun _ => ⟨hb, kk, m, _, rfl, hH, B, hm⟩)
          · obtain rfl := Option.some.inj ho
            have t5 := hI.new 5 _ 32 rfl (hdep _ (Array.mem_of_getElem? (i := 0) rfl) rfl) rfl
            obtain ⟨hb, kk, m, cs, e1, hH, B, hm⟩ := t5
            refine wp_run (run_load (.tmp 32) hb kk m rfl e1 _ ((B.cell kk).trans hm)) ?_
            exact hK _ _ ⟨q', by omega, D⟩ (fun _ _ h => h) (fun _ => ⟨m, rfl⟩)
          · obtain rfl := Option.some.inj ho
            refine wp_run (run_build2 rfl (fun _ => rfl) _) ?_
            exact hK _ _ ⟨q', by omega, D.next (by go_grown)⟩ (gT_keep (fun h cs hh hb => hb.alloc _) (fun h x hh hb => ⟨x, hb.alloc _⟩)) (fun _ => ⟨_, rfl, D.size, Blk.new _ _ _⟩)
          · obtain rfl := Option.some.inj ho
            refine wp_move (.tmp 0) rfl ?_
            exact hK _ _ ⟨q', by omega, D⟩ (fun _ _ h => h) (fun _ => h0)
          · obtain rfl := Option.some.inj ho
            have t8 := hI.new 8 _ 35 rfl (hdep _ (Array.mem_of_getElem? (i := 0) rfl) rfl) rfl
            refine wp_pick (.tmp 35) (.const (.int .i64 2)) _ rfl ?_
            rw [show a.eval (.tmp 35) = _ from t8]
            refine (pick_any g q' 2 _ D.rd (by omega)).mono ?_
            rintro e w9 ⟨kk, rfl, p1, p2, g9, r9⟩
            have p2' := p2 (by omega)
            exact ⟨_, rfl, hK _ _ ⟨q' + 1, by omega, D.step g9 r9⟩ (gT_keep (fun h cs hh hb => hb.grown g9 (by have := D.lt; intro e; cases e; omega)) (fun h x hh hb => ⟨x, hb.grown g9 (by have := D.lt; intro e; cases e; omega)⟩)) (fun _ => ⟨kk.toNat, by rw [Int.toNat_of_nonneg p1], by omega⟩)⟩
          · obtain rfl := Option.some.inj ho
            have t7 := hI.new 7 _ 34 rfl (hdep _ (Array.mem_of_getElem? (i := 0) rfl) rfl) rfl
            have t9 := hI.new 9 _ 36 rfl (hdep _ (Array.mem_of_getElem? (i := 1) rfl) rfl) rfl
            obtain ⟨hb, e1, hH, B⟩ := t7
            obtain ⟨kk, e2, k3⟩ := t9
            refine wp_run (run_index (.tmp 34) (.tmp 36) hb 2 kk rfl e1 e2 k3 (by omega) _) ?_
            have hm : ∃ m : Int, (#[.int .i64 1, .int .i64 3] : Array Value)[kk]? = some (.int .i64 m) := by
              obtain rfl | rfl : kk = 0 ∨ kk = 1 := by omega
              all_goals exact ⟨_, rfl⟩
            obtain ⟨m, hm⟩ := hm
            exact hK _ _ ⟨q', by omega, D⟩ (fun _ _ h => h) (fun _ => ⟨hb, kk, m, _, rfl, hH, B, hm⟩)
          · obtain rfl := Option.some.inj ho
            have t10 := hI.new 10 _ 37 rfl (hdep _ (Array.mem_of_getElem? (i := 0) rfl) rfl) rfl
            obtain ⟨hb, kk, m, cs, e1, hH, B, hm⟩ := t10
            refine wp_run (run_load (.tmp 37) hb kk m rfl e1 _ ((B.cell kk).trans hm)) ?_
            exact hK _ _ ⟨q', by omega, D⟩ (fun _ _ h => h) (fun _ => ⟨m, rfl⟩)
          · obtain rfl := Option.some.inj ho
            refine wp_move (.tmp 0) rfl ?_
            exact hK _ _ ⟨q', by omega, D⟩ (fun _ _ h => h) (fun _ => h0)
          · obtain rfl := Option.some.inj ho
            have t12 := hI.new 12 _ 39 rfl (hdep _ (Array.mem_of_getElem? (i := 0) rfl) rfl) rfl
            refine wp_pick (.tmp 39) (.const (.int .i64 6)) _ rfl ?_
            rw [show a.eval (.tmp 39) = _ from t12]
            refine (pick_any g q' 6 _ D.rd (by omega)).mono ?_
            rintro e w9 ⟨kk, rfl, p1, p2, g9, r9⟩
            have p2' := p2 (by omega)
            exact ⟨_, rfl, hK _ _ ⟨q' + 1, by omega, D.step g9 r9⟩ (gT_keep (fun h cs hh hb => hb.grown g9 (by have := D.lt; intro e; cases e; omega)) (fun h x hh hb => ⟨x, hb.grown g9 (by have := D.lt; intro e; cases e; omega)⟩)) (fun _ => ⟨kk, rfl⟩)⟩
          · obtain rfl := Option.some.inj ho
            refine wp_move (.tmp 0) rfl ?_
            exact hK _ _ ⟨q', by omega, D⟩ (fun _ _ h => h) (fun _ => h0)
          · obtain rfl := Option.some.inj ho
            refine wp_move (.tmp 3) rfl ?_
            exact hK _ _ ⟨q', by omega, D⟩ (fun _ _ h => h) (fun _ => h3)
          · obtain rfl := Option.some.inj ho
            have t15 := hI.new 15 _ 42 rfl (hdep _ (Array.mem_of_getElem? (i := 0) rfl) rfl) rfl
            refine wp_run (run_len (.tmp 42) A gs.length c rfl t15 _) ?_
            exact hK _ _ ⟨q', by omega, D⟩ (fun _ _ h => h) (fun _ => rfl)
          · obtain rfl := Option.some.inj ho
            have t14 := hI.new 14 _ 41 rfl (hdep _ (Array.mem_of_getElem? (i := 0) rfl) rfl) rfl
            have t16 := hI.new 16 _ 43 rfl (hdep _ (Array.mem_of_getElem? (i := 1) rfl) rfl) rfl
            refine wp_pick (.tmp 41) (.tmp 43) _ rfl ?_
            rw [show a.eval (.tmp 41) = _ from t14, show a.eval (.tmp 43) = _ from t16]
            refine (pick_any g q' _ _ D.rd (by omega)).mono ?_
            rintro e w9 ⟨kk, rfl, p1, p2, g9, r9⟩
            exact ⟨_, rfl, hK _ _ ⟨q' + 1, by omega, D.step g9 r9⟩ (gT_keep (fun h cs hh hb => hb.grown g9 (by have := D.lt; intro e; cases e; omega)) (fun h x hh hb => ⟨x, hb.grown g9 (by have := D.lt; intro e; cases e; omega)⟩)) (fun _ => ⟨kk, rfl⟩)⟩
          · obtain rfl := Option.some.inj ho
            refine wp_move (.tmp 0) rfl ?_
            exact hK _ _ ⟨q', by omega, D⟩ (fun _ _ h => h) (fun _ => h0)
          · obtain rfl := Option.some.inj ho
            refine wp_move (.tmp 3) rfl ?_
            exact hK _ _ ⟨q', by omega, D⟩ (fun _ _ h => h) (fun _ => h3)
          · obtain rfl := Option.some.inj ho
            have t19 := hI.new 19 _ 46 rfl (hdep _ (Array.mem_of_getElem? (i := 0) rfl) rfl) rfl
            refine wp_run (run_len (.tmp 46) A gs.length c rfl t19 _) ?_
            exact hK _ _ ⟨q', by omega, D⟩ (fun _ _ h => h) (fun _ => rfl)
          · obtain rfl := Option.some.inj ho
            have t18 := hI.new 18 _ 45 rfl (hdep _ (Array.mem_of_getElem? (i := 0) rfl) rfl) rfl
            have t20 := hI.new 20 _ 47 rfl (hdep _ (Array.mem_of_getElem? (i := 1) rfl) rfl) rfl
            refine wp_pick (.tmp 45) (.tmp 47) _ rfl ?_
            rw [show a.eval (.tmp 45) = _ from t18, show a.eval (.tmp 47) = _ from t20]
            refine (pick_any g q' _ _ D.rd (by omega)).mono ?_
            rintro e w9 ⟨kk, rfl, p1, p2, g9, r9⟩
            exact ⟨_, rfl, hK _ _ ⟨q' + 1, by omega, D.step g9 r9⟩ (gT_keep (fun h cs hh hb => hb.grown g9 (by have := D.lt; intro e; cases e; omega)) (fun h x hh hb => ⟨x, hb.grown g9 (by have := D.lt; intro e; cases e; omega)⟩)) (fun _ => ⟨kk, rfl⟩)⟩
          · obtain rfl := Option.some.inj ho
            have t1 := hI.new 1 _ 28 rfl (hdep _ (Array.mem_of_getElem? (i := 0) rfl) rfl) rfl
            have t6 := hI.new 6 _ 33 rfl (hdep _ (Array.mem_of_getElem? (i := 1) rfl) rfl) rfl
            have t11 := hI.new 11 _ 38 rfl (hdep _ (Array.mem_of_getElem? (i := 2) rfl) rfl) rfl
            have t13 := hI.new 13 _ 40 rfl (hdep _ (Array.mem_of_getElem? (i := 3) rfl) rfl) rfl
            have t17 := hI.new 17 _ 44 rfl (hdep _ (Array.mem_of_getElem? (i := 4) rfl) rfl) rfl
            have t21 := hI.new 21 _ 48 rfl (hdep _ (Array.mem_of_getElem? (i := 5) rfl) rfl) rfl
            obtain ⟨x1, e1⟩ := t1; obtain ⟨x6, e6⟩ := t6; obtain ⟨x11, e11⟩ := t11; obtain ⟨x13, e13⟩ := t13; obtain ⟨x17, e17⟩ := t17; obtain ⟨x21, e21⟩ := t21
            refine wp_run (run_buildPt (.tmp 28) (.tmp 33) (.tmp 38) (.tmp 40) (.tmp 44) (.tmp 48) ⟨0, x1, x6, x11, x13, x17, x21⟩ rfl e1 e6 e11 e13 e17 e21 _) ?_
            exact hK _ _ ⟨q', by omega, D⟩ (fun _ _ h => h) (fun _ => ⟨⟨0, x1, x6, x11, x13, x17, x21⟩, rfl⟩)
          · obtain rfl := Option.some.inj ho
            refine wp_run (run_allocPt rfl _) ?_
            exact hK _ _ ⟨q', by omega, D.next (by go_grown)⟩ (gT_keep (fun h cs hh hb => hb.alloc _) (fun h x hh hb => ⟨x, hb.alloc _⟩)) (fun _ => ⟨_, ⟨0, 0, 0, 0, 0, 0, 0⟩, rfl, D.size, Blk.new _ _ _⟩)
          · obtain rfl := Option.some.inj ho
            have t23 := hI.new 23 _ 5 rfl (hdep _ (Array.mem_of_getElem? (i := 0) rfl) rfl) rfl
            have t22 := hI.new 22 _ 49 rfl (hdep _ (Array.mem_of_getElem? (i := 1) rfl) rfl) rfl
            obtain ⟨hb, x, e1, hH, B⟩ := t23
            obtain ⟨y, e2⟩ := t22
            refine wp_run_skip (run_storePt (.tmp 5) (.tmp 49) hb x y rfl e1 e2 _ B) ?_
            refine hK _ _ ⟨q', by omega, ((((((D.set hH _).set hH _).set hH _).set hH _).set hH _).set hH _).set hH _⟩ (gT_keep (fun h cs hh hc => ?_) (fun h z hh hc => ?_)) (fun h => absurd rfl h)
            · have NE := blk_ne hc B (by decide)
              exact ((((((hc.far (p := ⟨hb, 0, none⟩) NE _).far (p := ⟨hb, 1, none⟩) NE _).far (p := ⟨hb, 2, none⟩) NE _).far (p := ⟨hb, 3, none⟩) NE _).far (p := ⟨hb, 4, none⟩) NE _).far (p := ⟨hb, 5, none⟩) NE _).far (p := ⟨hb, 6, none⟩) NE _
            · by_cases NE : h = hb
              · subst NE
                exact ⟨y, ((((((hc.set_ 0 _).set_ 1 _).set_ 2 _).set_ 3 _).set_ 4 _).set_ 5 _).set_ 6 _⟩
              · exact ⟨z, ((((((hc.far (p := ⟨hb, 0, none⟩) NE _).far (p := ⟨hb, 1, none⟩) NE _).far (p := ⟨hb, 2, none⟩) NE _).far (p := ⟨hb, 3, none⟩) NE _).far (p := ⟨hb, 4, none⟩) NE _).far (p := ⟨hb, 5, none⟩) NE _).far (p := ⟨hb, 6, none⟩) NE _⟩
        · intro listed a w' hI hall hq
          obtain ⟨q', hq', D⟩ := hq
          have hq25 : q' ≤ q + 25 := hq'
          obtain ⟨hb, x, e5, hH, B⟩ := hI.new 23 _ 5 rfl (hall 23 (by decide)) rfl
          have key := hI.lit [27, 28, 29, 30, 31, 32, 33, 34, 35, 36, 37, 38, 39, 40, 41, 42, 43, 44, 45, 46, 47, 48, 49, 5] (by kernel_rfl) (by kernel_rfl)
          simp only [List.foldl_cons, List.foldl_nil] at key
          rw [e5] at key
          generalize a.eval (.tmp 27) = v27 at key; generalize a.eval (.tmp 28) = v28 at key; generalize a.eval (.tmp 29) = v29 at key; generalize a.eval (.tmp 30) = v30 at key; generalize a.eval (.tmp 31) = v31 at key; generalize a.eval (.tmp 32) = v32 at key; generalize a.eval (.tmp 33) = v33 at key; generalize a.eval (.tmp 34) = v34 at key; generalize a.eval (.tmp 35) = v35 at key; generalize a.eval (.tmp 36) = v36 at key; generalize a.eval (.tmp 37) = v37 at key; generalize a.eval (.tmp 38) = v38 at key; generalize a.eval (.tmp 39) = v39 at key; generalize a.eval (.tmp 40) = v40 at key; generalize a.eval (.tmp 41) = v41 at key; generalize a.eval (.tmp 42) = v42 at key; generalize a.eval (.tmp 43) = v43 at key; generalize a.eval (.tmp 44) = v44 at key; generalize a.eval (.tmp 45) = v45 at key; generalize a.eval (.tmp 46) = v46 at key; generalize a.eval (.tmp 47) = v47 at key; generalize a.eval (.tmp 48) = v48 at key; generalize a.eval (.tmp 49) = v49 at key
          clear hI hall e5
          subst key
          simp only [Act.put]
          have D' := HD.out.step D.grown D.rd
          have O' := own_low HO.out D.grown HD.out.lt
          have y0 := (show _ = some (Value.int .i64 x.verdict) from B.cell 0); have y1 := (show _ = some (Value.int .i64 x.field) from B.cell 1); have y2 := (show _ = some (Value.int .i64 x.mask) from B.cell 2); have y3 := (show _ = some (Value.int .i64 x.op) from B.cell 3); have y4 := (show _ = some (Value.int .i64 x.value) from B.cell 4); have y5 := (show _ = some (Value.int .i64 x.yes) from B.cell 5); have y6 := (show _ = some (Value.int .i64 x.no) from B.cell 6)
          have hsz := D'.size
          have HD' := Lib.hid D'; have HO' := Lib.hid O'; clear D' O' B D
          go_wp2_with (at_builtin; go_must (refine wpList_app1g rfl (.tmp 50) (.tmp 52) _ rfl w.heap.size 40 Try.underlying23 info_PointM rfl (by omega) (by omega) (.slice A gs.length c) gs.length (gs.map Pt.cells) rfl HO'.out rfl (by simp [Value.oneCell']) rfl (by omega) (by omega) ?_); intro v9 w9 hown9 hg9 _; obtain ⟨g9, cap9, rfl, hg9', hg9''⟩ := hown9.form (by omega))
          have hb9 : Below w.heap.size w' w9 := (Below.refl w.heap.size w').grown hg9 hsz (fun k hk => (HO'.out.lt k hk).1)
          refine ⟨⟨z', q', gs ++ [x], by omega, by go_num, by omega, by simp; omega, HD'.out.app hb9 (Nat.le_refl _), ?_⟩, by simp [intOf]⟩
          rw [List.length_append]
          simpa [Pt.cells] using hown9
end Go.Proofs.Ytccklepidlddcaa
