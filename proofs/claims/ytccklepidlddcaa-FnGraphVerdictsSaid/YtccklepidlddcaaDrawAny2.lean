/- How the laws draw a call of whatever make: the walk. -/
import Derived.Test.YtccklepidlddcaaDrawAny
import Derived.Test.YtccklepidlddcaaKit
import Derived.Deep.DrawnRows
namespace Go.Proofs.Ytccklepidlddcaa
open Go.RowKit
set_option linter.unusedSimpArgs false
set_option linter.unusedVariables false
attribute [local go_sem ↓] Go.wp_at_zero Go.wp_at_succ

/-- How the world stands while a drawn call is bent. -/
structure Da (w wr : World) (g p h3 : Nat) (num : Int) (v : Value) (xs : List Int) : Prop where
  rd : Rd wr g p
  t2 : Blk wr w.heap.size 30 #[.int .i64 0, .slice none 0 0]
  t3 : Blk wr h3 30 #[.int .i64 num, v]
  after : w.heap.size < h3
  own : wr.ownsRow (w.heap.size + 1) 3 1 v xs.length (ints xs).flatten
  ne : v.ownBlock ≠ some h3
  grown : w.grownBy wr (some g)
  lt : g < w.heap.size
theorem Da.step {w wr w1 : World} {g p p' h3 : Nat} {num : Int} {v : Value} {xs : List Int} (h : Da w wr g p h3 num v xs) (hg : wr.grownBy w1 (some g)) (hr : Rd w1 g p') : Da w w1 g p' h3 num v xs :=
  ⟨hr, h.t2.grown hg (by intro e; have := h.lt; cases e; omega), h.t3.grown hg (by intro e; have := h.lt; have := h.after; cases e; omega), h.after, h.own.kept hg (by
    rcases ho : v.ownBlock with _ | b
    · exact .inl rfl
    · exact .inr (by have := (h.own.lt b ho).1; have := h.lt; intro e; cases e; omega)), h.ne, h.grown.trans hg, h.lt⟩
theorem Da.next {w wr w1 : World} {g p h3 : Nat} {num : Int} {v : Value} {xs : List Int} (h : Da w wr g p h3 num v xs) (hb : Below wr.heap.size wr w1) : Da w w1 g p h3 num v xs :=
  h.step (grown_of_below hb _) (h.rd.next hb)
/-- A row of ints that lies behind what was there. -/
def FarSl (w : World) (base : Nat) (v : Value) (xs : List Int) : Prop := ∃ A n c, v = .slice A n c ∧ SlA w 1 A n c (ints xs) ∧ ∀ b off, A = some ⟨b, off, none⟩ → base ≤ b
theorem FarSl.sl {w : World} {base : Nat} {v : Value} {xs : List Int} (h : FarSl w base v xs) : Sl w 1 v (ints xs) := by
  obtain ⟨A, n, c, rfl, h, _⟩ := h; exact ⟨A, n, c, rfl, h⟩
/-- What is drawn. -/
def AnyPost (g p : Nat) (w : World) (e : Ending) (w' : World) : Prop :=
  ∃ (n : Int) (v : Value) (xs : List Int) (q : Nat), e = .returned (.agg #[.int .i64 n, v]) ∧ FarSl w' w.heap.size v xs ∧ w.grownBy w' (some g) ∧ Rd w' g q ∧ q ≤ p + 26

theorem SlA.kept2 {w wr : World} {A : Option Addr} {n c : Nat} {xs : List Int} {a b : Value} (h : SlA wr 1 A n c (ints xs)) (hA : ∀ b off, A = some ⟨b, off, none⟩ → b ≠ w.heap.size) : SlA ((wr.setCell ⟨w.heap.size, 0, none⟩ a).setCell ⟨w.heap.size, 1, none⟩ b) 1 A n c (ints xs) :=
  (h.grown (grown_set _ _ _ _) hA).grown (grown_set _ _ _ _) hA
theorem rd_kept2 {w wr : World} {g p : Nat} {a b : Value} (h : Rd wr g p) (hg : g < w.heap.size) : Rd ((wr.setCell ⟨w.heap.size, 0, none⟩ a).setCell ⟨w.heap.size, 1, none⟩ b) g p :=
  h.below (((Below.refl w.heap.size wr).setCell (p := ⟨w.heap.size, 0, none⟩) (Nat.le_refl _) _).setCell (p := ⟨w.heap.size, 1, none⟩) (Nat.le_refl _) _) hg
theorem own_block_far {w : World} {base b off n c m k : Nat} {e : TypeId} {size : Nat} {xs : List Value} (h : w.ownsRow base e size (.slice (some ⟨b, off, none⟩) n c) m xs) (hk : k < base) : b ≠ k := by
  have := (h.lt b rfl).1; omega

/-- A region's end with four numbers in its frame. -/
def RegEnd4 (f : Nat → Nat → Nat → Int → Act) (R : Nat → Nat → Nat → Int → World → Prop) : Exit → Act → World → Prop
  | .normal, a, w => ∃ h i j x, a = f h i j x ∧ R h i j x w
  | _, _, _ => False
theorem region_mid4 {P : Program} {c : Code} {Q : Exit → Act → World → Prop} {a : Act} {w : World} (f : Nat → Nat → Nat → Int → Act) (R : Nat → Nat → Nat → Int → World → Prop) (hr : c.wp P (RegEnd4 f R) a w) (hq : ∀ h i j x w', R h i j x w' → Q .normal (f h i j x) w') : c.wp P Q a w :=
  Code.wp_mono (fun e a w' hE => by
    cases e with
    | normal => obtain ⟨h, i, j, x, ha, hR⟩ := hE; subst ha; exact hq h i j x w' hR
    | _ => exact hE.elim) hr
theorem Da.stored {w wr : World} {g p h3 b c : Nat} {num : Int} {xs : List Int} (h : Da w wr g p h3 num (.slice (some ⟨b, 0, none⟩) xs.length c) xs) (hx : xs.length = 4) (hne : b ≠ h3) (k : Nat) (x : Int) :
    Da w (wr.setCell ⟨b, k, none⟩ (.int .i64 x)) g p h3 num (.slice (some ⟨b, 0, none⟩) 4 c) (xs.set k x) := by
  have ho := h.own
  have hb : w.heap.size + 1 ≤ b := (ho.lt b rfl).1
  rw [hx] at ho
  obtain ⟨o2, g2⟩ := ho.stored k (.int .i64 x)
  rw [ints_flat, ← List.map_set, ← ints_flat] at o2
  have hlt := h.lt
  have t3 := h.t3
  rw [hx] at t3
  exact ⟨h.rd.below ((Below.refl (w.heap.size + 1) wr).setCell (p := ⟨b, k, none⟩) hb _) (by omega), h.t2.grown g2 (by intro e; cases e; omega), t3.grown g2 (by intro e; cases e; exact hne rfl), h.after, by simpa [hx] using o2, (by have := h.ne; rw [hx] at this; exact this),
    grown_new h.grown (by omega) _, h.lt⟩
/-- How it stands when a number of a row has turned. -/
structure AnyEnd (w w1 w' : World) (g q : Nat) (n : Int) (k3 : Nat) (x : Int) (v : Value) (xs : List Int) : Prop where
  lt : k3 < 4
  da : Da w w' g (q + 2 + 1) w1.heap.size n v (xs.set k3 x)

set_option maxHeartbeats 8000000 in
theorem l11AnyCall_any (g p : Nat) (w : World) (h : Rd w g p) (hp : p ≤ 800000000) :
    Calls Try.prog 25 #[.pointer (some ⟨g, 0, none⟩)] w (AnyPost g p w) := by
  have hlt := h.lt
  go_enter Try.func25, Try.ntmps25
  go_wp2_with fail
  refine (l11Call_any g p _ (h.next (by go_grown)) (by omega)).mono ?_; rintro e w1 ⟨n, cv, xs, q, rfl, hok, ho, g1, r1, hq⟩
  have hw1 : w.heap.size < w1.heap.size := by have := g1.size; simp at this; omega
  have t2 : Blk w1 w.heap.size 30 #[.int .i64 0, .slice none 0 0] := (Blk.new w _ _).grown g1 (by intro e; cases e; omega)
  have D1 : Da w (w1.alloc (.cells #[.int .i64 n, cv] 30)) g q w1.heap.size n cv xs :=
    ⟨r1.next (by go_grown), t2.alloc _, Blk.new w1 _ _, hw1, by rw [hok.2.1]; exact own_base (ho.alloc _) (by simp), (by intro e; have := (ho.lt _ e).2; omega), ((World.grownBy_alloc w _ _).trans g1).trans (World.grownBy_alloc _ _ _), hlt⟩
  obtain ⟨A1, n1, c1, rfl, -⟩ := SlA.of_own ho ((ints_len xs).trans hok.2.1) (ints_rows xs)
  go_wp2_with fail
  refine (pick_any g q 14 _ D1.rd (by omega)).mono ?_; rintro e w2 ⟨k2, rfl, a2, a2', g2, r2⟩
  have D2 := D1.step g2 r2
  have s2 := SlA.of_own D2.own (ints_len xs) (ints_rows xs)
  obtain ⟨A2, n2, c2, e2, hA2⟩ := s2
  simp only [Value.slice.injEq] at e2
  obtain ⟨rfl, rfl, rfl⟩ := e2
  have hfar1 : ∀ b off, A1 = some ⟨b, off, none⟩ → w.heap.size + 1 ≤ b := fun b off e => by have ho2 := D2.own; rw [e] at ho2; exact (ho2.lt b rfl).1
  have hfar : ∀ b off, A1 = some ⟨b, off, none⟩ → b ≠ w.heap.size := fun b off e => by have := hfar1 b off e; omega
  have hfar2 : ∀ b off, A1 = some ⟨b, off, none⟩ → w.heap.size ≤ b := fun b off e => by have := hfar1 b off e; omega
  have p0 : w2.cell? ⟨w1.heap.size, 0, none⟩ = some (.int .i64 n) := D2.t3.cell 0
  have p1 : w2.cell? ⟨w1.heap.size, 1, none⟩ = some (.slice A1 n1 c1) := D2.t3.cell 1
  have f0 := D2.t3.frozen 0
  have f1 := D2.t3.frozen 1
  have t0 : w2.cell? ⟨w.heap.size, 0, none⟩ = some (.int .i64 0) := D2.t2.cell 0
  have t1 : w2.cell? ⟨w.heap.size, 1, none⟩ = some (.slice none 0 0) := D2.t2.cell 1
  have u0 := D2.t2.frozen 0
  have u1 := D2.t2.frozen 1
  by_cases hk : 4 ≤ k2
  · have e0 : (k2 == 0) = false := by simp; omega
    have e1 : (k2 == 1) = false := by simp; omega
    have e2 : (k2 == 2) = false := by simp; omega
    have e3 : (k2 == 3) = false := by simp; omega
    go_wp2
    refine bodyPost_ret (v := .agg #[.int .i64 n, .slice A1 n1 c1]) (by simp [results, Try.results25, go_sem, t0, t1]) rfl ⟨n, _, xs, q + 1, rfl, ⟨_, _, _, rfl, hA2.kept2 hfar, hfar2⟩, grown_new (grown_new D2.grown (Nat.le_refl _) _) (Nat.le_refl _) _, rd_kept2 D2.rd hlt, by omega⟩
  · have hform := D2.own.form (by have := hok.2.1; omega)
    obtain ⟨b, cap, hv, hb1, hcap⟩ := hform
    simp only [Value.slice.injEq] at hv
    obtain ⟨rfl, rfl, rfl⟩ := hv
    have hx4 := hok.2.1
    have hne : b ≠ w1.heap.size := fun e => D2.ne (by rw [e]; rfl)
    have hcm := hA2.max
    have hcc := hA2.cap
    unfold maxLen at hcm
    obtain rfl | rfl | rfl | rfl : k2 = 0 ∨ k2 = 1 ∨ k2 = 2 ∨ k2 = 3 := by omega
    · have hww : ¬ w.heap.size = w1.heap.size := by omega
      have D2n := D2.next (w1 := w2.alloc (.cells #[.int .i64 (-1), .int .i64 4294967296] 3)) (by go_grown)
      have B3 := Blk.new w2 3 #[.int .i64 (-1), .int .i64 4294967296]
      have hgl := D2.rd.lt
      go_wp2_with fail
      refine (pick_any g (q + 1) 2 _ D2n.rd (by omega)).mono ?_; rintro e w3 ⟨k3, rfl, a3, a3', g3, r3⟩
      have a3'' := a3' (by omega)
      have D3 := D2n.step g3 r3
      have B3' := B3.grown g3 (by intro e; cases e; omega)
      have b0 : w3.cell? ⟨w2.heap.size, 0, none⟩ = some (.int .i64 (-1)) := B3'.cell 0
      have b1 : w3.cell? ⟨w2.heap.size, 1, none⟩ = some (.int .i64 4294967296) := B3'.cell 1
      obtain ⟨A3, n3, c3, e3, hA3⟩ := SlA.of_own D3.own (ints_len xs) (ints_rows xs)
      simp only [Value.slice.injEq] at e3
      obtain ⟨rfl, rfl, rfl⟩ := e3
      replace p0 : w3.cell? ⟨w1.heap.size, 0, none⟩ = some (.int .i64 n) := D3.t3.cell 0
      replace p1 : w3.cell? ⟨w1.heap.size, 1, none⟩ = some (.slice (some ⟨b, 0, none⟩) 4 c1) := by have := D3.t3.cell 1; rw [hx4] at this; exact this
      rw [hx4] at hA3
      replace f0 := D3.t3.frozen 0
      replace t0 : w3.cell? ⟨w.heap.size, 0, none⟩ = some (.int .i64 0) := D3.t2.cell 0
      replace t1 : w3.cell? ⟨w.heap.size, 1, none⟩ = some (.slice none 0 0) := D3.t2.cell 1
      replace u0 := D3.t2.frozen 0
      replace u1 := D3.t2.frozen 1
      have HA3 := Lib.hid hA3; have HD := Lib.hid D3; clear hA3 hA2 D1 D2 D2n D3 B3 B3' a2' a3'
      obtain rfl | rfl : k3 = 0 ∨ k3 = 1 := by omega
      · go_wp2
        refine bodyPost_ret (v := .agg #[.int .i64 (-1), .slice (some ⟨b, 0, none⟩) 4 c1]) (by simp [results, Try.results25, go_sem, t0, t1, hww]) rfl ⟨(-1), _, xs, q + 2, rfl, ⟨_, _, _, rfl, SlA.kept2 (HA3.out.grown (grown_set _ _ _ _) (fun b' off e => by cases e; exact hne)) hfar, hfar2⟩, grown_new (grown_new (grown_new HD.out.grown (by omega) _) (Nat.le_refl _) _) (Nat.le_refl _) _, rd_kept2 (HD.out.rd.below ((Below.refl w1.heap.size w3).setCell (p := ⟨w1.heap.size, 0, none⟩) (Nat.le_refl _) _) (by omega)) hlt, by omega⟩
      · go_wp2
        refine bodyPost_ret (v := .agg #[.int .i64 4294967296, .slice (some ⟨b, 0, none⟩) 4 c1]) (by simp [results, Try.results25, go_sem, t0, t1, hww]) rfl ⟨4294967296, _, xs, q + 2, rfl, ⟨_, _, _, rfl, SlA.kept2 (HA3.out.grown (grown_set _ _ _ _) (fun b' off e => by cases e; exact hne)) hfar, hfar2⟩, grown_new (grown_new (grown_new HD.out.grown (by omega) _) (Nat.le_refl _) _) (Nat.le_refl _) _, rd_kept2 (HD.out.rd.below ((Below.refl w1.heap.size w3).setCell (p := ⟨w1.heap.size, 0, none⟩) (Nat.le_refl _) _) (by omega)) hlt, by omega⟩
    · have hww : ¬ w.heap.size = w1.heap.size := by omega
      rw [hx4] at p1
      have hgl := D2.rd.lt
      have hl3 := D2.t3.lt
      have hR := D2.rd
      have HD2 := Lib.hid D2
      clear hA2 D1 D2
      go_wp2
      have m0 : (w2.drew.alloc (.cells #[.int .i64 (-1), .int .i64 4294967296] 3)).cell? ⟨w1.heap.size, 1, none⟩ = some (.slice (some ⟨b, 0, none⟩) 4 c1) := by
        have := (HD2.out.t3.drew.alloc (.cells #[.int .i64 (-1), .int .i64 4294967296] 3)).cell 1; rw [hx4] at this; exact this
      refine region_mid4 (f := fun hh k3 k4 x => { tmps := #[.pointer (some ⟨g, 0, none⟩), undef, .pointer (some ⟨w.heap.size, 0, none⟩), .pointer (some ⟨w1.heap.size, 0, none⟩), .pointer (some ⟨g, 0, none⟩), .agg #[.int .i64 n, .slice (some ⟨b, 0, none⟩) 4 c1], .pointer (some ⟨g, 0, none⟩), .int .i64 1, .bool false, .bool false, undef, undef, undef, undef, undef, undef, .bool true, .bool true, .pointer (some ⟨w1.heap.size, 1, none⟩), .slice (some ⟨b, 0, none⟩) 4 c1, .pointer (some ⟨g, 0, none⟩), .int .i64 k3, .slice (some ⟨hh, 0, none⟩) 2 2, .pointer (some ⟨g, 0, none⟩), .int .i64 k4, .pointer (some ⟨hh, k4, none⟩), .int .i64 x, .pointer (some ⟨b, k3, none⟩), undef, undef, undef, undef, undef, undef, undef, undef, undef, undef, undef, undef, undef, undef], defers := [] }) (R := fun hh k3 k4 x w' => AnyEnd w w1 w' g q n k3 x (.slice (some ⟨b, 0, none⟩) 4 c1) xs) ?hr ?hq
      case hr =>
        go_region_law (first
          | (have hR1 := hR; clear hR; go_simp; go_at_call 23; refine (pick_any g (q + 1) 4 _ (hR1.next (by go_grown)) (by omega)).mono ?_; rintro e w3 ⟨k3, rfl, a3, a3', g3, r3⟩; have D3 := (HD2.out.next (by go_grown)).step g3 r3; obtain ⟨k3, rfl⟩ := Int.eq_ofNat_of_zero_le a3; have k3l : k3 < 4 := (by have := a3' (by omega); omega); have k3i : (k3 : Int) < 4 := (by omega); clear a3 a3'; have q1 : w3.cell? ⟨w1.heap.size, 1, none⟩ = some (.slice (some ⟨b, 0, none⟩) 4 c1) := (by have := D3.t3.cell 1; rw [hx4] at this; exact this); have s3 := r3.lt; have m1 : (w3.alloc (.cells #[.int .i64 (-1), .int .i64 4294967296] 3)).cell? ⟨w1.heap.size, 1, none⟩ = some (.slice (some ⟨b, 0, none⟩) 4 c1) := (by have := (D3.t3.alloc (.cells #[.int .i64 (-1), .int .i64 4294967296] 3)).cell 1; rw [hx4] at this; exact this); try have B3 := Lib.hid ((show Blk ((w2.drew).alloc (.cells #[.int .i64 (-1), .int .i64 4294967296] 3)) w2.heap.size 3 #[.int .i64 (-1), .int .i64 4294967296] from Blk.new w2.drew _ _).grown g3 (by intro e; cases e; omega)))
          | (have r31 := r3; clear r3; go_simp; go_at_call 23; refine (pick_any g (q + 2) 2 _ (r31.next (by go_grown)) (by omega)).mono ?_; rintro e w4 ⟨k4, rfl, a4, a4', g4, r4⟩; have D4 := (D3.next (by go_grown)).step g4 r4; obtain ⟨k4, rfl⟩ := Int.eq_ofNat_of_zero_le a4; have k4l : k4 < 2 := (by have := a4' (by omega); omega); have k4i : (k4 : Int) < 2 := (by omega); clear a4 a4'; have q2 : w4.cell? ⟨w1.heap.size, 1, none⟩ = some (.slice (some ⟨b, 0, none⟩) 4 c1) := (by have := D4.t3.cell 1; rw [hx4] at this; exact this); have s4 := r4.lt; have m2 : (w4.alloc (.cells #[.int .i64 (-1), .int .i64 4294967296] 3)).cell? ⟨w1.heap.size, 1, none⟩ = some (.slice (some ⟨b, 0, none⟩) 4 c1) := (by have := (D4.t3.alloc (.cells #[.int .i64 (-1), .int .i64 4294967296] 3)).cell 1; rw [hx4] at this; exact this);  (first | (have B4 := B3.out.grown g4 (by intro e; cases e; omega); obtain ⟨x, q3⟩ : ∃ x, w4.cell? ⟨w2.heap.size, k4, none⟩ = some (.int .i64 x) := ⟨if k4 = 0 then -1 else 4294967296, (by obtain rfl | rfl : k4 = 0 ∨ k4 = 1 := (by omega); exact B4.cell 0; exact B4.cell 1)⟩) | (have B4 := (Blk.new w3 3 #[.int .i64 (-1), .int .i64 4294967296]).grown g4 (by intro e; cases e; omega); obtain ⟨x, q3⟩ : ∃ x, w4.cell? ⟨w3.heap.size, k4, none⟩ = some (.int .i64 x) := ⟨if k4 = 0 then -1 else 4294967296, (by obtain rfl | rfl : k4 = 0 ∨ k4 = 1 := (by omega); exact B4.cell 0; exact B4.cell 1)⟩) | (have B4 := Blk.new w4 3 #[.int .i64 (-1), .int .i64 4294967296]; have D5 := D4.next (w1 := w4.alloc (.cells #[.int .i64 (-1), .int .i64 4294967296] 3)) (by go_grown); clear D4; have D4 := D5; clear D5; obtain ⟨x, q3⟩ : ∃ x, (w4.alloc (.cells #[.int .i64 (-1), .int .i64 4294967296] 3)).cell? ⟨w4.heap.size, k4, none⟩ = some (.int .i64 x) := ⟨if k4 = 0 then -1 else 4294967296, (by obtain rfl | rfl : k4 = 0 ∨ k4 = 1 := (by omega); exact B4.cell 0; exact B4.cell 1)⟩)); have O4 := D4.own; rw [hx4] at O4; have q4 := O4.cellAt k3 (by omega); rw [ints_flat, List.getElem?_map] at q4; obtain ⟨x0, hx0⟩ : ∃ x0, xs[k3]? = some x0 := ⟨_, List.getElem?_eq_getElem (by omega)⟩; rw [hx0, Option.map_some] at q4; clear hx0; have q5 := O4.frozenAt k3; have hbl := (O4.lt b rfl).2))
        all_goals simp [Act.put]
        all_goals
          have hD := D4.stored hx4 hne k3 x
          first
            | (obtain ⟨hh, eh⟩ : ∃ hh, w2.heap.size = hh := ⟨_, rfl⟩; simp only [eh]; exact ⟨hh, k3, k4, x, rfl, k3l, hD⟩)
            | (obtain ⟨hh, eh⟩ : ∃ hh, w3.heap.size = hh := ⟨_, rfl⟩; simp only [eh]; exact ⟨hh, k3, k4, x, rfl, k3l, hD⟩)
            | (obtain ⟨hh, eh⟩ : ∃ hh, w4.heap.size = hh := ⟨_, rfl⟩; simp only [eh]; exact ⟨hh, k3, k4, x, rfl, k3l, hD⟩)
      case hq =>
        rintro hh k3 k4 x w5 ⟨k3l, D5⟩
        have p0' : World.cell? _ ⟨w1.heap.size, 0, none⟩ = some (.int .i64 n) := D5.t3.cell 0
        have p1' : World.cell? _ ⟨w1.heap.size, 1, none⟩ = some (.slice (some ⟨b, 0, none⟩) 4 c1) := D5.t3.cell 1
        have t0' : World.cell? _ ⟨w.heap.size, 0, none⟩ = some (.int .i64 0) := D5.t2.cell 0
        have t1' : World.cell? _ ⟨w.heap.size, 1, none⟩ = some (.slice none 0 0) := D5.t2.cell 1
        have u0' := D5.t2.frozen 0
        have u1' := D5.t2.frozen 1
        have hbw := hfar _ _ rfl
        obtain ⟨A6, n6, c6, e6, hA6⟩ := SlA.of_own D5.own (ints_len _) (ints_rows _)
        simp only [Value.slice.injEq] at e6
        obtain ⟨rfl, rfl, rfl⟩ := e6
        have HD := Lib.hid D5; have HA6 := Lib.hid hA6
        clear D5 hA6
        go_wp2
        refine bodyPost_ret (v := .agg #[.int .i64 n, .slice (some ⟨b, 0, none⟩) 4 c1]) (by simp [results, Try.results25, go_sem, t0', t1', hww, hbw]) rfl ⟨n, _, xs.set k3 x, q + 3, rfl, ⟨_, _, _, rfl, SlA.kept2 HA6.out hfar, hfar2⟩, grown_new (grown_new HD.out.grown (Nat.le_refl _) _) (Nat.le_refl _) _, rd_kept2 HD.out.rd hlt, by omega⟩
    · obtain ⟨x, ys, rfl⟩ : ∃ x ys, xs = x :: ys := by cases xs with | nil => simp at hx4 | cons x ys => exact ⟨x, ys, rfl⟩
      have hy3 : ys.length = 3 := by simpa using hx4
      have hA3 : SlA w2 1 (some ⟨b, 0, none⟩) (3 + 1) c1 (ints (x :: ys)) := by rw [← hy3]; exact hA2
      have HA3 := Lib.hid hA3; clear hA3 hA2
      have hcl : (x :: ys).length = 4 := hx4
      have hc1 : ¬ c1 = 1 := by omega
      have HD := Lib.hid D2; clear D1 D2
      have hww : ¬ w.heap.size = w1.heap.size := by omega
      go_wp2
      refine bodyPost_ret (v := .agg #[.int .i64 n, .slice (some ⟨b, 1, none⟩) 3 (c1 - 1)]) (by simp [results, Try.results25, go_sem, t0, t1, hww]) rfl ⟨n, _, ys, q + 1, rfl, ⟨_, _, _, rfl, SlA.kept2 ((HA3.out.tail).grown (grown_set _ _ _ _) (fun b' off e => by cases e; exact hne)) (fun b' off e => by cases e; exact hfar _ _ rfl), fun b' off e => by cases e; exact hfar2 _ _ rfl⟩, grown_new (grown_new (grown_new HD.out.grown (by omega) _) (Nat.le_refl _) _) (Nat.le_refl _) _, rd_kept2 (HD.out.rd.below ((Below.refl w1.heap.size w2).setCell (p := ⟨w1.heap.size, 1, none⟩) (Nat.le_refl _) _) (by omega)) hlt, by omega⟩
    · have hww : ¬ w.heap.size = w1.heap.size := by omega
      rw [hx4] at p1
      have hl3 := D2.t3.lt
      have hl2 := D2.t2.lt
      have HD := Lib.hid D2; clear hA2 D1 D2
      go_wp2_with (at_builtin; go_must (refine wpList_app1g (w0 := w2) rfl (.tmp 37) (.tmp 38) _ rfl (w.heap.size + 1) 3 Try.underlying25 info_int rfl (by omega) (by omega) _ xs.length (ints xs) rfl (by first | exact HD.out.own | (rw [hx4]; have := HD.out.own; rw [hx4] at this; exact this)) rfl (by simp [Value.oneCell']) rfl (by omega) (by omega) ?_); intro v5 w5 hown5 hb5 _; obtain ⟨g5, cap5, rfl, hg5, hg5'⟩ := hown5.form (by omega); go_must (have hbb : w2.grownBy w5 (some b) := hb5); go_must (have y0 : w5.cell? ⟨w1.heap.size, 0, none⟩ = some (.int .i64 n) := hbb.cell p0 (fun e => hne (Option.some.inj e).symm)); go_must (have y1 : w5.cell? ⟨w1.heap.size, 1, none⟩ = some (.slice (some ⟨b, 0, none⟩) 4 c1) := hbb.cell p1 (fun e => hne (Option.some.inj e).symm)); go_must (have y2 : w5.frozen? ⟨w1.heap.size, 1, none⟩ = false := (World.frozen?_of_block (hbb.block w1.heap.size hl3 (fun e => hne (Option.some.inj e).symm))).trans f1); go_must (have z0 : w5.cell? ⟨w.heap.size, 0, none⟩ = some (.int .i64 0) := hbb.cell t0 (fun e => hfar _ _ rfl (Option.some.inj e).symm)); go_must (have z1 : w5.cell? ⟨w.heap.size, 1, none⟩ = some (.slice none 0 0) := hbb.cell t1 (fun e => hfar _ _ rfl (Option.some.inj e).symm)); go_must (have z2 : w5.frozen? ⟨w.heap.size, 0, none⟩ = false := (World.frozen?_of_block (hbb.block w.heap.size hl2 (fun e => hfar _ _ rfl (Option.some.inj e).symm))).trans u0); go_must (have z3 : w5.frozen? ⟨w.heap.size, 1, none⟩ = false := (World.frozen?_of_block (hbb.block w.heap.size hl2 (fun e => hfar _ _ rfl (Option.some.inj e).symm))).trans u1))
      have hx5 : (ints (xs ++ [0])) = ints xs ++ [[Value.int .i64 0]] := by simp [ints]
      have hA5 := SlA.of_own (cs := ints (xs ++ [0])) (by rw [hx5]; exact hown5) (by rw [ints_len]; simp) (ints_rows _)
      obtain ⟨A6, n6, c6, e6, hA6⟩ := hA5
      simp only [Value.slice.injEq] at e6
      obtain ⟨rfl, rfl, rfl⟩ := e6
      rw [hx4] at hA6
      have hb1w : w.heap.size + 1 ≤ b := (HD.out.own.lt b rfl).1
      have hb25 : Below w.heap.size w2 w5 := (Below.refl w.heap.size w2).grown hbb (by omega) (fun k hk => by cases hk; omega)
      have t35 : Blk w5 w1.heap.size 30 #[.int .i64 n, .slice (some ⟨b, 0, none⟩) xs.length c1] := HD.out.t3.grown hbb (fun e => hne (Option.some.inj e).symm)
      have hg5n : g5 ≠ w1.heap.size := own_ne_blk hown5 t35 (by decide)
      have hg5w : g5 ≠ w.heap.size := by omega
      refine bodyPost_ret (v := .agg #[.int .i64 n, .slice (some ⟨g5, 0, none⟩) 5 cap5]) (by simp [results, Try.results25, go_sem, z0, z1, hww]) rfl ⟨n, _, xs ++ [0], q + 1, rfl, ⟨_, _, _, rfl, SlA.kept2 (hA6.grown (grown_set _ _ _ _) (fun b' off e => by cases e; exact hg5n)) (fun b' off e => by cases e; exact hg5w), fun b' off e => by cases e; omega⟩, grown_new (grown_new (grown_new (grown_then HD.out.grown hb25 (Nat.le_refl _)) (by omega) _) (Nat.le_refl _) _) (Nat.le_refl _) _, rd_kept2 (HD.out.rd.below (hb25.setCell (p := ⟨w1.heap.size, 1, none⟩) (by show w.heap.size ≤ w1.heap.size; omega) _) hlt) hlt, by omega⟩
end Go.Proofs.Ytccklepidlddcaa
