/- How the laws draw policies: no bounds are asked. -/
import Derived.Test.YtcomdkmglihdbaaGreatDoorDrawPol
import Derived.Test.YtcomdkmglihdbaaGreatDoorKit
import Derived.Deep.RegionLaw
namespace Go.Proofs.YtcomdkmglihdbaaGreatDoor
open Go.RowKit
set_option linter.unusedSimpArgs false
set_option linter.unusedVariables false

theorem info_TestM : (Tryz.prog.info? 127).map (fun i => (i.zero, i.size, i.bytes)) = some (some (.agg #[.int .i64 0, .int .i64 0, .int .i64 0, .int .i64 0]), 4, 32) := by kernel_rfl
theorem info_RuleM : (Tryz.prog.info? 125).map (fun i => (i.zero, i.size, i.bytes)) = some (some (.agg #[.int .i64 0, .int .i64 0, .int .i64 0, .slice none 0 0]), 4, 48) := by kernel_rfl

theorem own_apart {w : World} {b1 b2 n1 n2 s1 s2 : Nat} {e1 e2 : TypeId} {v1 v2 : Value} {x1 x2 : List Value} (h1 : w.ownsRow b1 e1 s1 v1 n1 x1) (h2 : w.ownsRow b2 e2 s2 v2 n2 x2) (hne : e1 ≠ e2) : v1.ownBlock = none ∨ v1.ownBlock ≠ v2.ownBlock := by
  rcases h1.2 with ⟨rfl, _⟩ | ⟨g1, cap1, cur1, rfl, _, hg1, _⟩
  · exact .inl rfl
  rcases h2.2 with ⟨rfl, _⟩ | ⟨g2, cap2, cur2, rfl, _, hg2, _⟩
  · exact .inr (by intro e; cases e)
  · refine .inr fun e => ?_
    cases e
    have := hg1.symm.trans hg2
    exact hne (by injection this with h1; injection h1 with h2 h3)
theorem own_low {w w' : World} {B g s n : Nat} {e : TypeId} {v : Value} {xs : List Value} (h : w.ownsRow B e s v n xs) (hg : w.grownBy w' (some g)) (hB : g < B) : w'.ownsRow B e s v n xs :=
  h.kept hg (by
    rcases ho : v.ownBlock with _ | b
    · exact .inl rfl
    · exact .inr (by have := (h.lt b ho).1; intro e; cases e; omega))

theorem own_blk_ne {w : World} {base n k : Nat} {e t : TypeId} {size : Nat} {v : Value} {xs : List Value} {cs : Array Value} (h : w.ownsRow base e size v n xs) (hk : Blk w k t cs) (ht : t ≠ e) : v.ownBlock ≠ some k := by
  rcases h.2 with ⟨rfl, _⟩ | ⟨g', cap', cur, rfl, _, hg, _⟩
  · intro e; cases e
  · intro e
    cases e
    have := hg.symm.trans hk
    exact ht (by injection this with h1; injection h1 with h2 h3; exact h3.symm)
theorem Dq.app {w wr w1 : World} {g p B : Nat} (h : Dq w wr g p) (hb : Below B wr w1) (hB : w.heap.size ≤ B) : Dq w w1 g p := ⟨h.rd.below hb (Nat.lt_of_lt_of_le h.lt hB), grown_then h.grown hb hB, h.lt⟩

/-- A rule whose tests lie in a row of their own. -/
def RuleOwn (w : World) (B : Nat) (r : Rl) (cs : List Value) : Prop := ∃ tv, cs = [.int .i64 r.verdict, .int .i64 r.low, .int .i64 r.high, tv] ∧ w.ownsRow B 127 4 tv r.tests.length (tsR r.tests).flatten
def RulesOwn (w : World) (B : Nat) (rs : List Rl) (css : List (List Value)) : Prop := css.length = rs.length ∧ ∀ (i : Nat) (r : Rl) (cs : List Value), rs[i]? = some r → css[i]? = some cs → RuleOwn w B r cs
theorem RulesOwn.nil (w : World) (B : Nat) : RulesOwn w B [] [] := ⟨rfl, fun i r cs h => by simp at h⟩
theorem RulesOwn.imp {w w' : World} {B B' : Nat} {rs : List Rl} {css : List (List Value)} (h : RulesOwn w B rs css) (hi : ∀ (tv : Value) (n : Nat) (xs : List Value), w.ownsRow B 127 4 tv n xs → w'.ownsRow B' 127 4 tv n xs) : RulesOwn w' B' rs css :=
  ⟨h.1, fun i r cs h1 h2 => let ⟨tv, e, ho⟩ := h.2 i r cs h1 h2; ⟨tv, e, hi tv _ _ ho⟩⟩
theorem RulesOwn.snoc {w : World} {B : Nat} {rs : List Rl} {css : List (List Value)} {r : Rl} {cs : List Value} (h : RulesOwn w B rs css) (hr : RuleOwn w B r cs) : RulesOwn w B (rs ++ [r]) (css ++ [cs]) := by
  refine ⟨by simp [h.1], fun i r' cs' h1 h2 => ?_⟩
  have hl := h.1
  by_cases hi : i < rs.length
  · rw [List.getElem?_append_left hi] at h1
    rw [List.getElem?_append_left (by omega)] at h2
    exact h.2 i r' cs' h1 h2
  · rw [List.getElem?_append_right (by omega)] at h1
    rw [List.getElem?_append_right (by omega), hl] at h2
    have e : i - rs.length = 0 := by have := (List.getElem?_eq_some_iff.1 h1).1; simp at this; omega
    rw [e] at h1 h2
    simp at h1 h2
    subst h1 h2
    exact hr
theorem RulesOwn.are {w : World} {B : Nat} {rs : List Rl} {css : List (List Value)} (h : RulesOwn w B rs css) : RulesAre w rs css :=
  ⟨h.1, fun i r cs h1 h2 => by
    obtain ⟨tv, e, ho⟩ := h.2 i r cs h1 h2
    obtain ⟨A, n, c, rfl, hA⟩ := SlA.of_own ho (by rw [tsR_len]) (tsR_rows _)
    exact ⟨_, e, A, n, c, rfl, hA⟩⟩

/-- How the world stands while a policy is drawn. -/
structure Dp (w wr : World) (g q h7 : Nat) (els : Int) (rv : Value) (rs : List Rl) (css : List (List Value)) : Prop where
  dq : Dq w wr g q
  r0 : Blk wr w.heap.size 82 #[.slice none 0 0, .int .i64 0]
  p0 : Blk wr h7 82 #[rv, .int .i64 els]
  after : w.heap.size < h7
  own : wr.ownsRow (h7 + 1) 125 4 rv css.length css.flatten
  rules : RulesOwn wr (h7 + 1) rs css
theorem Dp.step {w wr w1 : World} {g q q' h7 : Nat} {els : Int} {rv : Value} {rs : List Rl} {css : List (List Value)} (h : Dp w wr g q h7 els rv rs css) (hg : wr.grownBy w1 (some g)) (hr : Rd w1 g q') : Dp w w1 g q' h7 els rv rs css :=
  ⟨h.dq.step hg hr, h.dq.blk h.r0 (Nat.le_refl _) hg, h.dq.blk h.p0 (Nat.le_of_lt h.after) hg, h.after, own_low h.own hg (by have := h.dq.lt; have := h.after; omega), h.rules.imp fun tv n xs ho => own_low ho hg (by have := h.dq.lt; have := h.after; omega)⟩
theorem Dp.app {w wr w2 : World} {g q h7 : Nat} {els : Int} {rv v2 : Value} {rs : List Rl} {css : List (List Value)} {r : Rl} {cs : List Value} (h : Dp w wr g q h7 els rv rs css) (hr : RuleOwn wr (h7 + 1) r cs) (ho : w2.ownsRow (h7 + 1) 125 4 v2 (css.length + 1) (css ++ [cs]).flatten) (hg : wr.grownBy w2 rv.ownBlock) : Dp w (w2.setCell ⟨h7, 0, none⟩ v2) g q h7 els v2 (rs ++ [r]) (css ++ [cs]) := by
  have hlt := h.dq.lt
  have haf := h.after
  have hb : Below (h7 + 1) wr w2 := (Below.refl (h7 + 1) wr).grown hg (by have := h.p0.lt; omega) (fun k hk => (h.own.lt k hk).1)
  have hk : ∀ (tv : Value) (n : Nat) (xs : List Value), wr.ownsRow (h7 + 1) 127 4 tv n xs → (w2.setCell ⟨h7, 0, none⟩ v2).ownsRow (h7 + 1) 127 4 tv n xs := fun tv n xs ht =>
    ownsRow_setCell_below (ht.kept hg (own_apart ht h.own (by decide))) (by simp) _
  refine ⟨⟨h.dq.rd.below ((hb.mono (Nat.le_succ h7)).setCell (p := ⟨h7, 0, none⟩) (Nat.le_refl _) v2) (by omega), grown_new (grown_then h.dq.grown hb (by omega)) (by omega) _, hlt⟩, (h.r0.below hb (by omega)).far (by simp; omega) _, (h.p0.below hb (by omega)).set_ 0 _, haf, ?_, ?_⟩
  · rw [List.length_append]
    exact ownsRow_setCell_below ho (by simp) _
  · exact (h.rules.imp hk).snoc (let ⟨tv, e, ht⟩ := hr; ⟨tv, e, hk _ _ _ ht⟩)
theorem Dp.rows {w wr : World} {g q h7 : Nat} {els : Int} {rv : Value} {rs : List Rl} {css : List (List Value)} (h : Dp w wr g q h7 els rv rs css) : ∀ c ∈ css, c.length = 4 := h.rules.are.rows

/-- A policy whose rows are the call's own. -/
def PolOwn (w : World) (B : Nat) (p : Pol) (v : Value) : Prop := ∃ rv css, v = .agg #[rv, .int .i64 p.els] ∧ w.ownsRow B 125 4 rv css.length css.flatten ∧ RulesOwn w B p.rules css
theorem PolOwn.is {w : World} {B : Nat} {p : Pol} {v : Value} (h : PolOwn w B p v) : PolIs w p v := by
  obtain ⟨rv, css, rfl, ho, hr⟩ := h
  exact ⟨rv, css, rfl, SlA.of_own ho rfl hr.are.rows, hr.are⟩
theorem PolOwn.below {w w' : World} {B : Nat} {p : Pol} {v : Value} (h : PolOwn w B p v) (hb : Below w.heap.size w w') : PolOwn w' B p v := by
  obtain ⟨rv, css, rfl, ho, hr⟩ := h
  exact ⟨rv, css, rfl, own_below ho hb, hr.imp fun tv n xs h => own_below h hb⟩
theorem PolOwn.grown {w w' : World} {B g : Nat} {p : Pol} {v : Value} (h : PolOwn w B p v) (hg : w.grownBy w' (some g)) (hB : g < B) : PolOwn w' B p v := by
  obtain ⟨rv, css, rfl, ho, hr⟩ := h
  exact ⟨rv, css, rfl, own_low ho hg hB, hr.imp fun tv n xs h => own_low h hg hB⟩

/-- A rule as it is drawn. -/
def RuleDr (T : Nat) (r : Rl) : Prop := (1 ≤ r.verdict ∧ r.verdict ≤ 4) ∧ (0 ≤ r.low ∧ r.low ≤ r.high ∧ r.high ≤ 4294967295) ∧ r.tests.length ≤ T ∧ ∀ t ∈ r.tests, testOkB t = true
set_option maxRecDepth 100000 in
set_option maxHeartbeats 16000000 in
theorem l11Policy_ok (g p rules tests : Nat) (w : World) (h : Rd w g p) (hp : p ≤ 700000000) (hr : rules ≤ 8) (ht : tests ≤ 8) :
    Calls Tryz.prog 49 #[.pointer (some ⟨g, 0, none⟩), .int .i64 rules, .int .i64 tests] w fun e w' =>
      ∃ (po : Pol) (v : Value) (q : Nat), e = .returned v ∧ (∃ B, w.heap.size ≤ B ∧ PolOwn w' B po v) ∧ w.grownBy w' (some g) ∧ Rd w' g q ∧ q ≤ p + 1002 ∧ po.rules.length ≤ 8 ∧ (1 ≤ po.els ∧ po.els ≤ 4) ∧ ∀ r ∈ po.rules, RuleDr tests r := by
  have D0 : Dq w (w.alloc (.cells #[.slice none 0 0, .int .i64 0] 82)) g p := (Dq.start h).next (by go_grown)
  have R0 := Blk.new w 82 #[.slice none 0 0, .int .i64 0]
  go_enter Tryz.func49, Tryz.ntmps49
  go_wp2_with fail
  refine (pick_any g p 4 _ D0.rd (by omega)).mono ?_; rintro e w1 ⟨k1, rfl, a1, b1, g1, r1⟩
  have b1' := b1 (by omega)
  have D1 := D0.step g1 r1
  have R1 := D0.blk R0 (Nat.le_refl _) g1
  have hR1 := R1.lt
  have P1 := Blk.new w1 82 #[.slice none 0 0, .int .i64 (1 + k1)]
  have D2 : Dq w (w1.alloc (.cells #[.slice none 0 0, .int .i64 (1 + k1)] 82)) g (p + 1) := D1.next (by go_grown)
  have R2 : Blk (w1.alloc (.cells #[.slice none 0 0, .int .i64 (1 + k1)] 82)) w.heap.size 82 #[.slice none 0 0, .int .i64 0] := R1.alloc _
  clear D0 R0 g1 r1 b1 D1 R1
  go_wp2_with fail
  refine (pick_any g (p + 1) _ _ D2.rd (by omega)).mono ?_; rintro e w2 ⟨k2, rfl, a2, b2, g2, r2⟩
  have b2' := b2 (by omega)
  obtain ⟨z2, rfl⟩ : ∃ z2 : Nat, k2 = z2 := ⟨k2.toNat, by omega⟩
  have DP : Dp w w2 g (p + 2) w1.heap.size (1 + k1) (.slice none 0 0) [] [] := ⟨D2.step g2 r2, D2.blk R2 (Nat.le_refl _) g2, D2.blk P1 (Nat.le_of_lt hR1) g2, hR1, World.ownsRow_nil _ _ _ _, RulesOwn.nil _ _⟩
  have HDP := Lib.hid DP
  clear D2 R2 P1 g2 r2 b2 DP
  go_wp2
  go_loopw [8] (fun i wr => ∃ (z q : Nat) (rv : Value) (rs : List Rl) (css : List (List Value)), z ≤ 8 ∧ i = .int .i64 z ∧ q + 100 * z ≤ p + 802 ∧ css.length + z ≤ 8 ∧ Hid (∀ r ∈ rs, RuleDr tests r) ∧ Dp w wr g q w1.heap.size (1 + k1) rv rs css) (fun i _ => (intOf i).toNat)
  case atStart => exact ⟨z2, p + 2, _, [], [], by omega, rfl, by omega, by simp; omega, Lib.hid (fun r h => by cases h), HDP.out⟩
  case round =>
    obtain ⟨z, q, rv, rs, css, hz, rfl, hq, hcl, HTS, DP⟩ := hrel
    obtain ⟨A, n, c, rfl, hSA⟩ := SlA.of_own DP.own rfl DP.rows
    have hn : css.length = n := hSA.len
    have hcc := hSA.cap
    have hmm := hSA.max
    unfold maxLen at hmm
    subst hn
    clear hSA HDP
    by_cases hz0 : z = 0
    · subst hz0
      have y0 := (show _ = some (Value.slice A css.length c) from DP.p0.cell 0); have y1 := (show _ = some (Value.int .i64 (1 + k1)) from DP.p0.cell 1)
      have t0 := (show _ = some (Value.slice none 0 0) from DP.r0.cell 0); have t1 := (show _ = some (Value.int .i64 0) from DP.r0.cell 1)
      have f0 := DP.r0.frozen 0; have f1 := DP.r0.frozen 1
      have haf := DP.after
      have HD := Lib.hid DP; clear DP
      go_wp2
      refine bodyPost_ret (v := .agg #[.slice A css.length c, .int .i64 (1 + k1)]) (by simp [results, Tryz.results49, go_sem, t0, t1]) rfl ⟨⟨rs, 1 + k1⟩, _, q, rfl, ?_, ((HD.out.dq.set (a := w.heap.size) (i := 0) (Nat.le_refl _) (.slice A css.length c)).set (a := w.heap.size) (i := 1) (Nat.le_refl _) (.int .i64 (1 + k1))).grown, ((HD.out.dq.set (a := w.heap.size) (i := 0) (Nat.le_refl _) (.slice A css.length c)).set (a := w.heap.size) (i := 1) (Nat.le_refl _) (.int .i64 (1 + k1))).rd, by omega, by rw [← HD.out.rules.1]; omega, ⟨by show 1 ≤ 1 + k1; omega, by show 1 + k1 ≤ 4; omega⟩, HTS.out⟩
      have O := ownsRow_setCell_below (a := ⟨w.heap.size, 1, none⟩) (ownsRow_setCell_below (a := ⟨w.heap.size, 0, none⟩) HD.out.own (by simp; omega) (.slice A css.length c)) (by simp; omega) (.int .i64 (1 + k1))
      exact ⟨w1.heap.size + 1, by omega, _, css, rfl, O, HD.out.rules.imp fun tv n' xs ho => ownsRow_setCell_below (a := ⟨w.heap.size, 1, none⟩) (ownsRow_setCell_below (a := ⟨w.heap.size, 0, none⟩) ho (by simp; omega) (.slice A css.length c)) (by simp; omega) (.int .i64 (1 + k1))⟩
    · obtain ⟨z', rfl⟩ : ∃ z', z = z' + 1 := ⟨z - 1, by omega⟩
      have hzi : (0 : Int) < ((z' + 1 : Nat) : Int) := by omega
      go_wp2_with fail
      refine (pick_any g q 10 _ DP.dq.rd (by omega)).mono ?_; rintro e w3 ⟨low, rfl, a3, b3, g3, r3⟩
      have b3' := b3 (by omega)
      have DP3 := DP.step g3 r3
      clear DP g3 r3 b3
      go_wp2_with fail
      refine (pick_any g (q + 1) 4 _ DP3.dq.rd (by omega)).mono ?_; rintro e w4 ⟨k4, rfl, a4, b4, g4, r4⟩
      have b4' := b4 (by omega)
      have DP4 := DP3.step g4 r4
      have hs4 := DP4.dq.size
      have hp4 := DP4.p0.lt
      have X4 := Blk.new w4 125 #[.int .i64 (1 + k4), .int .i64 low, .int .i64 low, .slice none 0 0]
      have D4 : Dq w4 (w4.alloc (.cells #[.int .i64 (1 + k4), .int .i64 low, .int .i64 low, .slice none 0 0] 125)) g (q + 2) := (Dq.start DP4.dq.rd).next (by go_grown)
      have HDP := Lib.hid DP4
      clear DP3 DP4 g4 r4 b4
      go_wp2_with fail
      refine (pick_any g (q + 2) 5 _ D4.rd (by omega)).mono ?_; rintro e w5 ⟨k5, rfl, a5, b5, g5, r5⟩
      have b5' := b5 (by omega)
      have D5 := D4.step g5 r5
      have X5 := D4.blk X4 (Nat.le_refl _) g5
      clear D4 X4 g5 r5 b5
      rcases Decidable.em (k5 = 0) with h50 | h50
      case' inl =>
        subst h50
        go_wp2_with fail
        refine (pick_any g (q + 3) 6 _ D5.rd (by omega)).mono ?_; rintro e w6 ⟨k6, rfl, a6, b6, g6, r6⟩
        have b6' := b6 (by omega)
        have D6 := D5.step g6 r6
        have X6 := D5.blk X5 (Nat.le_refl _) g6
        have f2 := X6.frozen 2
        have s2 := (show _ = some (Value.int .i64 low) from X6.cell 2)
        have D7 := D6.set (a := w4.heap.size) (i := 2) (Nat.le_refl _) (.int .i64 (low + k6))
        have X7 := X6.set_ 2 (.int .i64 (low + k6))
        clear D5 X5 D6 X6 g6 r6 b6
        go_wp2_with fail
        refine (pick_any g (q + 4) _ _ D7.rd (by omega)).mono ?_; rintro e w8 ⟨k8, rfl, a8, b8, g8, r8⟩
        have b8' := b8 (by omega)
        obtain ⟨LO, HI, hLH, X8⟩ : ∃ LO HI : Int, (0 ≤ LO ∧ LO ≤ HI ∧ HI ≤ 4294967295) ∧ Blk w8 w4.heap.size 125 #[.int .i64 (1 + k4), .int .i64 LO, .int .i64 HI, .slice none 0 0] := ⟨_, _, ⟨a3, by omega, by omega⟩, D7.blk X7 (Nat.le_refl _) g8⟩
        obtain ⟨q8, hq8, D8⟩ : ∃ q8, q8 ≤ q + 5 ∧ Dq w4 w8 g q8 := ⟨_, Nat.le_refl _, D7.step g8 r8⟩
        clear D7 X7 g8 r8 b8 f2 s2
      case' inr =>
        have hd50 : (k5 == 0) = false := by simp; omega
        rcases Decidable.em (k5 = 1) with h51 | h51
        case' inl =>
          subst h51
          have f1 := X5.frozen 1
          have s1 := (show _ = some (Value.int .i64 low) from X5.cell 1)
          have D6 := D5.set (a := w4.heap.size) (i := 1) (Nat.le_refl _) (.int .i64 0)
          have X6 := X5.set_ 1 (.int .i64 0)
          have B7 : Blk ((w5.setCell ⟨w4.heap.size, 1, none⟩ (.int .i64 0)).alloc (.cells #[.int .i64 4294967295, .int .i64 4294967294] 3)) w5.heap.size 3 #[.int .i64 4294967295, .int .i64 4294967294] := by
            have := Blk.new (w5.setCell ⟨w4.heap.size, 1, none⟩ (.int .i64 0)) 3 #[.int .i64 4294967295, .int .i64 4294967294]
            simpa using this
          have D7 := D6.next (show Below (w5.setCell ⟨w4.heap.size, 1, none⟩ (.int .i64 0)).heap.size _ ((w5.setCell ⟨w4.heap.size, 1, none⟩ (.int .i64 0)).alloc (.cells #[.int .i64 4294967295, .int .i64 4294967294] 3)) by go_grown)
          have X7 := X6.alloc (.cells #[.int .i64 4294967295, .int .i64 4294967294] 3)
          have hs5 := D5.size
          go_wp2_with fail
          refine (pick_any g (q + 3) 2 _ D7.rd (by omega)).mono ?_; rintro e w6 ⟨k6, rfl, a6, b6, g6, r6⟩
          have b6' := b6 (by omega)
          obtain ⟨j, rfl⟩ : ∃ j : Nat, k6 = j := ⟨k6.toNat, by omega⟩
          have D8 := D7.step g6 r6
          have X8 := D7.blk X7 (Nat.le_refl _) g6
          have B8 := D7.blk B7 hs5 g6
          obtain ⟨m, hm, hmr⟩ : ∃ m : Int, w6.cell? ⟨w5.heap.size, j, none⟩ = some (.int .i64 m) ∧ 0 ≤ m ∧ m ≤ 4294967295 := by
            rw [B8.cell j]
            obtain rfl | rfl : j = 0 ∨ j = 1 := by omega
            all_goals exact ⟨_, rfl, by omega, by omega⟩
          have hj2 : (j : Int) < 2 := by omega
          have f2 := X8.frozen 2
          have s2 := (show _ = some (Value.int .i64 low) from X8.cell 2)
          have D9 := D8.set (a := w4.heap.size) (i := 2) (Nat.le_refl _) (.int .i64 m)
          have X9 := X8.set_ 2 (.int .i64 m)
          clear D5 X5 D6 X6 B7 D7 X7 g6 r6 b6 D8 X8 B8
          go_wp2_with fail
          refine (pick_any g (q + 4) _ _ D9.rd (by omega)).mono ?_; rintro e w8 ⟨k8, rfl, a8, b8, g8, r8⟩
          have b8' := b8 (by omega)
          obtain ⟨LO, HI, hLH, X8⟩ : ∃ LO HI : Int, (0 ≤ LO ∧ LO ≤ HI ∧ HI ≤ 4294967295) ∧ Blk w8 w4.heap.size 125 #[.int .i64 (1 + k4), .int .i64 LO, .int .i64 HI, .slice none 0 0] := ⟨_, _, ⟨by omega, by omega, by omega⟩, D9.blk X9 (Nat.le_refl _) g8⟩
          obtain ⟨q8, hq8, D8⟩ : ∃ q8, q8 ≤ q + 5 ∧ Dq w4 w8 g q8 := ⟨_, Nat.le_refl _, D9.step g8 r8⟩
          clear D9 X9 g8 r8 b8 f1 s1 f2 s2 hm
        case' inr =>
          have hd51 : (k5 == 1) = false := by simp; omega
          go_wp2_with fail
          refine (pick_any g (q + 3) _ _ D5.rd (by omega)).mono ?_; rintro e w8 ⟨k8, rfl, a8, b8, g8, r8⟩
          have b8' := b8 (by omega)
          obtain ⟨LO, HI, hLH, X8⟩ : ∃ LO HI : Int, (0 ≤ LO ∧ LO ≤ HI ∧ HI ≤ 4294967295) ∧ Blk w8 w4.heap.size 125 #[.int .i64 (1 + k4), .int .i64 LO, .int .i64 HI, .slice none 0 0] := ⟨_, _, ⟨a3, Int.le_refl _, by omega⟩, D5.blk X5 (Nat.le_refl _) g8⟩
          obtain ⟨q8, hq8, D8⟩ : ∃ q8, q8 ≤ q + 5 ∧ Dq w4 w8 g q8 := ⟨q + 4, by omega, D5.step g8 r8⟩
          clear D5 X5 g8 r8 b8
      all_goals
        obtain ⟨y8, rfl⟩ : ∃ y : Nat, k8 = y := ⟨k8.toNat, by omega⟩
        have HX8 := Lib.hid X8; have HD8 := Lib.hid D8; clear X8 D8
        go_wp2
        go_loopw [11] (fun i wr => ∃ (y q' : Nat) (tv : Value) (ts : List Ts), y ≤ 8 ∧ i = .int .i64 y ∧ q' + 11 * y ≤ q8 + 88 ∧ ts.length + y ≤ tests ∧ Hid (∀ t ∈ ts, testOkB t = true) ∧ Dq w4 wr g q' ∧ Blk wr w4.heap.size 125 #[.int .i64 (1 + k4), .int .i64 LO, .int .i64 HI, tv] ∧ wr.ownsRow (w4.heap.size + 1) 127 4 tv ts.length (tsR ts).flatten) (fun i _ => (intOf i).toNat)
        case atStart => exact ⟨y8, q8, _, [], by omega, rfl, by omega, by simp; omega, Lib.hid (fun t h => by cases h), HD8.out, HX8.out, World.ownsRow_nil _ _ _ _⟩
        case round =>
          obtain ⟨y, q', tv, ts, hy, rfl, hq', htl, HTO, D, X, O⟩ := hrel
          obtain ⟨A5, n5, c5, rfl, hS5⟩ := SlA.of_own O (by rw [tsR_len]) (tsR_rows ts)
          have hn5 : ts.length = n5 := by have := hS5.len; rwa [tsR_len] at this
          have hc5 := hS5.cap
          have hm5 := hS5.max
          unfold maxLen at hm5
          subst hn5
          clear HX8 HD8 hS5
          by_cases hy0 : y = 0
          · subst hy0
            have DPx := HDP.out.step D.grown D.rd
            have e0 := (show _ = some (Value.int .i64 (1 + k4)) from X.cell 0); have e1 := (show _ = some (Value.int .i64 LO) from X.cell 1); have e2 := (show _ = some (Value.int .i64 HI) from X.cell 2); have e3 := (show _ = some (Value.slice A5 ts.length c5) from X.cell 3)
            have y0 := (show _ = some (Value.slice A css.length c) from DPx.p0.cell 0)
            have OT := own_base O (base' := w1.heap.size + 1) (by omega)
            have hN := own_blk_ne DPx.own DPx.p0 (by decide)
            have hsx := DPx.p0.lt
            have HDX := Lib.hid DPx; have HOT := Lib.hid OT; have HN := Lib.hid hN; clear DPx OT D X O hN
            go_wp2_with (at_builtin; go_must (refine wpList_app1g rfl (.tmp 66) (.tmp 68) _ rfl (w1.heap.size + 1) 125 Tryz.underlying80 info_RuleM rfl (by omega) (by omega) (.slice A css.length c) css.length css rfl HDX.out.own rfl (by simp [Value.oneCell']) rfl (by omega) (by omega) ?_); intro v9 w9 hown9 hg9 _; obtain ⟨g9, cap9, rfl, hg9', hg9''⟩ := hown9.form (by omega); have P9 := HDX.out.p0.grown hg9 (fun e => HN.out e.symm); have p90 := (show _ = some (Value.slice A css.length c) from P9.cell 0); have pf0 := P9.frozen 0)
            exact ⟨⟨z', q', _, rs ++ [⟨1 + k4, LO, HI, ts⟩], css ++ [[.int .i64 (1 + k4), .int .i64 LO, .int .i64 HI, .slice A5 ts.length c5]], by omega, by go_num, by omega, by simp; omega, Lib.hid (fun r hr => by rcases List.mem_append.1 hr with h | h; exact HTS.out r h; rw [List.mem_singleton] at h; subst h; exact ⟨⟨by show 1 ≤ 1 + k4; omega, by show 1 + k4 ≤ 4; omega⟩, hLH, by show ts.length ≤ tests; omega, HTO.out⟩), HDX.out.app ⟨_, rfl, HOT.out⟩ hown9 hg9⟩, by simp [intOf]⟩
          · obtain ⟨y', rfl⟩ : ∃ y', y = y' + 1 := ⟨y - 1, by omega⟩
            have hyi : (0 : Int) < ((y' + 1 : Nat) : Int) := by omega
            have e3 := (show _ = some (Value.slice A5 ts.length c5) from X.cell 3)
            have hlt4 := X.lt
            have HD := Lib.hid (D.next (show Below wr.heap.size wr wr.drew by go_grown)); have HX := Lib.hid X; have HO := Lib.hid O
            have HB := Lib.hid (show (ts.length + 1) * 32 ≤ 140737488355328 by omega); have HQ := Lib.hid (show q' ≤ 800000000 by omega)
            clear D X O
            go_wp2
            go_region_law (first
              | (refine step_app0g (w0 := w12) rfl (.tmp 59) (.tmp 62) _ rfl (w4.heap.size + 1) 127 Tryz.underlying123 info_TestM rfl (by omega) (by omega) (.slice A5 ts.length c5) ts.length (tsR ts) rfl O12 rfl (by simp [Value.oneCell']) rfl (by exact HB.out) (by have := X12.lt; omega) ?_; intro v13 w13 hown13 hg13 _; obtain ⟨g13, cap13, rfl, hg13', hg13''⟩ := hown13.form (by omega); have X13 := X12.grown hg13 (fun e => own_blk_ne O12 X12 (by decide) e.symm); have x30 := (show _ = some (Value.slice A5 ts.length c5) from X13.cell 3); have xf3 := X13.frozen 3)
              | (go_simp; go_at_call 72; refine (l11Test_ok g q' _ HD.out.rd HQ.out).mono ?_; rintro e w12 ⟨t, q12, rfl, g12, r12, hq12, htok⟩; have D12 := HD.out.step g12 r12; have X12 := HD.out.blk HX.out (Nat.le_refl _) g12; have O12 := own_low (by exact HO.out) g12 (by have := HD.out.lt; omega); have z3 := (show _ = some (Value.slice A5 ts.length c5) from X12.cell 3); have l5 : w4.heap.size < w12.heap.size := X12.lt; have l6 : ¬ w4.heap.size = w12.heap.size := by omega))
            all_goals go_wp2
            all_goals
              have hb13 : Below (w4.heap.size + 1) w12 w13 := (Below.refl _ w12).grown hg13 (by omega) (fun k hk => (O12.lt k hk).1)
              refine ⟨⟨y', q12, _, ts ++ [t], by omega, by go_num, by omega, by simp; omega, Lib.hid (fun u hu => by rcases List.mem_append.1 hu with h | h; exact HTO.out u h; rw [List.mem_singleton] at h; subst h; exact htok), (D12.app hb13 (Nat.le_succ _)).set (Nat.le_refl _) _, X13.set_ 3 _, ?_⟩, by simp [intOf]⟩
              have := ownsRow_setCell_below (a := ⟨w4.heap.size, 3, none⟩) hown13 (by simp) (.slice (some ⟨g13, 0, none⟩) (ts.length + 1) cap13)
              rw [List.length_append]
              simpa [tsR, Ts.cells] using this
theorem l11Policy_small (g p rules tests : Nat) (w : World) (h : Rd w g p) (hp : p ≤ 700000000) (hr : rules ≤ 8) (ht : tests ≤ 8) :
    Calls Tryz.prog 49 #[.pointer (some ⟨g, 0, none⟩), .int .i64 rules, .int .i64 tests] w fun e w' =>
      ∃ (po : Pol) (v : Value) (q : Nat), e = .returned v ∧ (∃ B, w.heap.size ≤ B ∧ PolOwn w' B po v) ∧ w.grownBy w' (some g) ∧ Rd w' g q ∧ q ≤ p + 1002 ∧ po.rules.length ≤ 8 ∧ ∀ r ∈ po.rules, r.tests.length ≤ 8 :=
  (l11Policy_ok g p rules tests w h hp hr ht).mono fun e w' ⟨po, v, q, h1, h2, h3, h4, h5, h6, _, h7⟩ => ⟨po, v, q, h1, h2, h3, h4, h5, h6, fun r hr => Nat.le_trans (h7 r hr).2.2.1 ht⟩
theorem l11Policy_any (g p rules tests : Nat) (w : World) (h : Rd w g p) (hp : p ≤ 700000000) (hr : rules ≤ 8) (ht : tests ≤ 8) :
    Calls Tryz.prog 49 #[.pointer (some ⟨g, 0, none⟩), .int .i64 rules, .int .i64 tests] w fun e w' =>
      ∃ (po : Pol) (v : Value) (q : Nat), e = .returned v ∧ PolIs w' po v ∧ w.grownBy w' (some g) ∧ Rd w' g q ∧ q ≤ p + 1002 :=
  (l11Policy_small g p rules tests w h hp hr ht).mono fun e w' ⟨po, v, q, h1, ⟨B, _, h2⟩, h3, h4, h5, _⟩ => ⟨po, v, q, h1, h2.is, h3, h4, h5⟩
end Go.Proofs.YtcomdkmglihdbaaGreatDoor
