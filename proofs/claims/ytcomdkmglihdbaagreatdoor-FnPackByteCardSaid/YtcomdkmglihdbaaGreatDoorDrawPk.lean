/- How the laws draw packs. -/
import Derived.Test.YtcomdkmglihdbaaGreatDoorSpk
import Derived.Test.YtcomdkmglihdbaaGreatDoorDrawPol2
import Derived.Test.YtcomdkmglihdbaaGreatDoorRdBend
import Derived.Test.YtcomdkmglihdbaaGreatDoorRdOpen
import Derived.Test.YtcomdkmglihdbaaGreatDoorPackPA
namespace Go.Proofs.YtcomdkmglihdbaaGreatDoor
open Go.RowKit
set_option linter.unusedSimpArgs false
set_option linter.unusedVariables false

theorem strs_blkP {w : World} {ss : Array Value} {ls : List (List UInt8)} {n : Nat} (h : ss.toList = ls.map fun l => Value.string ⟨l.toArray⟩) (hn : ls.length = n) (hm : n ≤ 1000) :
    SlA (w.alloc (.cells ss 9)) 1 (some ⟨w.heap.size, 0, none⟩) n n (strs ls) := by
  refine SlA.of_block (Blk.new w 9 ss) (by simpa [strs] using hn) (Nat.le_refl _) (by unfold maxLen; omega) (fun k r hr j v hv => ?_)
  have e : ss = (ls.map fun l => Value.string ⟨l.toArray⟩).toArray := by rw [← h]
  simp only [strs, List.getElem?_map, Option.map_eq_some_iff] at hr
  obtain ⟨l, hl, rfl⟩ := hr
  cases j with
  | zero =>
    simp at hv
    subst hv
    rw [e]
    simp [hl]
  | succ j => simp at hv
theorem polText_le {p : Pol} (h : polShapeB p = true) : (polText p).length ≤ 1400 := by
  obtain ⟨h1, h2, h3⟩ := polShapeB_words h
  have a := rulesText_len p.rules h3
  have b := verdNm_len p.els
  simp [polText]
  omega
theorem shape_of_dr {p : Pol} (h1 : p.rules.length ≤ 8) (h2 : 1 ≤ p.els ∧ p.els ≤ 4) (h3 : ∀ r ∈ p.rules, RuleDr 2 r) : polShapeB p = true := by
  unfold polShapeB
  simp only [Bool.and_eq_true, decide_eq_true_eq, inB_iff, List.all_eq_true]
  refine ⟨⟨h1, h2⟩, fun r hr => ?_⟩
  obtain ⟨a, b, c, d⟩ := h3 r hr
  unfold ruleOkB
  simp only [Bool.and_eq_true, decide_eq_true_eq, inB_iff, List.all_eq_true]
  exact ⟨⟨⟨⟨a, by omega, by omega⟩, by omega, by omega⟩, by omega⟩, d⟩
theorem l11Rules_any (g p : Nat) (w : World) (h : Rd w g p) (hp : p ≤ 700000000) :
    Calls Tryz.prog 33 #[.pointer (some ⟨g, 0, none⟩)] w fun e w' =>
      ∃ (t : List UInt8) (q : Nat), e = .returned (.string ⟨t.toArray⟩) ∧ t.length ≤ 1400 ∧ w.grownBy w' (some g) ∧ Rd w' g q ∧ q ≤ p + 1002 := by
  go_enter Tryz.func33, Tryz.ntmps33
  go_wp2_with fail
  refine (l11Policy_ok g p 2 2 w h hp (by omega) (by omega)).mono ?_; rintro e w1 ⟨po, v, q, rfl, ⟨B, hB, ho⟩, g1, r1, hq, h8, he, hr⟩
  have HS := Lib.hid (shape_of_dr h8 he hr)
  have HP := Lib.hid ho.is
  have HG := Lib.hid g1; have HR := Lib.hid r1
  clear ho hr g1 r1
  go_wp2_with fail
  refine (l2Write_any po v w1 HP.out HS.out).mono ?_; rintro e w2 ⟨rfl, hb2⟩
  have HG2 := Lib.hid (HG.out.trans (grown_of_below hb2 _)); have HR2 := Lib.hid (HR.out.next hb2)
  have HL := Lib.hid (polText_le HS.out)
  clear hb2
  go_wp2
  go_ret
  exact ⟨_, q, rfl, HL.out, HG2.out, HR2.out, hq⟩
/-- A pack as it is drawn. -/
def PkDr (g p : Nat) (w : World) (e : Ending) (w' : World) : Prop := ∃ (k : Pk) (q : Nat), e = .returned (.agg #[.int .i64 k.e, .string ⟨k.r.toArray⟩, .string ⟨k.c.toArray⟩]) ∧ (0 ≤ k.e ∧ k.e ≤ 100) ∧ k.r.length ≤ 1400 ∧ k.c.length ≤ 2600 ∧ w.grownBy w' (some g) ∧ Rd w' g q ∧ q ≤ p + 3000
set_option maxRecDepth 100000 in
set_option maxHeartbeats 4000000 in
theorem l11Pack_any (g p : Nat) (w : World) (h : Rd w g p) (hp : p ≤ 600000000) :
    Calls Tryz.prog 32 #[.pointer (some ⟨g, 0, none⟩)] w fun e w' => ∃ (k : Pk) (q : Nat), e = .returned (.agg #[.int .i64 k.e, .string ⟨k.r.toArray⟩, .string ⟨k.c.toArray⟩]) ∧ (0 ≤ k.e ∧ k.e ≤ 100) ∧ k.r.length ≤ 1400 ∧ k.c.length ≤ 2600 ∧ w.grownBy w' (some g) ∧ Rd w' g q ∧ q ≤ p + 1003 := by
  obtain ⟨W1, hW1⟩ : ∃ W, W = w.alloc (.cells #[.int .i64 0, .string ⟨#[]⟩, .string ⟨#[]⟩] TPackS) := ⟨_, rfl⟩
  have D1 : Hid (Dq w W1 g p) := by rw [hW1]; exact Lib.hid ((Dq.start h).next (by go_grown))
  have B1 : Hid (Blk W1 w.heap.size TPackS #[.int .i64 0, .string ⟨#[]⟩, .string ⟨#[]⟩]) := by rw [hW1]; exact Lib.hid (Blk.new _ _ _)
  have HW1 := Lib.hid hW1
  clear hW1
  go_enter Tryz.func32, Tryz.ntmps32
  go_upto_region 1 with (fail)
  rw [← HW1.out]
  go_wp2_with fail
  refine (pick_any g p 4 _ D1.out.rd (by omega)).mono ?_; rintro e w2 ⟨k1, rfl, a1, a2, g2, r2⟩
  have a2' := a2 (by omega)
  have D2 := Lib.hid (D1.out.step g2 r2)
  have B2 := Lib.hid (D1.out.blk B1.out (Nat.le_refl _) g2)
  clear g2 r2 a2
  go_wp2_with fail
  refine (l11Rules_any g (p + 1) w2 D2.out.rd (by omega)).mono ?_; rintro e w3 ⟨t, q, rfl, ht, g3, r3, hq⟩
  have D3 := Lib.hid (D2.out.step g3 r3)
  have B3 := Lib.hid (D2.out.blk B2.out (Nat.le_refl _) g3)
  clear g3 r3
  go_wp2_with fail
  refine (sPackMake_any (1 + k1) t w3 (by omega)).mono ?_; rintro e w4 ⟨en, r, c, ok, rfl, hen, hr, hc, hb4⟩
  have hrl : r.length ≤ 1400 := by rcases hr with rfl | rfl <;> first | omega | simp
  have hel : 0 ≤ en ∧ en ≤ 100 := by omega
  have D4 := Lib.hid (D3.out.next hb4)
  have B4 := Lib.hid (B3.out.below hb4 B3.out.lt)
  obtain ⟨W5, hW5⟩ : ∃ W, W = w4.alloc (.cells #[.int .i64 en, .string ⟨r.toArray⟩, .string ⟨c.toArray⟩] TPackS) := ⟨_, rfl⟩
  have b5 : Below w4.heap.size w4 W5 := by rw [hW5]; go_grown
  have B5 : Hid (Blk W5 w4.heap.size TPackS #[.int .i64 en, .string ⟨r.toArray⟩, .string ⟨c.toArray⟩]) := by rw [hW5]; exact Lib.hid (Blk.new _ _ _)
  have D5 := Lib.hid (D4.out.next b5)
  have BR := Lib.hid (B4.out.below b5 B4.out.lt)
  have HW5 := Lib.hid hW5
  clear hW5 b5 hb4 hr hen
  go_upto_region 2 with (fail)
  rw [← HW5.out]
  have y0 := (show _ = some (Value.int .i64 en) from B5.out.cell 0); have y1 := (show _ = some (Value.string ⟨r.toArray⟩) from B5.out.cell 1); have y2 := (show _ = some (Value.string ⟨c.toArray⟩) from B5.out.cell 2)
  have r0 := (show _ = some (Value.int .i64 0) from BR.out.cell 0); have r1 := (show _ = some (Value.string ⟨#[]⟩) from BR.out.cell 1); have r2 := (show _ = some (Value.string ⟨#[]⟩) from BR.out.cell 2)
  have rf0 := BR.out.frozen 0; have rf1 := BR.out.frozen 1; have rf2 := BR.out.frozen 2
  have HF := Lib.hid (((D5.out.set (a := w.heap.size) (i := 0) (Nat.le_refl _) (.int .i64 en)).set (a := w.heap.size) (i := 1) (Nat.le_refl _) (.string ⟨r.toArray⟩)).set (a := w.heap.size) (i := 2) (Nat.le_refl _) (.string ⟨c.toArray⟩))
  go_wp2
  exact bodyPost_ret (v := .agg #[.int .i64 en, .string ⟨r.toArray⟩, .string ⟨c.toArray⟩]) (by simp [results, Tryz.results32, go_sem, r0, r1, r2]) rfl ⟨⟨en, r, c⟩, q, rfl, hel, hrl, hc, HF.out.grown, HF.out.rd, by omega⟩
/-- How the memory stands while any pack is drawn. -/
structure Dk (w wr : World) (g q b : Nat) (k : Pk) : Prop where
  dq : Dq w wr g q
  res : Blk wr w.heap.size TPackS #[.int .i64 0, .string ⟨#[]⟩, .string ⟨#[]⟩]
  pk : Blk wr b TPackS #[.int .i64 k.e, .string ⟨k.r.toArray⟩, .string ⟨k.c.toArray⟩]
  after : w.heap.size < b
theorem Dk.step {w wr w1 : World} {g q q' b : Nat} {k : Pk} (h : Dk w wr g q b k) (hg : wr.grownBy w1 (some g)) (hr : Rd w1 g q') : Dk w w1 g q' b k :=
  ⟨h.dq.step hg hr, h.dq.blk h.res (Nat.le_refl _) hg, h.dq.blk h.pk (Nat.le_of_lt h.after) hg, h.after⟩
theorem Dk.next {w wr w1 : World} {g q b : Nat} {k : Pk} (h : Dk w wr g q b k) (hb : Below wr.heap.size wr w1) : Dk w w1 g q b k :=
  ⟨h.dq.next hb, h.res.below hb h.res.lt, h.pk.below hb h.pk.lt, h.after⟩
theorem Dk.set {w wr : World} {g q b : Nat} {k k' : Pk} (h : Dk w wr g q b k) (i : Nat) (x : Value) (e : (#[Value.int .i64 k.e, .string ⟨k.r.toArray⟩, .string ⟨k.c.toArray⟩]).setIfInBounds i x = #[.int .i64 k'.e, .string ⟨k'.r.toArray⟩, .string ⟨k'.c.toArray⟩]) : Dk w (wr.setCell ⟨b, i, none⟩ x) g q b k' :=
  ⟨h.dq.set (Nat.le_of_lt h.after) _, h.res.far (show w.heap.size ≠ b by have := h.after; omega) _, by rw [← e]; exact h.pk.set_ i _, h.after⟩
theorem Dk.out {w wr : World} {g q b p : Nat} {k : Pk} (h : Dk w wr g q b k) (he : 0 ≤ k.e ∧ k.e ≤ 100) (hr : k.r.length ≤ 1400) (hc : k.c.length ≤ 2600) (hq : q ≤ p + 3000) : PkDr g p w (.returned (.agg #[.int .i64 k.e, .string ⟨k.r.toArray⟩, .string ⟨k.c.toArray⟩])) (((wr.setCell ⟨w.heap.size, 0, none⟩ (.int .i64 k.e)).setCell ⟨w.heap.size, 1, none⟩ (.string ⟨k.r.toArray⟩)).setCell ⟨w.heap.size, 2, none⟩ (.string ⟨k.c.toArray⟩)) :=
  have d := ((h.dq.set (a := w.heap.size) (i := 0) (Nat.le_refl _) (.int .i64 k.e)).set (a := w.heap.size) (i := 1) (Nat.le_refl _) (.string ⟨k.r.toArray⟩)).set (a := w.heap.size) (i := 2) (Nat.le_refl _) (.string ⟨k.c.toArray⟩)
  ⟨k, q, rfl, he, hr, hc, d.grown, d.rd, hq⟩
set_option maxRecDepth 100000 in
set_option maxHeartbeats 4000000 in
theorem l11AnyPack_any (g p : Nat) (w : World) (h : Rd w g p) (hp : p ≤ 500000000) :
    Calls Tryz.prog 14 #[.pointer (some ⟨g, 0, none⟩)] w (PkDr g p w) := by
  obtain ⟨W1, hW1⟩ : ∃ W, W = w.alloc (.cells #[.int .i64 0, .string ⟨#[]⟩, .string ⟨#[]⟩] TPackS) := ⟨_, rfl⟩
  have D1 : Hid (Dq w W1 g p) := by rw [hW1]; exact Lib.hid ((Dq.start h).next (by go_grown))
  have B1 : Hid (Blk W1 w.heap.size TPackS #[.int .i64 0, .string ⟨#[]⟩, .string ⟨#[]⟩]) := by rw [hW1]; exact Lib.hid (Blk.new _ _ _)
  have HW1 := Lib.hid hW1
  clear hW1
  go_enter Tryz.func14, Tryz.ntmps14
  go_upto_region 1 with (fail)
  rw [← HW1.out]
  go_wp2_with fail
  refine (l11Pack_any g p _ D1.out.rd (by omega)).mono ?_; rintro e w2 ⟨k, q, rfl, hke, hkr, hkc, g2, r2, hq⟩
  obtain ⟨pe, pr, pc⟩ := k
  simp only at hke hkr hkc ⊢
  obtain ⟨W3, hW3⟩ : ∃ W, W = w2.alloc (.cells #[.int .i64 pe, .string ⟨pr.toArray⟩, .string ⟨pc.toArray⟩] TPackS) := ⟨_, rfl⟩
  have K3 : Hid (Dk w W3 g q w2.heap.size ⟨pe, pr, pc⟩) := by
    have d2 := D1.out.step g2 r2
    have b2 := D1.out.blk B1.out (Nat.le_refl _) g2
    rw [hW3]
    exact Lib.hid ⟨d2.next (by go_grown), b2.alloc _, Blk.new _ _ _, b2.lt⟩
  have HW3 := Lib.hid hW3
  obtain ⟨b, hb⟩ : ∃ b, b = w2.heap.size := ⟨_, rfl⟩
  have HB := Lib.hid hb
  rw [← hb] at K3
  clear hW3 g2 r2 D1 B1 hb
  go_upto_region 2 with (fail)
  rw [← HW3.out, ← HB.out]
  go_wp2_with fail
  refine (pick_any g q 8 _ K3.out.dq.rd (by omega)).mono ?_; rintro e w4 ⟨k1, rfl, a1, a2, g4, r4⟩
  have K4 := Lib.hid (K3.out.step g4 r4)
  clear g4 r4 a2 K3
  by_cases h0 : k1 = 0
  · subst h0
    have B5 : Hid (Blk (w4.alloc (.cells #[.int .i64 0, .int .i64 100, .int .i64 7] 3)) w4.heap.size 3 #[.int .i64 0, .int .i64 100, .int .i64 7]) := Lib.hid (Blk.new _ _ _)
    have K5 : Hid (Dk w (w4.alloc (.cells #[.int .i64 0, .int .i64 100, .int .i64 7] 3)) g (q + 1) b ⟨pe, pr, pc⟩) := Lib.hid (K4.out.next (by go_grown))
    have hz := K4.out.dq.size
    go_wp2_with fail
    refine (pick_any g (q + 1) 3 _ K5.out.dq.rd (by omega)).mono ?_; rintro e w6 ⟨k2, rfl, c1, c2, g6, r6⟩
    have c2' := c2 (by omega)
    have B6 := Lib.hid (K5.out.dq.blk B5.out hz g6)
    have K6 := Lib.hid (K5.out.step g6 r6)
    obtain ⟨j, rfl⟩ : ∃ j : Nat, k2 = j := ⟨k2.toNat, by omega⟩
    obtain ⟨m, hm, hmr⟩ : ∃ m : Int, w6.cell? ⟨w4.heap.size, j, none⟩ = some (.int .i64 m) ∧ (0 ≤ m ∧ m ≤ 100) := by
      rw [B6.out.cell j]
      obtain rfl | rfl | rfl : j = 0 ∨ j = 1 ∨ j = 2 := by omega
      all_goals exact ⟨_, rfl, by omega, by omega⟩
    have hj3 : (j : Int) < 3 := by omega
    have x0 := (show _ = some (Value.int .i64 pe) from K6.out.pk.cell 0); have xf0 := K6.out.pk.frozen 0
    have K7 := Lib.hid (K6.out.set (k' := ⟨m, pr, pc⟩) 0 (.int .i64 m) rfl)
    obtain ⟨W7, hW7⟩ : ∃ W, W = w6.setCell ⟨b, 0, none⟩ (.int .i64 m) := ⟨_, rfl⟩
    rw [← hW7] at K7
    have HW7 := Lib.hid hW7
    clear hW7 g6 r6 c2 B5 K5 B6 K4 K6
    go_upto_region 11 with (fail)
    rw [← HW7.out]
    clear x0 xf0 hm
    have r0 := (show _ = some (Value.int .i64 0) from K7.out.res.cell 0); have r1 := (show _ = some (Value.string ⟨#[]⟩) from K7.out.res.cell 1); have r2 := (show _ = some (Value.string ⟨#[]⟩) from K7.out.res.cell 2)
    have rf0 := K7.out.res.frozen 0; have rf1 := K7.out.res.frozen 1; have rf2 := K7.out.res.frozen 2
    have y0 := (show _ = some (Value.int .i64 m) from K7.out.pk.cell 0); have y1 := (show _ = some (Value.string ⟨pr.toArray⟩) from K7.out.pk.cell 1); have y2 := (show _ = some (Value.string ⟨pc.toArray⟩) from K7.out.pk.cell 2)
    have HFIN := Lib.hid (K7.out.out (p := p) (by first | exact hke | (simp only; omega)) (by first | exact hkr | (simp only; omega)) (by first | exact hkc | (simp only; omega)) (by omega))
    go_wp2
    exact bodyPost_ret (v := .agg #[.int .i64 m, .string ⟨pr.toArray⟩, .string ⟨pc.toArray⟩]) (by simp [results, Tryz.results14, go_sem, r0, r1, r2]) rfl HFIN.out
  · have h0b : (k1 == 0) = false := by simpa using h0
    by_cases h1 : k1 = 1
    · subst h1
      go_wp2_with fail
      refine (l11Rules_any g (q + 1) w4 K4.out.dq.rd (by omega)).mono ?_; rintro e w6 ⟨t, q6, rfl, ht, g6, r6, hq6⟩
      have K6 := Lib.hid (K4.out.step g6 r6)
      have x0 := (show _ = some (Value.string ⟨pr.toArray⟩) from K6.out.pk.cell 1); have xf0 := K6.out.pk.frozen 1
      have K7 := Lib.hid (K6.out.set (k' := ⟨pe, t, pc⟩) 1 (.string ⟨t.toArray⟩) rfl)
      obtain ⟨W7, hW7⟩ : ∃ W, W = w6.setCell ⟨b, 1, none⟩ (.string ⟨t.toArray⟩) := ⟨_, rfl⟩
      rw [← hW7] at K7
      have HW7 := Lib.hid hW7
      clear hW7 g6 r6 K4 K6
      go_upto_region 11 with (fail)
      rw [← HW7.out]
      clear x0 xf0
      have r0 := (show _ = some (Value.int .i64 0) from K7.out.res.cell 0); have r1 := (show _ = some (Value.string ⟨#[]⟩) from K7.out.res.cell 1); have r2 := (show _ = some (Value.string ⟨#[]⟩) from K7.out.res.cell 2)
      have rf0 := K7.out.res.frozen 0; have rf1 := K7.out.res.frozen 1; have rf2 := K7.out.res.frozen 2
      have y0 := (show _ = some (Value.int .i64 pe) from K7.out.pk.cell 0); have y1 := (show _ = some (Value.string ⟨t.toArray⟩) from K7.out.pk.cell 1); have y2 := (show _ = some (Value.string ⟨pc.toArray⟩) from K7.out.pk.cell 2)
      have HFIN := Lib.hid (K7.out.out (p := p) (by first | exact hke | (simp only; omega)) (by first | exact hkr | (simp only; omega)) (by first | exact hkc | (simp only; omega)) (by omega))
      go_wp2
      exact bodyPost_ret (v := .agg #[.int .i64 pe, .string ⟨t.toArray⟩, .string ⟨pc.toArray⟩]) (by simp [results, Tryz.results14, go_sem, r0, r1, r2]) rfl HFIN.out
    · have h1b : (k1 == 1) = false := by simpa using h1
      by_cases h2 : k1 = 2
      · subst h2
        go_wp2_with fail
        refine (of_any g (q + 1) (some ⟨w4.heap.size, 0, none⟩) 4 4 [[], [101, 110, 100, 32, 49, 10], [101, 110, 100, 32, 49], [120, 10]] _ (K4.out.dq.rd.next (by go_grown)) (by omega) (strs_blkP rfl rfl (by omega)) (by omega) (fun b off e => by cases e; have := K4.out.dq.rd.lt; omega)).mono ?_; rintro e w6 ⟨t, ht, rfl, g6, r6⟩
        have htl : t.length ≤ 6 := by simp at ht; rcases ht with rfl | rfl | rfl | rfl <;> simp
        have K6 := Lib.hid ((K4.out.next (by go_grown)).step g6 r6)
        have x0 := (show _ = some (Value.string ⟨pc.toArray⟩) from K6.out.pk.cell 2); have xf0 := K6.out.pk.frozen 2
        have K7 := Lib.hid (K6.out.set (k' := ⟨pe, pr, t⟩) 2 (.string ⟨t.toArray⟩) rfl)
        obtain ⟨W7, hW7⟩ : ∃ W, W = w6.setCell ⟨b, 2, none⟩ (.string ⟨t.toArray⟩) := ⟨_, rfl⟩
        rw [← hW7] at K7
        have HW7 := Lib.hid hW7
        clear hW7 g6 r6 K4 K6 ht
        go_upto_region 11 with (fail)
        rw [← HW7.out]
        clear x0 xf0
        have r0 := (show _ = some (Value.int .i64 0) from K7.out.res.cell 0); have r1 := (show _ = some (Value.string ⟨#[]⟩) from K7.out.res.cell 1); have r2 := (show _ = some (Value.string ⟨#[]⟩) from K7.out.res.cell 2)
        have rf0 := K7.out.res.frozen 0; have rf1 := K7.out.res.frozen 1; have rf2 := K7.out.res.frozen 2
        have y0 := (show _ = some (Value.int .i64 pe) from K7.out.pk.cell 0); have y1 := (show _ = some (Value.string ⟨pr.toArray⟩) from K7.out.pk.cell 1); have y2 := (show _ = some (Value.string ⟨t.toArray⟩) from K7.out.pk.cell 2)
        have HFIN := Lib.hid (K7.out.out (p := p) (by first | exact hke | (simp only; omega)) (by first | exact hkr | (simp only; omega)) (by first | exact hkc | (simp only; omega)) (by omega))
        go_wp2
        exact bodyPost_ret (v := .agg #[.int .i64 pe, .string ⟨pr.toArray⟩, .string ⟨t.toArray⟩]) (by simp [results, Tryz.results14, go_sem, r0, r1, r2]) rfl HFIN.out
      · have h2b : (k1 == 2) = false := by simpa using h2
        by_cases h3 : k1 = 3
        · subst h3
          go_wp2_with fail
          refine (of_any g (q + 1) (some ⟨w4.heap.size, 0, none⟩) 4 4 [[], [101, 108, 115, 101, 32, 97, 108, 108, 111, 119, 10], [120], [120, 10]] _ (K4.out.dq.rd.next (by go_grown)) (by omega) (strs_blkP rfl rfl (by omega)) (by omega) (fun b off e => by cases e; have := K4.out.dq.rd.lt; omega)).mono ?_; rintro e w6 ⟨t, ht, rfl, g6, r6⟩
          have htl : t.length ≤ 11 := by simp at ht; rcases ht with rfl | rfl | rfl | rfl <;> simp
          have K6 := Lib.hid ((K4.out.next (by go_grown)).step g6 r6)
          have x0 := (show _ = some (Value.string ⟨pr.toArray⟩) from K6.out.pk.cell 1); have xf0 := K6.out.pk.frozen 1
          have K7 := Lib.hid (K6.out.set (k' := ⟨pe, t, pc⟩) 1 (.string ⟨t.toArray⟩) rfl)
          obtain ⟨W7, hW7⟩ : ∃ W, W = w6.setCell ⟨b, 1, none⟩ (.string ⟨t.toArray⟩) := ⟨_, rfl⟩
          rw [← hW7] at K7
          have HW7 := Lib.hid hW7
          clear hW7 g6 r6 K4 K6 ht
          go_upto_region 11 with (fail)
          rw [← HW7.out]
          clear x0 xf0
          have r0 := (show _ = some (Value.int .i64 0) from K7.out.res.cell 0); have r1 := (show _ = some (Value.string ⟨#[]⟩) from K7.out.res.cell 1); have r2 := (show _ = some (Value.string ⟨#[]⟩) from K7.out.res.cell 2)
          have rf0 := K7.out.res.frozen 0; have rf1 := K7.out.res.frozen 1; have rf2 := K7.out.res.frozen 2
          have y0 := (show _ = some (Value.int .i64 pe) from K7.out.pk.cell 0); have y1 := (show _ = some (Value.string ⟨t.toArray⟩) from K7.out.pk.cell 1); have y2 := (show _ = some (Value.string ⟨pc.toArray⟩) from K7.out.pk.cell 2)
          have HFIN := Lib.hid (K7.out.out (p := p) (by first | exact hke | (simp only; omega)) (by first | exact hkr | (simp only; omega)) (by first | exact hkc | (simp only; omega)) (by omega))
          go_wp2
          exact bodyPost_ret (v := .agg #[.int .i64 pe, .string ⟨t.toArray⟩, .string ⟨pc.toArray⟩]) (by simp [results, Tryz.results14, go_sem, r0, r1, r2]) rfl HFIN.out
        · have h3b : (k1 == 3) = false := by simpa using h3
          go_upto_region 11 with (fail)
          have r0 := (show _ = some (Value.int .i64 0) from K4.out.res.cell 0); have r1 := (show _ = some (Value.string ⟨#[]⟩) from K4.out.res.cell 1); have r2 := (show _ = some (Value.string ⟨#[]⟩) from K4.out.res.cell 2)
          have rf0 := K4.out.res.frozen 0; have rf1 := K4.out.res.frozen 1; have rf2 := K4.out.res.frozen 2
          have y0 := (show _ = some (Value.int .i64 pe) from K4.out.pk.cell 0); have y1 := (show _ = some (Value.string ⟨pr.toArray⟩) from K4.out.pk.cell 1); have y2 := (show _ = some (Value.string ⟨pc.toArray⟩) from K4.out.pk.cell 2)
          have HFIN := Lib.hid (K4.out.out (p := p) (by first | exact hke | (simp only; omega)) (by first | exact hkr | (simp only; omega)) (by first | exact hkc | (simp only; omega)) (by omega))
          go_wp2
          exact bodyPost_ret (v := .agg #[.int .i64 pe, .string ⟨pr.toArray⟩, .string ⟨pc.toArray⟩]) (by simp [results, Tryz.results14, go_sem, r0, r1, r2]) rfl HFIN.out
end Go.Proofs.YtcomdkmglihdbaaGreatDoor
