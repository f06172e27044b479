/- spec's draws of a program and a policy: DrawCheckCode, DrawCheckSteps. -/
import Derived.Test.YteflnpejhhkchaaGreatDoorDrawPolW
import Derived.Test.YteflnpejhhkchaaGreatDoorLawCodeFar
import Derived.Test.YteflnpejhhkchaaGreatDoorDrawCodeB
import Derived.Test.YteflnpejhhkchaaGreatDoorMakeA
import Derived.RegionTactic
import Derived.BigRegion
import Derived.Deep.CutBlock
namespace Go.Proofs.YteflnpejhhkchaaGreatDoor
open Go.RowKit
set_option linter.unusedSimpArgs false
set_option linter.unusedVariables false

/-! Two rules of a row change places. -/
structure Rw (w : World) (B b n cap : Nat) (rs : List Rl) (css : List (List Value)) : Prop where
  own : w.ownsRow B 61 4 (.slice (some ⟨b, 0, none⟩) n cap) n css.flatten
  rules : RulesOwn w B rs css
  len : css.length = n
theorem Rw.put {w : World} {B b n cap k j : Nat} {rs : List Rl} {css : List (List Value)} {c : List Value} {r' : Rl} (h : Rw w B b n cap rs css) (u : Value) (hc : css[k]? = some c) (hj : j < 4) (hr : RuleOwn w B r' (c.set j u)) :
    Rw (w.setCell ⟨b, k * 4 + j, none⟩ u) B b n cap (rs.set k r') (css.set k (c.set j u)) := by
  obtain ⟨p1, p2⟩ := rule_put u h.own h.rules hc hj
  exact ⟨p1, p2 r' hr, by simpa using h.len⟩
theorem Rw.keep {w : World} {B b n cap i m : Nat} {rs : List Rl} {css : List (List Value)} {tv u : Value} {xs : List Value} (h : Rw w B b n cap rs css) (ht : w.ownsRow B 64 4 tv m xs) : (w.setCell ⟨b, i, none⟩ u).ownsRow B 64 4 tv m xs :=
  ownsRow_setCell_other ht (by
    rcases own_apart ht h.own (by decide) with h | h
    · rw [h]; intro e; cases e
    · exact h) u
/-- A whole row is written. -/
theorem Rw.row {w : World} {B b n cap k : Nat} {rs : List Rl} {css : List (List Value)} {r r1 : Rl} {T T1 : Value} (h : Rw w B b n cap rs css) (hr : rs[k]? = some r) (hc : css[k]? = some [.int .i64 r.verdict, .int .i64 r.low, .int .i64 r.high, T])
    (h1 : w.ownsRow B 64 4 T1 r1.tests.length (tsR r1.tests).flatten) :
    Rw ((((w.setCell ⟨b, k * 4, none⟩ (.int .i64 r1.verdict)).setCell ⟨b, k * 4 + 1, none⟩ (.int .i64 r1.low)).setCell ⟨b, k * 4 + 2, none⟩ (.int .i64 r1.high)).setCell ⟨b, k * 4 + 3, none⟩ T1) B b n cap (rs.set k r1) (css.set k [.int .i64 r1.verdict, .int .i64 r1.low, .int .i64 r1.high, T1]) := by
  have hkr := (List.getElem?_eq_some_iff.1 hr).1
  have hkc := (List.getElem?_eq_some_iff.1 hc).1
  obtain ⟨T', e, ht⟩ := h.rules.2 k r _ hr hc
  obtain rfl : T = T' := by simpa using e
  have a0 := h.put (j := 0) (r' := ⟨r1.verdict, r.low, r.high, r.tests⟩) (.int .i64 r1.verdict) hc (by omega) ⟨T, rfl, ht⟩
  have t0 := h.keep (i := k * 4 + 0) (u := .int .i64 r1.verdict) ht
  have s0 := h.keep (i := k * 4 + 0) (u := .int .i64 r1.verdict) h1
  have a1 := a0.put (k := k) (j := 1) (r' := ⟨r1.verdict, r1.low, r.high, r.tests⟩) (.int .i64 r1.low) (List.getElem?_set_self hkc) (by omega) ⟨T, rfl, t0⟩
  have t1 := a0.keep (i := k * 4 + 1) (u := .int .i64 r1.low) t0
  have s1 := a0.keep (i := k * 4 + 1) (u := .int .i64 r1.low) s0
  have a2 := a1.put (k := k) (j := 2) (r' := ⟨r1.verdict, r1.low, r1.high, r.tests⟩) (.int .i64 r1.high) (List.getElem?_set_self (by simpa using hkc)) (by omega) ⟨T, rfl, t1⟩
  have s2 := a1.keep (i := k * 4 + 2) (u := .int .i64 r1.high) s1
  have a3 := a2.put (k := k) (j := 3) (r' := r1) T1 (List.getElem?_set_self (by simpa using hkc)) (by omega) ⟨T1, rfl, s2⟩
  simp only [List.set_set] at a3
  exact a3
theorem keepB {w : World} {B b m : Nat} {cur : Array Value} {tv : Value} {xs : List Value} (ht : w.ownsRow B 64 4 tv m xs) (hb : Blk w b 61 cur) (i : Nat) (u : Value) : (w.setCell ⟨b, i, none⟩ u).ownsRow B 64 4 tv m xs :=
  ownsRow_setCell_other ht (own_blk_ne ht hb (by decide)) u
theorem Rw.keep4 {w : World} {B b n cap k : Nat} {rs : List Rl} {css : List (List Value)} {r r1 : Rl} {T T1 tv : Value} {m : Nat} {xs : List Value} (h : Rw w B b n cap rs css) (hr : rs[k]? = some r) (hc : css[k]? = some [.int .i64 r.verdict, .int .i64 r.low, .int .i64 r.high, T])
    (h1 : w.ownsRow B 64 4 T1 r1.tests.length (tsR r1.tests).flatten) (ht : w.ownsRow B 64 4 tv m xs) :
    ((((w.setCell ⟨b, k * 4, none⟩ (.int .i64 r1.verdict)).setCell ⟨b, k * 4 + 1, none⟩ (.int .i64 r1.low)).setCell ⟨b, k * 4 + 2, none⟩ (.int .i64 r1.high)).setCell ⟨b, k * 4 + 3, none⟩ T1).ownsRow B 64 4 tv m xs := by
  have hblk : ∃ cur, Blk w b 61 cur := by
    rcases h.own.2 with ⟨e, _⟩ | ⟨b', cap', cur, e, _, hg, _⟩
    · cases e
    · cases e; exact ⟨cur, hg⟩
  obtain ⟨cur, hb⟩ := hblk
  have t1 := keepB ht hb (k * 4) (.int .i64 r1.verdict)
  have t2 := keepB t1 (hb.set_ _ _) (k * 4 + 1) (.int .i64 r1.low)
  have t3 := keepB t2 ((hb.set_ _ _).set_ _ _) (k * 4 + 2) (.int .i64 r1.high)
  exact keepB t3 (((hb.set_ _ _).set_ _ _).set_ _ _) (k * 4 + 3) T1
theorem Rw.cell {w : World} {B b n cap k : Nat} {rs : List Rl} {css : List (List Value)} {c : List Value} (h : Rw w B b n cap rs css) (hc : css[k]? = some c) (hk : k < n) (j : Nat) (v : Value) (hv : c[j]? = some v) : w.cell? ⟨b, k * 4 + j, none⟩ = some v := by
  obtain ⟨A, n', c', e, hS⟩ := SlA.of_own h.own h.len h.rules.are.rows
  cases e
  obtain ⟨b', off, e, _, he⟩ := hS.get hk
  cases e
  have := he c hc j v hv
  simpa using this
theorem Rw.next {w w' : World} {B b n cap : Nat} {rs : List Rl} {css : List (List Value)} (h : Rw w B b n cap rs css) (hb : Below w.heap.size w w') : Rw w' B b n cap rs css :=
  ⟨own_below h.own hb, h.rules.imp fun tv n xs ho => own_below ho hb, h.len⟩
theorem Rw.pol {w : World} {B b n cap : Nat} {rs : List Rl} {css : List (List Value)} (h : Rw w B b n cap rs css) (els : Int) : PolOwn w B ⟨rs, els⟩ (.agg #[.slice (some ⟨b, 0, none⟩) n cap, .int .i64 els]) :=
  ⟨_, css, rfl, by rw [h.len]; exact h.own, h.rules⟩
/-- A row of places lies apart from a block of fewer cells. -/
theorem Sl.apart3 {w w' : World} {k : Nat} {t : TypeId} {cs : Array Value} {v : Value} {gs : List In4} (h : Sl w 4 v (insR gs)) (hk : Blk w k t cs) (hs : cs.size < 4) (hg : w.grownBy w' (some k)) : Sl w' 4 v (insR gs) := by
  obtain ⟨A, n, c, rfl, hA⟩ := h
  rcases Nat.eq_zero_or_pos n with h0 | h0
  · subst h0
    exact ⟨A, 0, c, rfl, hA.len, hA.cap, hA.max, fun h => absurd h (by omega)⟩
  · refine ⟨A, n, c, rfl, hA.grown hg fun b off e => ?_⟩
    obtain ⟨b', off', e', hb, he⟩ := hA.at_ h0
    rw [e] at e'
    cases e'
    intro e2
    subst e2
    have hl := hA.len
    have hr0 : (insR gs)[0]? = some ((insR gs)[0]'(by omega)) := List.getElem?_eq_getElem _
    have hlen : ((insR gs)[0]'(by omega)).length = 4 := insR_rows gs _ (List.getElem_mem _)
    have h6 := he 0 _ hr0 3 _ (List.getElem?_eq_getElem (by rw [hlen]; omega))
    rw [hk.cell] at h6
    have := (Array.getElem?_eq_some_iff.1 h6).1
    omega

/-- What is drawn: a program and a policy. -/
def CheckDraw (w : World) (e : Ending) (w' : World) : Prop := ∃ (gs : List In4) (po : Pol) (u : Value) (A : Option Addr) (n c B : Nat), e = .returned (.tuple #[u, .agg #[.slice A n c, .int .i64 po.els]]) ∧ Sl w' 4 u (insR gs) ∧ gs.length ≤ 1000 ∧ PolOwn w' B po (.agg #[.slice A n c, .int .i64 po.els]) ∧ Below w.heap.size w w'

set_option maxRecDepth 100000 in
set_option maxHeartbeats 8000000 in
theorem DrawCheckCode_any (v : Value) (ys : List Int) (w : World) (hs : Sl w 1 v (u8s ys)) (hb : ∀ y ∈ ys, 0 ≤ y ∧ y ≤ 255) :
    Calls Tryz.prog 24 #[v] w (CheckDraw w) := by
  obtain ⟨W1, hW1⟩ : ∃ W, W = w.alloc (.cells #[.slice none 0 0, .int .i64 0] 26) := ⟨_, rfl⟩
  have B1 : Hid (Blk W1 w.heap.size 26 #[.slice none 0 0, .int .i64 0]) := by rw [hW1]; exact Lib.hid (Blk.new _ _ _)
  have b1 : Hid (Below w.heap.size w W1) := by rw [hW1]; exact Lib.hid (by go_grown)
  have HS1 : Hid (Sl W1 1 v (u8s ys)) := Lib.hid (hs.below b1.out)
  have HB := Lib.hid hb
  have HW1 := Lib.hid hW1
  clear hW1 hs hb
  go_enter Tryz.func24, Tryz.ntmps24
  go_wp2_with fail
  rw [← HW1.out]
  refine (l1Open_any v ys _ HS1.out HB.out).mono ?_; rintro e w2 ⟨rfl, r2, b2⟩
  have D2 := Lib.hid (Dq.start r2)
  have HB2 := Lib.hid (below_then b1.out b2)
  have K2 := Lib.hid (B1.out.below b2 B1.out.lt)
  have HLT := Lib.hid (show w.heap.size < W1.heap.size from B1.out.lt)
  obtain ⟨g, hg⟩ : ∃ g, g = W1.heap.size := ⟨_, rfl⟩
  rw [← hg] at D2 HLT ⊢
  clear r2 b2 HW1 hg B1 b1 HS1
  have HF : Hid (∀ (wf : World) (x : List In4) (xv : Value) (po : Pol) (A : Option Addr) (n c B q : Nat), Dq w2 wf g q → Sl wf 4 xv (insR x) → x.length ≤ 1000 → PolOwn wf B po (.agg #[.slice A n c, .int .i64 po.els]) →
      Blk wf w.heap.size 26 #[.slice none 0 0, .int .i64 0] ∧ CheckDraw w (.returned (.tuple #[xv, .agg #[.slice A n c, .int .i64 po.els]])) ((wf.setCell ⟨w.heap.size, 0, none⟩ (.slice A n c)).setCell ⟨w.heap.size, 1, none⟩ (.int .i64 po.els))) := Lib.hid (fun wf x xv po A n c B q D hS hx hP => by
    have K := K2.out.grown D.grown (fun e => by have := HLT.out; injection e with e; omega)
    have hBl := HB2.out.grown D.grown HB2.out.size (fun k hk => by have := HLT.out; injection hk with hk; omega)
    refine ⟨K, x, po, xv, A, n, c, B, rfl, ?_, hx, (hP.set_blk K).set_blk (K.set_ 0 _), (hBl.setCell (p := ⟨w.heap.size, 0, none⟩) (Nat.le_refl _) _).setCell (p := ⟨w.heap.size, 1, none⟩) (Nat.le_refl _) _⟩
    exact (hS.apart3 K (by decide) (grown_set _ _ _ _)).apart3 (K.set_ 0 _) (by simp) (grown_set _ _ _ _))
  go_wp2_with fail
  refine (l11Policy_small g 0 3 2 w2 D2.out.rd (by omega) (by omega) (by omega)).mono ?_; rintro e w3 ⟨po, pv, q, rfl, ⟨B, hB, hpo⟩, hg, hr, hq, hsm⟩
  obtain ⟨A, n, c, rfl⟩ := hpo.form
  have D3 := Lib.hid (D2.out.step hg hr)
  have HPO := Lib.hid hpo; have HSM := Lib.hid hsm
  have HGB := Lib.hid (show g < B by have := D2.out.lt; omega)
  clear hpo hg hr hsm hB
  obtain ⟨W4, hW4⟩ : ∃ W, W = w3.alloc (.cells #[.slice A n c, .int .i64 po.els] 26) := ⟨_, rfl⟩
  obtain ⟨h5, hh5⟩ : ∃ h, h = w3.heap.size := ⟨_, rfl⟩
  have D4 : Hid (Dq w2 W4 g q) := by rw [hW4]; exact Lib.hid (D3.out.next (by go_grown))
  have K4 : Hid (Blk W4 h5 26 #[.slice A n c, .int .i64 po.els]) := by rw [hW4, hh5]; exact Lib.hid (Blk.new _ _ _)
  have P4 : Hid (PolOwn W4 B po (.agg #[.slice A n c, .int .i64 po.els])) := by rw [hW4]; exact Lib.hid (HPO.out.below (by go_grown))
  have HN35 := Lib.hid (show w.heap.size ≠ h5 by have h1 := D3.out.size; have h2 := K2.out.lt; omega)
  have HL5 := Lib.hid (show w2.heap.size ≤ h5 by have h1 := D3.out.size; omega)
  have HW4 := Lib.hid hW4; have HH5 := Lib.hid hh5
  clear hW4 hh5
  go_wp2_with fail
  rw [← HW4.out, ← HH5.out]
  have y0 := (show _ = some (Value.slice A n c) from K4.out.cell 0); have y1 := (show _ = some (Value.int .i64 po.els) from K4.out.cell 1)
  clear HW4 HH5 D3 HPO
  go_wp2_with fail
  refine (sMakeCode_any po _ W4 P4.out.is).mono ?_; rintro e w5 ⟨xv, x, ok, rfl, hxl, hxo, b5⟩
  have D5 := Lib.hid (D4.out.next b5); have K5 := Lib.hid (K4.out.below b5 K4.out.lt); have P5 := Lib.hid (P4.out.below b5)
  have S5 := Lib.hid (SlA.of_own hxo (insR_len x) (insR_rows x)); have HXL := Lib.hid hxl
  clear hxl hxo b5 D4 K4 P4 y0 y1
  go_wp2_with fail
  refine (pick_any g q 5 _ D5.out.rd (by omega)).mono ?_; rintro e w6 ⟨k6, rfl, a6, b6, g6, r6⟩
  have b6' := b6 (by omega)
  have D6 := Lib.hid (D5.out.step g6 r6); have K6 := Lib.hid (D5.out.blk K5.out HL5.out g6); have P6 := Lib.hid (P5.out.grown g6 HGB.out)
  have S6 := Lib.hid (S5.out.apartC D5.out.rd g6)
  clear g6 r6 b6 D5 K5 P5 S5
  by_cases h0 : k6 = 0
  · subst h0
    go_wp2_with fail
    refine (l11Bent_any g (q + 1) xv x w6 D6.out.rd (by omega) S6.out (by have := HXL.out; omega)).mono ?_; rintro e w7 ⟨xv7, x7, q7, rfl, hs7, hl7, g7, r7⟩
    have D7 := Lib.hid (D6.out.step g7 r7); have K7 := Lib.hid (D6.out.blk K6.out HL5.out g7); have P7 := Lib.hid (P6.out.grown g7 HGB.out)
    have S7 := Lib.hid hs7; have HL7 := Lib.hid hl7
    clear g7 r7 hs7 hl7
    obtain ⟨K9, hf⟩ := HF.out w7.drew _ xv7 _ _ _ _ _ _ ((D7.out).next (by go_grown)) ((S7.out).below (by go_grown)) (HL7.out) ((P7.out).below (by go_grown))
    have HK9 := Lib.hid K9; have HFF := Lib.hid hf
    clear K9 hf
    have y0 := (show _ = some (Value.slice A n c) from (K7.out).cell 0); have y1 := (show _ = some (Value.int .i64 po.els) from (K7.out).cell 1)
    have x0 := (show w7.cell? _ = some (Value.slice none 0 0) from HK9.out.cell 0); have x1 := (show w7.cell? _ = some (Value.int .i64 0) from HK9.out.cell 1); have f0 := (show w7.frozen? _ = false from HK9.out.frozen 0); have f1 := (show w7.frozen? _ = false from HK9.out.frozen 1)
    have hn35 := HN35.out; have hn53 := Ne.symm hn35
    go_wp2
    go_region
    all_goals
      go_wp2
      refine bodyPost_ret (v := .tuple #[xv7, .agg #[.slice A n c, .int .i64 po.els]]) (by simp [results, Tryz.results24, go_sem, x0, x1]) rfl HFF.out
  have d0 : (k6 == 0) = false := by simpa using h0
  by_cases h1 : k6 = 1
  · subst h1
    go_wp2_with fail
    refine (l11Code_any g (q + 1) w6 D6.out.rd (by omega)).mono ?_; rintro e w7 ⟨xv7, x7, q7, rfl, hs7, hl7, g7, r7, hq7⟩
    have D7 := Lib.hid (D6.out.step g7 r7); have K7 := Lib.hid (D6.out.blk K6.out HL5.out g7); have P7 := Lib.hid (P6.out.grown g7 HGB.out)
    have S7 := Lib.hid hs7; have HL7 := Lib.hid (show x7.length ≤ 1000 by omega)
    clear g7 r7 hs7 hl7
    obtain ⟨K9, hf⟩ := HF.out w7.drew _ xv7 _ _ _ _ _ _ ((D7.out).next (by go_grown)) ((S7.out).below (by go_grown)) (HL7.out) ((P7.out).below (by go_grown))
    have HK9 := Lib.hid K9; have HFF := Lib.hid hf
    clear K9 hf
    have y0 := (show _ = some (Value.slice A n c) from (K7.out).cell 0); have y1 := (show _ = some (Value.int .i64 po.els) from (K7.out).cell 1)
    have x0 := (show w7.cell? _ = some (Value.slice none 0 0) from HK9.out.cell 0); have x1 := (show w7.cell? _ = some (Value.int .i64 0) from HK9.out.cell 1); have f0 := (show w7.frozen? _ = false from HK9.out.frozen 0); have f1 := (show w7.frozen? _ = false from HK9.out.frozen 1)
    have hn35 := HN35.out; have hn53 := Ne.symm hn35
    go_wp2
    go_region
    all_goals
      go_wp2
      refine bodyPost_ret (v := .tuple #[xv7, .agg #[.slice A n c, .int .i64 po.els]]) (by simp [results, Tryz.results24, go_sem, x0, x1]) rfl HFF.out
  have d1 : (k6 == 1) = false := by simpa using h1
  have z0 := (show _ = some (Value.slice A n c) from K6.out.cell 0); have z1 := (show _ = some (Value.int .i64 po.els) from K6.out.cell 1)
  by_cases h2 : k6 = 2
  · subst h2
    by_cases hn : (1 : Int) < n
    · have hpl : po.rules.length = n := by
        obtain ⟨rv0, css0, e0, ho0, hr0⟩ := P6.out
        obtain ⟨A1, n1, c1, e1, hS1⟩ := SlA.of_own ho0 rfl hr0.are.rows
        subst e1
        simp only [Value.agg.injEq] at e0
        have e2 : Value.slice A n c = Value.slice A1 n1 c1 := by have := congrArg (fun x : Array Value => x[0]?) e0; simpa using this
        injection e2 with _ e3 _
        rw [← hr0.1, hS1.len, e3]
      have HPL := Lib.hid hpl
      clear hpl
      go_wp2_with fail
      refine (l2Copy_any po _ B w6 P6.out (by have := HSM.out.1; omega) (fun r hr => by have := HSM.out.2 r hr; omega)).mono ?_; rintro e w7 ⟨rv, css, rfl, ho7, hr7, hap7, b7⟩
      have hcl : css.length = n := hr7.1.trans HPL.out
      obtain ⟨b, cap, cur, hrv⟩ : ∃ (b cap : Nat) (cur : Array Value), rv = .slice (some ⟨b, 0, none⟩) css.length cap := by
        rcases ho7.2 with ⟨_, e7⟩ | ⟨b, cap, cur, e6, _⟩
        · omega
        · exact ⟨b, cap, cur, e6⟩
      subst hrv
      rw [hcl] at ho7 ⊢
      have RW7 : Rw w7 w6.heap.size b n cap po.rules css := ⟨ho7, hr7, hcl⟩
      have hcap : n ≤ cap := own_le ho7
      have hbs : b < w7.heap.size := by
        rcases ho7.2 with ⟨e, _⟩ | ⟨b', cap', cur', e, _, hg, _⟩
        · cases e
        · cases e; exact Blk.lt (show Blk w7 b _ cur' from hg)
      have hn2 : 2 ≤ n := by omega
      obtain ⟨r0, hr0⟩ : ∃ r, po.rules[0]? = some r := ⟨_, List.getElem?_eq_getElem (by rw [HPL.out]; omega)⟩
      obtain ⟨r1, hr1⟩ : ∃ r, po.rules[1]? = some r := ⟨_, List.getElem?_eq_getElem (by rw [HPL.out]; omega)⟩
      obtain ⟨k0, hk0⟩ : ∃ k, css[0]? = some k := ⟨_, List.getElem?_eq_getElem (by rw [hcl]; omega)⟩
      obtain ⟨k1, hk1⟩ : ∃ k, css[1]? = some k := ⟨_, List.getElem?_eq_getElem (by rw [hcl]; omega)⟩
      obtain ⟨T0, e0, ht0⟩ := hr7.2 0 r0 k0 hr0 hk0
      obtain ⟨T1, e1, ht1⟩ := hr7.2 1 r1 k1 hr1 hk1
      subst e0 e1
      obtain ⟨A0, m0, q0, hT0, -⟩ := SlA.of_own ht0 (by rw [tsR_len]) (tsR_rows _)
      obtain ⟨A1, m1, q1, hT1, -⟩ := SlA.of_own ht1 (by rw [tsR_len]) (tsR_rows _)
      subst hT0 hT1
      have D7 := Lib.hid (D6.out.next b7); have K7 := Lib.hid (K6.out.below b7 K6.out.lt); have P7 := Lib.hid (P6.out.below b7); have S7 := Lib.hid (S6.out.below b7)
      obtain ⟨X8, hX8⟩ : ∃ W, W = w7.alloc (.cells #[.slice (some ⟨b, 0, none⟩) n cap, .int .i64 po.els] 26) := ⟨_, rfl⟩
      obtain ⟨X9, hX9⟩ : ∃ W, W = X8.alloc (.cells #[.int .i64 r0.verdict, .int .i64 r0.low, .int .i64 r0.high, .slice A0 m0 q0] 61) := ⟨_, rfl⟩
      obtain ⟨h8, hh8⟩ : ∃ h, h = w7.heap.size := ⟨_, rfl⟩
      obtain ⟨h9, hh9⟩ : ∃ h, h = h8 + 1 := ⟨_, rfl⟩
      have hx8s : X8.heap.size = h8 + 1 := by rw [hX8, hh8]; simp
      have hb79 : Below w7.heap.size w7 X9 := by rw [hX9, hX8]; go_grown
      have RW9 := Lib.hid (RW7.next hb79)
      have D9 := Lib.hid (D7.out.next hb79); have K9 := Lib.hid (K7.out.below hb79 K7.out.lt); have P9 := Lib.hid (P7.out.below hb79); have S9 := Lib.hid (S7.out.below hb79)
      have B8 : Hid (Blk X9 h8 26 #[.slice (some ⟨b, 0, none⟩) n cap, .int .i64 po.els]) := by rw [hX9, hX8, hh8]; exact Lib.hid ((Blk.new _ _ _).alloc _)
      have B9 : Hid (Blk X9 h9 61 #[.int .i64 r0.verdict, .int .i64 r0.low, .int .i64 r0.high, .slice A0 m0 q0]) := by rw [hX9, hh9, ← hx8s]; exact Lib.hid (Blk.new _ _ _)
      have HT0 := Lib.hid (own_below ht0 hb79); have HT1 := Lib.hid (own_below ht1 hb79)
      have HBN := Lib.hid (show b ≠ h8 ∧ b ≠ h9 ∧ h8 ≠ h9 ∧ h5 ≠ b by
        have h2 := K6.out.lt
        have h3 := (ho7.lt b rfl).1
        omega)
      have HR0 := Lib.hid hr0; have HR1 := Lib.hid hr1; have HK0 := Lib.hid hk0; have HK1 := Lib.hid hk1
      have a0 := (show w7.cell? ⟨b, 0, none⟩ = some (.int .i64 r0.verdict) from RW7.cell hk0 (by omega) 0 _ rfl); have a1 := (show w7.cell? ⟨b, 1, none⟩ = some (.int .i64 r0.low) from RW7.cell hk0 (by omega) 1 _ rfl); have a2 := (show w7.cell? ⟨b, 2, none⟩ = some (.int .i64 r0.high) from RW7.cell hk0 (by omega) 2 _ rfl); have a3 := (show w7.cell? ⟨b, 3, none⟩ = some (.slice A0 m0 q0) from RW7.cell hk0 (by omega) 3 _ rfl)
      have HX8 := Lib.hid hX8; have HX9 := Lib.hid hX9; have HH8 := Lib.hid hh8; have HH9 := Lib.hid hh9
      have hn0 : (0 : Int) < n := by omega
      have HB69 := Lib.hid (show Below w6.heap.size w6 X9 from below_then b7 hb79)
      have HBGE := Lib.hid (show w6.heap.size ≤ b from (ho7.lt b rfl).1)
      clear RW7 ho7 hr7 hap7 ht0 ht1 hr0 hr1 hk0 hk1 b7 hb79 hX8 hX9 hh8 hh9 hcl hx8s z0 z1
      go_wp2_with fail
      rw [← HX8.out, ← HH8.out, ← HX9.out, ← HH9.out]
      clear a0 a1 a2 a3
      obtain ⟨nb8, nb9, n89, n5b⟩ := HBN.out
      have y80 := (show _ = some (Value.slice (some ⟨b, 0, none⟩) n cap) from B8.out.cell 0); have y81 := (show _ = some (Value.int .i64 po.els) from B8.out.cell 1)
      have y90 := (show _ = some (Value.int .i64 r0.verdict) from B9.out.cell 0); have y91 := (show _ = some (Value.int .i64 r0.low) from B9.out.cell 1); have y92 := (show _ = some (Value.int .i64 r0.high) from B9.out.cell 2); have y93 := (show _ = some (Value.slice A0 m0 q0) from B9.out.cell 3)
      have a0 := (show X9.cell? ⟨b, 0, none⟩ = some (.int .i64 r0.verdict) from RW9.out.cell HK0.out (by omega) 0 _ rfl); have a1 := (show X9.cell? ⟨b, 1, none⟩ = some (.int .i64 r0.low) from RW9.out.cell HK0.out (by omega) 1 _ rfl); have a2 := (show X9.cell? ⟨b, 2, none⟩ = some (.int .i64 r0.high) from RW9.out.cell HK0.out (by omega) 2 _ rfl); have a3 := (show X9.cell? ⟨b, 3, none⟩ = some (.slice A0 m0 q0) from RW9.out.cell HK0.out (by omega) 3 _ rfl)
      have a4 := (show X9.cell? ⟨b, 4, none⟩ = some (.int .i64 r1.verdict) from RW9.out.cell HK1.out (by omega) 0 _ rfl); have a5 := (show X9.cell? ⟨b, 5, none⟩ = some (.int .i64 r1.low) from RW9.out.cell HK1.out (by omega) 1 _ rfl); have a6 := (show X9.cell? ⟨b, 6, none⟩ = some (.int .i64 r1.high) from RW9.out.cell HK1.out (by omega) 2 _ rfl); have a7 := (show X9.cell? ⟨b, 7, none⟩ = some (.slice A1 m1 q1) from RW9.out.cell HK1.out (by omega) 3 _ rfl)
      have f0 := own_unfrozen RW9.out.own 0; have f1 := own_unfrozen RW9.out.own 1; have f2 := own_unfrozen RW9.out.own 2; have f3 := own_unfrozen RW9.out.own 3; have f4 := own_unfrozen RW9.out.own 4; have f5 := own_unfrozen RW9.out.own 5; have f6 := own_unfrozen RW9.out.own 6; have f7 := own_unfrozen RW9.out.own 7
      have hn1i : (1 : Int) < n := hn
      have RWA := Lib.hid (RW9.out.row (k := 0) HR0.out HK0.out HT1.out)
      have HT0A := Lib.hid (((RW9.out.keep4 (k := 0) (r := r0) (r1 := r1) (T1 := .slice A1 m1 q1) HR0.out HK0.out HT1.out HT0.out)))
      have RWB := Lib.hid (RWA.out.row (k := 1) (r := r1) (r1 := r0) (by rw [List.getElem?_set_ne (by omega)]; exact HR1.out) (by rw [List.getElem?_set_ne (by omega)]; exact HK1.out) HT0A.out)
      go_region
      all_goals
        go_wp2_with fail
        refine (sMakeCode_any ⟨_, po.els⟩ _ _ ((show Rw _ w6.heap.size b n cap _ _ from (RWB.out.next (w' := World.drew _) (by go_grown))).pol po.els).is).mono ?_; rintro e w10 ⟨xv2, x2, ok2, rfl, hxl2, hxo2, b10⟩
        have HBW : Hid (Below w6.heap.size w6 w10) := Lib.hid (below_then (by (repeat' (first | (with_reducible exact HB69.out) | (with_reducible refine Below.setCell ?_ ?_ _) | (with_reducible refine Below.drew ?_))) <;> exact HBGE.out) b10)
        have D10 := Lib.hid (D6.out.next HBW.out); have K10 := Lib.hid (K6.out.below HBW.out K6.out.lt); have P10 := Lib.hid (P6.out.below HBW.out); have S10 := Lib.hid (S6.out.below HBW.out)
        have SY := Lib.hid (SlA.of_own hxo2 (insR_len x2) (insR_rows x2)); have HL2 := Lib.hid (show x2.length ≤ 1000 by omega)
        clear hxl2 hxo2 b10 y80 y81 y90 y91 y92 y93 a0 a1 a2 a3 a4 a5 a6 a7 f0 f1 f2 f3 f4 f5 f6 f7 RWA RWB HT0A RW9 B8 B9 nb8 nb9 n89 n5b
        cases ok2 with
        | true =>
          obtain ⟨K9, hf⟩ := HF.out w10.drew _ xv2 _ _ _ _ _ _ ((D10.out).next (by go_grown)) ((SY.out).below (by go_grown)) (HL2.out) ((P10.out).below (by go_grown))
          have HK9 := Lib.hid K9; have HFF := Lib.hid hf
          clear K9 hf
          have y0 := (show _ = some (Value.slice A n c) from (K10.out).cell 0); have y1 := (show _ = some (Value.int .i64 po.els) from (K10.out).cell 1)
          have x0 := (show w10.cell? _ = some (Value.slice none 0 0) from HK9.out.cell 0); have x1 := (show w10.cell? _ = some (Value.int .i64 0) from HK9.out.cell 1); have f0 := (show w10.frozen? _ = false from HK9.out.frozen 0); have f1 := (show w10.frozen? _ = false from HK9.out.frozen 1)
          have hn35 := HN35.out; have hn53 := Ne.symm hn35
          go_wp2
          go_region
          all_goals
            go_wp2
            refine bodyPost_ret (v := .tuple #[xv2, .agg #[.slice A n c, .int .i64 po.els]]) (by simp [results, Tryz.results24, go_sem, x0, x1]) rfl HFF.out
        | false =>
          obtain ⟨K9, hf⟩ := HF.out w10.drew _ xv _ _ _ _ _ _ ((D10.out).next (by go_grown)) ((S10.out).below (by go_grown)) ((by have := HXL.out; omega)) ((P10.out).below (by go_grown))
          have HK9 := Lib.hid K9; have HFF := Lib.hid hf
          clear K9 hf
          have y0 := (show _ = some (Value.slice A n c) from (K10.out).cell 0); have y1 := (show _ = some (Value.int .i64 po.els) from (K10.out).cell 1)
          have x0 := (show w10.cell? _ = some (Value.slice none 0 0) from HK9.out.cell 0); have x1 := (show w10.cell? _ = some (Value.int .i64 0) from HK9.out.cell 1); have f0 := (show w10.frozen? _ = false from HK9.out.frozen 0); have f1 := (show w10.frozen? _ = false from HK9.out.frozen 1)
          have hn35 := HN35.out; have hn53 := Ne.symm hn35
          go_wp2
          go_region
          all_goals
            go_wp2
            refine bodyPost_ret (v := .tuple #[xv, .agg #[.slice A n c, .int .i64 po.els]]) (by simp [results, Tryz.results24, go_sem, x0, x1]) rfl HFF.out
    · clear z0 z1
      obtain ⟨K9, hf⟩ := HF.out w6.drew _ xv _ _ _ _ _ _ ((D6.out).next (by go_grown)) ((S6.out).below (by go_grown)) ((by have := HXL.out; omega)) ((P6.out).below (by go_grown))
      have HK9 := Lib.hid K9; have HFF := Lib.hid hf
      clear K9 hf
      have y0 := (show _ = some (Value.slice A n c) from (K6.out).cell 0); have y1 := (show _ = some (Value.int .i64 po.els) from (K6.out).cell 1)
      have x0 := (show w6.cell? _ = some (Value.slice none 0 0) from HK9.out.cell 0); have x1 := (show w6.cell? _ = some (Value.int .i64 0) from HK9.out.cell 1); have f0 := (show w6.frozen? _ = false from HK9.out.frozen 0); have f1 := (show w6.frozen? _ = false from HK9.out.frozen 1)
      have hn35 := HN35.out; have hn53 := Ne.symm hn35
      go_wp2
      go_region
      all_goals
        go_wp2
        refine bodyPost_ret (v := .tuple #[xv, .agg #[.slice A n c, .int .i64 po.els]]) (by simp [results, Tryz.results24, go_sem, x0, x1]) rfl HFF.out
  have d2 : (k6 == 2) = false := by simpa using h2
  by_cases h3 : k6 = 3
  · subst h3
    go_wp2_with fail
    refine (pick_any g (q + 1) 3 _ D6.out.rd (by omega)).mono ?_; rintro e w7 ⟨k7, rfl, a7, b7, g7, r7⟩
    have D7 := Lib.hid (D6.out.step g7 r7); have K7 := Lib.hid (D6.out.blk K6.out HL5.out g7); have P7 := Lib.hid (P6.out.grown g7 HGB.out)
    have S7 := Lib.hid (S6.out.apartC D6.out.rd g7); have HL7 := Lib.hid (show x.length ≤ 1000 by have := HXL.out; omega)
    clear g7 r7 b7 z0 z1
    by_cases h7 : k7 = 0
    · subst h7
      have z0 := (show _ = some (Value.slice A n c) from K7.out.cell 0); have z1 := (show _ = some (Value.int .i64 po.els) from K7.out.cell 1)
      go_wp2_with fail
      refine (l11SpoilPolicy_any g (q + 2) B po _ w7 D7.out.rd (by omega) P7.out HSM.out.1 HSM.out.2).mono ?_; rintro e w8 ⟨po', v', q', rfl, hpo', hg', hr', hq', hsm'⟩
      obtain ⟨A', n', c', rfl⟩ := hpo'.form
      have D8 := Lib.hid (D7.out.step hg' hr'); have K8 := Lib.hid (D7.out.blk K7.out HL5.out hg'); have P8 := Lib.hid hpo'
      have S8 := Lib.hid (S7.out.apartC D7.out.rd hg')
      clear hpo' hg' hr' hsm' z0 z1
      obtain ⟨w9, hw9⟩ : ∃ W, W = (w8.setCell ⟨h5, 0, none⟩ (.slice A' n' c')).setCell ⟨h5, 1, none⟩ (.int .i64 po'.els) := ⟨_, rfl⟩
      have D9 : Hid (Dq w2 w9 g q') := by rw [hw9]; exact Lib.hid ((D8.out.set (a := h5) (i := 0) HL5.out _).set (a := h5) (i := 1) HL5.out _)
      have K9 : Hid (Blk w9 h5 26 #[.slice A' n' c', .int .i64 po'.els]) := by rw [hw9]; exact Lib.hid ((K8.out.set_ 0 _).set_ 1 _)
      have P9 : Hid (PolOwn w9 w7.heap.size po' (.agg #[.slice A' n' c', .int .i64 po'.els])) := by rw [hw9]; exact Lib.hid ((P8.out.set_blk K8.out).set_blk (K8.out.set_ 0 _))
      have S9 : Hid (Sl w9 4 xv (insR x)) := by rw [hw9]; exact Lib.hid ((S8.out.apart3 K8.out (by simp) (grown_set _ _ _ _)).apart3 (K8.out.set_ 0 _) (by simp) (grown_set _ _ _ _))
      have u0 := (show _ = some (Value.slice A n c) from K8.out.cell 0); have u1 := (show _ = some (Value.int .i64 po.els) from K8.out.cell 1); have uf0 := K8.out.frozen 0; have uf1 := K8.out.frozen 1
      have HW9 := Lib.hid hw9
      clear hw9
      go_upto_region 21 with (fail)
      rw [← HW9.out]
      clear u0 u1 uf0 uf1 HW9
      obtain ⟨K9, hf⟩ := HF.out w9.drew _ xv _ _ _ _ _ _ ((D9.out).next (by go_grown)) ((S9.out).below (by go_grown)) (HL7.out) ((P9.out).below (by go_grown))
      have HK9 := Lib.hid K9; have HFF := Lib.hid hf
      clear K9 hf
      have y0 := (show _ = some (Value.slice A' n' c') from (K9.out).cell 0); have y1 := (show _ = some (Value.int .i64 po'.els) from (K9.out).cell 1)
      have x0 := (show w9.cell? _ = some (Value.slice none 0 0) from HK9.out.cell 0); have x1 := (show w9.cell? _ = some (Value.int .i64 0) from HK9.out.cell 1); have f0 := (show w9.frozen? _ = false from HK9.out.frozen 0); have f1 := (show w9.frozen? _ = false from HK9.out.frozen 1)
      have hn35 := HN35.out; have hn53 := Ne.symm hn35
      go_wp2
      go_region
      all_goals
        go_wp2
        refine bodyPost_ret (v := .tuple #[xv, .agg #[.slice A' n' c', .int .i64 po'.els]]) (by simp [results, Tryz.results24, go_sem, x0, x1]) rfl HFF.out
    · have d7 : (k7 == 0) = false := by simpa using h7
      obtain ⟨K9, hf⟩ := HF.out w7.drew _ xv _ _ _ _ _ _ ((D7.out).next (by go_grown)) ((S7.out).below (by go_grown)) (HL7.out) ((P7.out).below (by go_grown))
      have HK9 := Lib.hid K9; have HFF := Lib.hid hf
      clear K9 hf
      have y0 := (show _ = some (Value.slice A n c) from (K7.out).cell 0); have y1 := (show _ = some (Value.int .i64 po.els) from (K7.out).cell 1)
      have x0 := (show w7.cell? _ = some (Value.slice none 0 0) from HK9.out.cell 0); have x1 := (show w7.cell? _ = some (Value.int .i64 0) from HK9.out.cell 1); have f0 := (show w7.frozen? _ = false from HK9.out.frozen 0); have f1 := (show w7.frozen? _ = false from HK9.out.frozen 1)
      have hn35 := HN35.out; have hn53 := Ne.symm hn35
      go_wp2
      go_region
      all_goals
        go_wp2
        refine bodyPost_ret (v := .tuple #[xv, .agg #[.slice A n c, .int .i64 po.els]]) (by simp [results, Tryz.results24, go_sem, x0, x1]) rfl HFF.out
  · have d3 : (k6 == 3) = false := by simpa using h3
    clear z0 z1
    obtain ⟨K9, hf⟩ := HF.out w6.drew _ xv _ _ _ _ _ _ ((D6.out).next (by go_grown)) ((S6.out).below (by go_grown)) ((by have := HXL.out; omega)) ((P6.out).below (by go_grown))
    have HK9 := Lib.hid K9; have HFF := Lib.hid hf
    clear K9 hf
    have y0 := (show _ = some (Value.slice A n c) from (K6.out).cell 0); have y1 := (show _ = some (Value.int .i64 po.els) from (K6.out).cell 1)
    have x0 := (show w6.cell? _ = some (Value.slice none 0 0) from HK9.out.cell 0); have x1 := (show w6.cell? _ = some (Value.int .i64 0) from HK9.out.cell 1); have f0 := (show w6.frozen? _ = false from HK9.out.frozen 0); have f1 := (show w6.frozen? _ = false from HK9.out.frozen 1)
    have hn35 := HN35.out; have hn53 := Ne.symm hn35
    go_wp2
    go_region
    all_goals
      go_wp2
      refine bodyPost_ret (v := .tuple #[xv, .agg #[.slice A n c, .int .i64 po.els]]) (by simp [results, Tryz.results24, go_sem, x0, x1]) rfl HFF.out

set_option maxHeartbeats 2000000 in
theorem DrawCheckSteps_any (v : Value) (ys : List Int) (w : World) (hs : Sl w 1 v (u8s ys)) (hb : ∀ y ∈ ys, 0 ≤ y ∧ y ≤ 255) :
    Calls Tryz.prog 7 #[v] w (CheckDraw w) := by
  obtain ⟨W1, hW1⟩ : ∃ W, W = w.alloc (.cells #[.slice none 0 0, .int .i64 0] 26) := ⟨_, rfl⟩
  have B1 : Hid (Blk W1 w.heap.size 26 #[.slice none 0 0, .int .i64 0]) := by rw [hW1]; exact Lib.hid (Blk.new _ _ _)
  have b1 : Hid (Below w.heap.size w W1) := by rw [hW1]; exact Lib.hid (by go_grown)
  have HS1 : Hid (Sl W1 1 v (u8s ys)) := Lib.hid (hs.below b1.out)
  have HB := Lib.hid hb
  have HW1 := Lib.hid hW1
  clear hW1 hs hb
  go_enter Tryz.func7, Tryz.ntmps7
  go_wp2_with fail
  rw [← HW1.out]
  refine (DrawCheckCode_any v ys W1 HS1.out HB.out).mono ?_; rintro e w5 ⟨gs, po, u, A, n, c, B, rfl, hsl, hl, hpo, hbl⟩
  have K5 := B1.out.below hbl B1.out.lt
  have HK5 := Lib.hid K5
  have HF : Hid (CheckDraw w (.returned (.tuple #[u, .agg #[.slice A n c, .int .i64 po.els]])) ((w5.setCell ⟨w.heap.size, 0, none⟩ (.slice A n c)).setCell ⟨w.heap.size, 1, none⟩ (.int .i64 po.els))) :=
    Lib.hid ⟨gs, po, u, A, n, c, B, rfl, (hsl.apart3 K5 (by decide) (grown_set _ _ _ _)).apart3 (K5.set_ 0 _) (by simp) (grown_set _ _ _ _), hl, (hpo.set_blk K5).set_blk (K5.set_ 0 _), ((below_then b1.out hbl).setCell (p := ⟨w.heap.size, 0, none⟩) (Nat.le_refl _) _).setCell (p := ⟨w.heap.size, 1, none⟩) (Nat.le_refl _) _⟩
  have x0 := (show _ = some (Value.slice none 0 0) from HK5.out.cell 0); have x1 := (show _ = some (Value.int .i64 0) from HK5.out.cell 1); have f0 := HK5.out.frozen 0; have f1 := HK5.out.frozen 1
  clear hsl hl hpo hbl K5 HW1 HB HS1 b1
  go_wp2
  exact bodyPost_ret (v := .tuple #[u, .agg #[.slice A n c, .int .i64 po.els]]) (by simp [results, Tryz.results7, go_sem, x0, x1]) rfl HF.out
end Go.Proofs.YteflnpejhhkchaaGreatDoor
