/- spec's check in the rules: whatever it comes to. -/
import Derived.Test.YtnlhnnidbppciaaGreatDoorChkS4
import Derived.Test.YtnlhnnidbppciaaGreatDoorChkS5
namespace Go.Proofs.YtnlhnnidbppciaaGreatDoor
open Go.RowKit
set_option linter.unusedSimpArgs false
set_option linter.unusedVariables false

theorem looksOf_len {r : Rl} (h : RlW r) : (looksOf r).length ≤ 200 := by
  have h1 := rangeL_len r.low r.high
  have h2 := flat_tests_len r.tests
  have h3 := h.2.2.1
  unfold looksOf
  rw [List.length_append]
  omega
theorem looksOf_word {r : Rl} (h : RlW r) : ∀ x ∈ looksOf r, (0 ≤ x.1.value ∧ x.1.value ≤ 4294967295) ∧ (¬ Never r → x.1.op = 1 ∨ x.1.op = 3) := by
  obtain ⟨⟨l0, l1⟩, ⟨h0, h1⟩, hl, ht⟩ := h
  intro x hx
  unfold looksOf at hx
  rcases List.mem_append.1 hx with hx | hx
  · unfold rangeL at hx
    split at hx
    · rw [List.mem_singleton] at hx; subst hx; exact ⟨⟨l0, l1⟩, fun _ => .inl rfl⟩
    · rcases List.mem_append.1 hx with hx | hx
      · split at hx
        · rw [List.mem_singleton] at hx; subst hx; exact ⟨⟨by show 0 ≤ r.low - 1; omega, by show r.low - 1 ≤ _; omega⟩, fun _ => .inr rfl⟩
        · cases hx
      · split at hx
        · rw [List.mem_singleton] at hx; subst hx; exact ⟨⟨h0, h1⟩, fun _ => .inr rfl⟩
        · cases hx
  · obtain ⟨t, hm, hx⟩ := List.mem_flatMap.1 hx
    obtain ⟨t0, t1, t2⟩ := ht t hm
    unfold testL at hx
    split at hx
    · split at hx
      · cases hx
      · rw [List.mem_singleton] at hx; subst hx; exact ⟨⟨by show 0 ≤ t.value - 1; omega, by show t.value - 1 ≤ _; omega⟩, fun _ => .inr rfl⟩
    · rw [List.mem_singleton] at hx; subst hx; exact ⟨⟨t0, t1⟩, fun _ => by show t.op = 1 ∨ t.op = 3; omega⟩

theorem nextA_true (a : Nat) (m : Bool) : nextA a true m = if m then a else a + 1 := by cases m <;> rfl
theorem nextK_true (k : Nat) (m : Bool) : nextK k true m = if m then k + 1 else 0 := by cases m <;> rfl
theorem nextA_false (a : Nat) (m : Bool) : nextA a false m = if !m then a else a + 1 := by cases m <;> rfl
theorem nextK_false (k : Nat) (m : Bool) : nextK k false m = if !m then k + 1 else 0 := by cases m <;> rfl
section
variable (cg : Nat) (cv : Value) (last : Int) (rs : List Rl)
set_option maxRecDepth 100000 in
set_option maxHeartbeats 8000000 in
theorem sRule_any (rv : Value) (hrw : ∀ r ∈ rs, RlW r) (hrl : rs.length ≤ 1000) : ∀ (n s a k : Nat) (v : Int) (l : List (Lk × Bool)) (lv : Value) (w : World), 6000 ≤ s + n → s ≤ 6000 → a ≤ rs.length → k ≤ 200 →
    Blk w cg 84 #[cv, rv, .int .i64 last, .int .i64 (s : Int), .bool true] → RsN cg w rv rs → LsN cg w lv l → KnW l → l.length ≤ s →
    Calls Tryz.prog 161 #[.pointer (some ⟨cg, 0, none⟩), .int .i64 (a : Int), .int .i64 (k : Int), .int .i64 v, lv] w (ChkPost cg cv rv last (fun s' b => RuleRun rs last a k v l s s' b) w) := by
  intro n
  induction n with
  | zero =>
    intro s a k v l lv w hn hs ha hk hC hR hL hK hl
    exact (sRule_off cg cv rv last s a k v lv true w hC (by omega) (.inl (by omega))).mono fun e w' ⟨h1, s', b, ⟨h2, h3⟩, h4, h5⟩ => ⟨h1, s', b, by rw [h2, h3]; exact .over (by omega), h4, h5⟩
  | succ n ih =>
    intro s a k v l lv w hn hs ha hk hC hR hL hK hl
    by_cases hs6 : 6000 ≤ s
    · exact (sRule_off cg cv rv last s a k v lv true w hC (by omega) (.inl hs6)).mono fun e w' ⟨h1, s', b, ⟨h2, h3⟩, h4, h5⟩ => ⟨h1, s', b, by rw [h2, h3]; exact .over hs6, h4, h5⟩
    have hs7 : s < 6000 := by omega
    have HI := Lib.hid ih
    have HC := Lib.hid hC; have HR := Lib.hid hR; have HL := Lib.hid hL; have HK := Lib.hid hK
    have HRW := Lib.hid hrw
    clear ih hC hR hL hK hs6 hrw
    obtain ⟨A, nr, cr, rfl, hnr, hcr, hcm⟩ := HR.out.form
    have HNR := Lib.hid hnr; clear hnr
    go_enter Tryz.func161, Tryz.ntmps161
    go_wp2_with fail
    refine (sStep_on cg cv _ last s _ HC.out hs7).mono ?_; rintro e w1 ⟨rfl, hb1, hg1⟩
    have e1 := (show _ = some (Value.slice A nr cr) from hb1.cell 1); have e4 := (show _ = some (Value.bool true) from hb1.cell 4); have e2 := (show _ = some (Value.int .i64 last) from hb1.cell 2); have f4 := hb1.frozen 4
    have HB1 := Lib.hid hb1; have HG1 := Lib.hid hg1
    have hcg := hb1.lt
    clear hb1 hg1
    by_cases hal : a < nr
    · obtain ⟨r, hr⟩ : ∃ r, rs[a]? = some r := ⟨_, List.getElem?_eq_getElem (by rw [← HNR.out]; exact hal)⟩
      have hrm := List.mem_of_getElem? hr
      have hrw := HRW.out r hrm
      have HLK := Lib.hid (looksOf_word hrw)
      have HLL := Lib.hid (looksOf_len hrw)
      obtain ⟨css, hs1, hr1⟩ := HR.out.grown HG1.out
      obtain ⟨rb, roff, n', c', A2, n2, c2, e, -, -, -, hbl, hbn, ht2, r0, r1, r2, r3⟩ := rulesN_get hs1 hr1 hr
      obtain ⟨rfl, rfl, rfl⟩ : A = some ⟨rb, roff, none⟩ ∧ nr = n' ∧ cr = c' := by simpa using e
      have HT2 := Lib.hid ht2.sl; have HRR := Lib.hid hr; have HRWr := Lib.hid hrw
      clear hs1 hr1 e ht2 hr hrm hrw
      go_wp2_with fail
      refine (l6Looks_any r _ _ HT2.out HRWr.out).mono ?_; rintro e w2 ⟨v2, bb, rfl, hor, hb2⟩
      have HOR := Lib.hid hor; clear hor
      have hz12 := hb2.size
      have hcg2 : cg < w2.heap.size := by omega
      have hB2 := HB1.out.below hb2 hcg
      have g1 := (show _ = some (Value.slice (some ⟨rb, roff, none⟩) nr cr) from hB2.cell 1); have g4 := (show _ = some (Value.bool true) from hB2.cell 4); have gf4 := hB2.frozen 4
      have s0 := (hb2.cell (p := ⟨rb, roff + a * 4, none⟩) hbl).trans r0
      have HB2 := Lib.hid hB2; have HG2 := Lib.hid (HG1.out.trans (grown_of_below hb2 _))
      clear hB2 r0 r1 r2 r3 e1 e2 e4 f4 HB1
      have HR2 := Lib.hid (HR.out.grown HG2.out); have HL2 := Lib.hid (HL.out.grown HG2.out)
      by_cases hnv : Never r
      · obtain ⟨rfl⟩ : bb = false := by rcases HOR.out with ⟨_, h⟩ | ⟨h, _⟩; exact h; exact absurd hnv h
        have HNV := Lib.hid hnv
        have h9 : Calls Tryz.prog 161 #[.pointer (some ⟨cg, 0, none⟩), .int .i64 ((a : Int) + 1), .int .i64 0, .int .i64 v, lv] w2 (ChkPost cg cv _ last (fun s' b => RuleRun rs last (a + 1) 0 v l (s + 1) s' b) w2) := HI.out (s + 1) (a + 1) 0 v l lv w2 (by omega) (by omega) (by have := HNR.out; omega) (by omega) HB2.out HR2.out HL2.out HK.out (by omega)
        have H9 := Lib.hid h9
        clear hnv h9 HOR
        go_wp2_with fail
        refine H9.out.mono ?_; rintro e w3 ⟨rfl, s', b', hrun, hb3, hg3⟩
        have HF := Lib.hid (show ChkPost cg cv (.slice (some ⟨rb, roff, none⟩) nr cr) last (fun s' b => RuleRun rs last a k v l s s' b) w (.returned (.tuple #[])) w3 from ⟨rfl, s', b', .never hs7 HRR.out HNV.out hrun, hb3, HG2.out.trans hg3⟩)
        clear hrun hb3 hg3
        go_wp2
        go_end0
        exact HF.out
      · obtain ⟨hbt, ho⟩ : bb = true ∧ w2.ownsRow w1.heap.size 253 5 v2 (looksOf r).length (knR (looksOf r)).flatten := by rcases HOR.out with ⟨h, _⟩ | ⟨_, h1, h2⟩; exact absurd h hnv; exact ⟨h1, h2⟩
        subst hbt
        have HNV := Lib.hid hnv
        obtain ⟨A3, n3, c3, rfl, hA3⟩ := SlA.of_own ho (knR_len _) (knR_rows _)
        have hn3 : (looksOf r).length = n3 := by have := hA3.len; rwa [knR_len] at this
        have hc3 := hA3.cap
        have hm3 := hA3.max
        unfold maxLen at hm3
        have HN3 := Lib.hid hn3
        have hn3' : n3 ≤ 200 := by rw [← hn3]; exact HLL.out
        clear hnv HOR ho hn3
        by_cases hkl : k < n3
        · obtain ⟨xb, xo, ⟨⟨qf, qm, qo, qv⟩, m⟩, rfl, hxb, hq, hxc⟩ := kn_get (cg := 0) hA3 hkl
          obtain ⟨x0, x1, x2, x3, x4⟩ := hxc w2 _ (Below.refl _ _) hxb
          simp only at x0 x1 x2 x3 x4
          obtain ⟨hqw, hqo⟩ := HLK.out _ (List.mem_of_getElem? hq)
          simp only at hqw hqo
          have HQO := Lib.hid (hqo HNV.out); have HQ := Lib.hid hq; have HQW := Lib.hid hqw
          have hbX : Below w2.heap.size w2 (w2.alloc (.cells #[.int .i64 qf, .int .i64 qm, .int .i64 qo, .int .i64 qv, .bool m] 253)) := by go_grown
          have HX := Lib.hid (Blk.new w2 253 #[.int .i64 qf, .int .i64 qm, .int .i64 qo, .int .i64 qv, .bool m])
          clear hA3 hxc hq hqo hqw s0
          go_wp2_with fail
          refine (l6Tell_any lv l ⟨qf, qm, qo, qv⟩ m _ (HL2.out.sl.below hbX) HK.out HQO.out).mono ?_; rintro e w3 ⟨rfl, hb3⟩
          have hb23 := below_then hbX hb3
          have hz23 : w2.heap.size < w3.heap.size := by have := hb3.size; simp at this; omega
          have hX3 := HX.out.below hb3 (by simp)
          have y0 := (show _ = some (Value.int .i64 qf) from hX3.cell 0); have y1 := (show _ = some (Value.int .i64 qm) from hX3.cell 1); have y2 := (show _ = some (Value.int .i64 qo) from hX3.cell 2); have y3 := (show _ = some (Value.int .i64 qv) from hX3.cell 3); have y4 := (show _ = some (Value.bool m) from hX3.cell 4)
          have HX3 := Lib.hid hX3
          have HG23 := Lib.hid (grown_of_below hb23 (some cg))
          have HB3 := Lib.hid (HB2.out.below hb23 hcg2); have HR3 := Lib.hid (HR2.out.grown HG23.out); have HL3 := Lib.hid (HL2.out.grown HG23.out); have HG3 := Lib.hid (HG2.out.trans HG23.out)
          clear hX3 hb3 x0 x1 x2 x3 x4 hbX g1 g4 gf4
          have hal' : a < rs.length := by rw [← HNR.out]; exact hal
          have hkl' : k < 200 := by omega
          cases htell : tellO l ⟨qf, qm, qo, qv⟩ with
          | some h =>
            cases h
            · have HTL := Lib.hid htell
              have HTI := Lib.hid (show tellI l ⟨qf, qm, qo, qv⟩ = 0 by simp [tellI, htell])
              clear htell
              rw [HTI.out]
              have h9 := sPart_of cg a k v lv (!m) w3 _ (by omega) (by omega) (fun e w' h => h.1) (HI.out (s + 1) (if !m then a else a + 1) (if !m then k + 1 else 0) v l lv w3 (by omega) (by omega) (by split <;> omega) (by split <;> omega) HB3.out HR3.out HL3.out HK.out (by omega))
              have H9 := Lib.hid h9
              clear h9
              go_wp2_with fail
              refine H9.out.mono ?_; rintro e w4 ⟨rfl, s', b', hrun, hb4, hg4⟩
              rw [← nextA_false, ← nextK_false] at hrun
              have HF := Lib.hid (show ChkPost cg cv (.slice (some ⟨rb, roff, none⟩) nr cr) last (fun s' b => RuleRun rs last a k v l s s' b) w (.returned (.tuple #[])) w4 from ⟨rfl, s', b', .told hs7 HRR.out HNV.out HQ.out HTL.out hrun, hb4, HG3.out.trans hg4⟩)
              clear hrun hb4 hg4
              go_wp2
              go_end0
              exact HF.out
            · have HTL := Lib.hid htell
              have HTI := Lib.hid (show tellI l ⟨qf, qm, qo, qv⟩ = 1 by simp [tellI, htell])
              clear htell
              rw [HTI.out]
              have h9 := sPart_of cg a k v lv m w3 _ (by omega) (by omega) (fun e w' h => h.1) (HI.out (s + 1) (if m then a else a + 1) (if m then k + 1 else 0) v l lv w3 (by omega) (by omega) (by split <;> omega) (by split <;> omega) HB3.out HR3.out HL3.out HK.out (by omega))
              have H9 := Lib.hid h9
              clear h9
              go_wp2_with fail
              refine H9.out.mono ?_; rintro e w4 ⟨rfl, s', b', hrun, hb4, hg4⟩
              rw [← nextA_true, ← nextK_true] at hrun
              have HF := Lib.hid (show ChkPost cg cv (.slice (some ⟨rb, roff, none⟩) nr cr) last (fun s' b => RuleRun rs last a k v l s s' b) w (.returned (.tuple #[])) w4 from ⟨rfl, s', b', .told hs7 HRR.out HNV.out HQ.out HTL.out hrun, hb4, HG3.out.trans hg4⟩)
              clear hrun hb4 hg4
              go_wp2
              go_end0
              exact HF.out
          | none =>
            have HTL := Lib.hid htell
            have HTI := Lib.hid (show tellI l ⟨qf, qm, qo, qv⟩ = -1 by simp [tellI, htell])
            clear htell
            rw [HTI.out]
            obtain ⟨lb, loff, ln, lc, rfl, hla, hlb⟩ := HL3.out
            have hll : l.length = ln := by have := hla.len; rwa [knR_len] at this
            have HLA := Lib.hid hla
            have hln : ln ≤ 100000 := by omega
            have HLLn := Lib.hid hll
            clear hla hll
            go_wp2_with fail
            refine (l6With_any lb loff ln lc l ⟨qf, qm, qo, qv⟩ m true _ HLA.out hln).mono ?_; rintro e w4 ⟨v4, rfl, ho4, hb4⟩
            have hz34 := hb4.size
            have HG34 := Lib.hid (grown_of_below hb4 (some cg))
            have hL4 := LsN.of_own (cg := cg) ho4 (by rw [List.length_append, HLLn.out]; rfl) (by omega)
            have hX4 := HX3.out.below hb4 hz23
            have y0 := (show _ = some (Value.int .i64 qf) from hX4.cell 0); have y1 := (show _ = some (Value.int .i64 qm) from hX4.cell 1); have y2 := (show _ = some (Value.int .i64 qo) from hX4.cell 2); have y3 := (show _ = some (Value.int .i64 qv) from hX4.cell 3); have y4 := (show _ = some (Value.bool m) from hX4.cell 4)
            have h9 := sPart_of cg a k v v4 m w4 _ (by omega) (by omega) (fun e w' h => h.1) (HI.out (s + 1) (if m then a else a + 1) (if m then k + 1 else 0) v (l ++ [(⟨qf, qm, qo, qv⟩, true)]) v4 w4 (by omega) (by omega) (by split <;> omega) (by split <;> omega) (HB3.out.same hb4) (HR3.out.grown HG34.out) hL4 (HK.out.snoc HQW.out) (by rw [List.length_append]; simp; omega))
            have H9 := Lib.hid h9
            have HX4 := Lib.hid hX4
            have hcg4 : cg < w4.heap.size := by omega
            have HB4 := Lib.hid (HB3.out.same hb4)
            clear h9 ho4 hb4 hL4 hX4
            go_wp2_with fail
            refine H9.out.mono ?_; rintro e w5 ⟨rfl, s1, b1, hrun1, hb5, hg5⟩
            have hz45 := hg5.size
            have HG45 := Lib.hid hg5
            have hX5 := HX4.out.grown hg5 (by simp; omega)
            have y0 := (show _ = some (Value.int .i64 qf) from hX5.cell 0); have y1 := (show _ = some (Value.int .i64 qm) from hX5.cell 1); have y2 := (show _ = some (Value.int .i64 qo) from hX5.cell 2); have y3 := (show _ = some (Value.int .i64 qv) from hX5.cell 3); have y4 := (show _ = some (Value.bool m) from hX5.cell 4)
            have HX5 := Lib.hid hX5; have HB5 := Lib.hid hb5; have HRUN1 := Lib.hid hrun1
            have HLA5 := Lib.hid ((HLA.out.grown HG34.out (fun b' off' e' => by cases e'; exact hlb)).grown HG45.out (fun b' off' e' => by cases e'; exact hlb))
            clear hX5 hb5 hrun1 hg5
            go_wp2_with fail
            refine (l6With_any lb loff ln lc l ⟨qf, qm, qo, qv⟩ m false _ HLA5.out hln).mono ?_; rintro e w6 ⟨v6, rfl, ho6, hb6⟩
            have HG56 := Lib.hid (grown_of_below hb6 (some cg))
            have hL6 := LsN.of_own (cg := cg) ho6 (by rw [List.length_append, HLLn.out]; rfl) (by omega)
            have hX6 := HX5.out.same hb6
            have y0 := (show _ = some (Value.int .i64 qf) from hX6.cell 0); have y1 := (show _ = some (Value.int .i64 qm) from hX6.cell 1); have y2 := (show _ = some (Value.int .i64 qo) from hX6.cell 2); have y3 := (show _ = some (Value.int .i64 qv) from hX6.cell 3); have y4 := (show _ = some (Value.bool m) from hX6.cell 4)
            have hB6 := HB5.out.same hb6
            have hbd := HRUN1.out.bound (by omega)
            have HGA := Lib.hid ((HG3.out.trans HG34.out).trans (HG45.out.trans HG56.out))
            rw [← nextA_true, ← nextK_true] at HRUN1
            cases b1
            · have h9 := sPart_of cg a k v v6 (!m) w6 _ (by omega) (by omega) (fun e w' h => h.1) (sRule_off cg cv (.slice (some ⟨rb, roff, none⟩) nr cr) last s1 (if !m then a else a + 1) (if !m then k + 1 else 0) v v6 false w6 hB6 (by omega) (.inr rfl))
              have H9 := Lib.hid h9
              clear h9 ho6 hb6 hL6 hX6 hB6 hbd
              go_wp2_with fail
              refine H9.out.mono ?_; rintro e w7 ⟨rfl, s', b', ⟨rfl, rfl⟩, hb7, hg7⟩
              have HF := Lib.hid (show ChkPost cg cv (.slice (some ⟨rb, roff, none⟩) nr cr) last (fun s' b => RuleRun rs last a k v l s s' b) w (.returned (.tuple #[])) w7 from ⟨rfl, s1 + 1, false, .stop hs7 HRR.out HNV.out HQ.out HTL.out HRUN1.out, hb7, HGA.out.trans hg7⟩)
              clear hb7 hg7
              go_wp2
              go_end0
              exact HF.out
            · have h9 := sPart_of cg a k v v6 (!m) w6 _ (by omega) (by omega) (fun e w' h => h.1) (HI.out s1 (if !m then a else a + 1) (if !m then k + 1 else 0) v (l ++ [(⟨qf, qm, qo, qv⟩, false)]) v6 w6 (by omega) (hbd.2.2 rfl) (by split <;> omega) (by split <;> omega) hB6 (HR3.out.grown (HG34.out.trans (HG45.out.trans HG56.out))) hL6 (HK.out.snoc HQW.out) (by rw [List.length_append]; simp; omega))
              have H9 := Lib.hid h9
              clear h9 ho6 hb6 hL6 hX6 hB6 hbd
              go_wp2_with fail
              refine H9.out.mono ?_; rintro e w7 ⟨rfl, s', b', hrun, hb7, hg7⟩
              rw [← nextA_false, ← nextK_false] at hrun
              have HF := Lib.hid (show ChkPost cg cv (.slice (some ⟨rb, roff, none⟩) nr cr) last (fun s' b => RuleRun rs last a k v l s s' b) w (.returned (.tuple #[])) w7 from ⟨rfl, s', b', .both hs7 HRR.out HNV.out HQ.out HTL.out HRUN1.out hrun, hb7, HGA.out.trans hg7⟩)
              clear hrun hb7 hg7
              go_wp2
              go_end0
              exact HF.out
        · have HKL := Lib.hid (show (looksOf r).length ≤ k by rw [HN3.out]; omega)
          clear hA3
          by_cases hv : v = r.verdict
          · have HX := Lib.hid (show decide (v = r.verdict) = true by simp [hv])
            have hve : (v == r.verdict) = true := by simp [hv]
            clear hv
            go_wp2
            go_end0
            exact ⟨rfl, s + 1, true, by have := RuleRun.fits (rs := rs) (last := last) (k := k) (v := v) (l := l) hs7 HRR.out HNV.out HKL.out; rw [HX.out] at this; exact this, HB2.out.set_ 4 (.bool true), HG2.out.trans (grown_set _ _ _ _)⟩
          · have HX := Lib.hid (show decide (v = r.verdict) = false by simp [hv])
            have hve : (v == r.verdict) = false := by simp [hv]
            go_wp2
            go_end0
            exact ⟨rfl, s + 1, false, by have := RuleRun.fits (rs := rs) (last := last) (k := k) (v := v) (l := l) hs7 HRR.out HNV.out HKL.out; rw [HX.out] at this; exact this, HB2.out.set_ 4 (.bool false), HG2.out.trans (grown_set _ _ _ _)⟩
    · have HA := Lib.hid (show rs.length ≤ a by rw [← HNR.out]; omega)
      by_cases hv : v = last
      · have HX := Lib.hid (show decide (v = last) = true by simp [hv])
        subst hv
        go_wp2
        go_end0
        exact ⟨rfl, s + 1, true, by have := RuleRun.done (rs := rs) (last := v) (k := k) (v := v) (l := l) hs7 HA.out; simpa using this, HB1.out.set_ 4 (.bool true), HG1.out.trans (grown_set _ _ _ _)⟩
      · have HX := Lib.hid (show decide (v = last) = false by simp [hv])
        have hve : (v == last) = false := by simp [hv]
        go_wp2
        go_end0
        exact ⟨rfl, s + 1, false, by have := RuleRun.done (rs := rs) (last := last) (k := k) (v := v) (l := l) hs7 HA.out; rw [HX.out] at this; exact this, HB1.out.set_ 4 (.bool false), HG1.out.trans (grown_set _ _ _ _)⟩
end
end Go.Proofs.YtnlhnnidbppciaaGreatDoor
