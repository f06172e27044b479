/- spec's check in a program. -/
import Derived.Test.YtnlhnnidbppciaaGreatDoorChkS6
namespace Go.Proofs.YtnlhnnidbppciaaGreatDoor
open Go.RowKit
set_option linter.unusedSimpArgs false
set_option linter.unusedVariables false

theorem bits_zero (k : Int) : Go.bits BinOp.and IntKind.i64 0 k = 0 := by
  have h : BitVec.ofInt 64 0 &&& BitVec.ofInt 64 k = 0#64 := BitVec.zero_and
  show IntKind.i64.wrap (((BitVec.ofInt 64 0 &&& BitVec.ofInt 64 k).toNat : Nat) : Int) = 0
  rw [h]
  rfl
/-- What is loaded: nothing is field -1 in the one text, 0 in the other. -/
def FOk (fs f m : Int) : Prop := (fs = f ∧ 0 ≤ f) ∨ (fs = -1 ∧ f = 0 ∧ m = 0)
theorem FOk.mask {fs f m k : Int} (h : FOk fs f m) : FOk fs f (Go.bits BinOp.and IntKind.i64 m k) := by
  rcases h with h | ⟨h1, h2, h3⟩
  · exact .inl h
  · subst h3; exact .inr ⟨h1, h2, bits_zero k⟩
theorem FOk.zero {fs f m : Int} (h : FOk fs f m) (hz : fs < 0 ∨ m = 0) : m = 0 := by
  rcases h with h | ⟨h1, h2, h3⟩
  · omega
  · exact h3
/-- A place of a program that is ok, in numbers. -/
theorem place_at {g : List In4} (hg : waysOk g) {a : Nat} {x : In4} (hx : g[a]? = some x) : ∃ kn yn nn : Nat, x = ⟨x.op, kn, yn, nn⟩ ∧ kn ≤ 4294967295 ∧ yn ≤ 6 ∧ nn ≤ 6 ∧ a < g.length ∧ (1 ≤ x.op ∧ x.op ≤ 6) ∧
    (x.op = 1 ∨ x.op = 2 → a + 1 < g.length) ∧ (x.op = 3 ∨ x.op = 4 → a + 1 + yn < g.length ∧ a + 1 + nn < g.length) ∧ (x.op = 5 → a + 1 + kn < g.length) := by
  have hi := (List.getElem?_eq_some_iff.1 hx).1
  have ho := hg.2.2 a x hi hx
  have hl := hg.2.1
  obtain ⟨op, k, yes, no⟩ := x
  unfold insOk at ho
  simp only at ho
  have h1 : 0 ≤ k := by omega
  have h2 : 0 ≤ yes := by omega
  have h3 : 0 ≤ no := by omega
  refine ⟨k.toNat, yes.toNat, no.toNat, by rw [Int.toNat_of_nonneg h1, Int.toNat_of_nonneg h2, Int.toNat_of_nonneg h3], by omega, by omega, by omega, hi, by show 1 ≤ op ∧ op ≤ 6; omega, ?_, ?_, ?_⟩
  · show op = 1 ∨ op = 2 → _; omega
  · show op = 3 ∨ op = 4 → _; omega
  · show op = 5 → _; omega

section
variable (cg : Nat) (cv rv : Value) (last : Int) (rs : List Rl) (g : List In4)
/-- What is shown of a check in a program, up to so many steps. -/
def RunIH (n : Nat) : Prop := ∀ (s a : Nat) (fs f m : Int) (l : List (Lk × Bool)) (lv : Value) (w : World), 6000 ≤ s + n → s ≤ 6000 → a < g.length → FOk fs f m →
    Blk w cg 84 #[cv, rv, .int .i64 last, .int .i64 (s : Int), .bool true] → SlN cg w 4 cv (insR g) → RsN cg w rv rs → LsN cg w lv l → KnW l → l.length ≤ s →
    Calls Tryz.prog 113 #[.pointer (some ⟨cg, 0, none⟩), .int .i64 (a : Int), .int .i64 fs, .int .i64 m, .int .i64 0, lv] w (ChkPost cg cv rv last (fun s' b => WayRun g rs last a f m l s s' b) w)

set_option maxHeartbeats 1000000 in
theorem sRun_off (s a : Nat) (fs m : Int) (lv : Value) (ok : Bool) (w : World) (h : Blk w cg 84 #[cv, rv, .int .i64 last, .int .i64 (s : Int), .bool ok]) (hs : s ≤ 20000) (ho : 6000 ≤ s ∨ ok = false) :
    Calls Tryz.prog 113 #[.pointer (some ⟨cg, 0, none⟩), .int .i64 (a : Int), .int .i64 fs, .int .i64 m, .int .i64 0, lv] w (ChkPost cg cv rv last (fun s' b => s' = s + 1 ∧ b = false) w) := by
  have H := Lib.hid h; have HO := Lib.hid ho; clear h ho
  go_enter Tryz.func113, Tryz.ntmps113
  go_wp2_with fail
  refine (sStep_off cg cv rv last s ok _ H.out hs HO.out).mono ?_; rintro e w1 ⟨rfl, hb, hg⟩
  have HB := Lib.hid hb; clear hb
  go_wp2
  go_end0
  exact ⟨rfl, s + 1, false, ⟨rfl, rfl⟩, HB.out, hg⟩
set_option maxRecDepth 100000 in
set_option maxHeartbeats 8000000 in
/-- Behind a step, at a look: both ways, if it is not known. -/
theorem sLook_of (hg : waysOk g) (n : Nat) (ih : RunIH cg cv rv last rs g n) (s a : Nat) (fs f m : Int) (l : List (Lk × Bool)) (lv : Value) (w : World) (x : In4) (hn : 6000 ≤ s + 1 + n) (hs : s < 6000) (hx : g[a]? = some x) (hop : x.op = 3 ∨ x.op = 4) (hf : FOk fs f m)
    (hC : Blk w cg 84 #[cv, rv, .int .i64 last, .int .i64 ((s + 1 : Nat) : Int), .bool true]) (hV : SlN cg w 4 cv (insR g)) (hR : RsN cg w rv rs) (hL : LsN cg w lv l) (hK : KnW l) (hl : l.length ≤ s) :
    Calls Tryz.prog 162 #[.pointer (some ⟨cg, 0, none⟩), .int .i64 (a : Int), .int .i64 fs, .int .i64 m, .int .i64 0, lv] w (ChkPost cg cv rv last (fun s' b => WayRun g rs last a f m l s s' b) w) := by
  obtain ⟨kn, yn, nn, hxe, hkn, hyn, hnn, hag, hop1, h12, h34, h5⟩ := place_at hg hx
  have hgl := hg.2.1
  have hlk := h34 hop
  obtain ⟨op, k, yes, no⟩ := x
  simp only [In4.mk.injEq, true_and] at hxe
  obtain ⟨rfl, rfl, rfl⟩ := hxe
  simp only at hop
  have HI := Lib.hid ih; have HC := Lib.hid hC; have HV := Lib.hid hV; have HR := Lib.hid hR; have HL := Lib.hid hL; have HK := Lib.hid hK; have HX := Lib.hid hx; have HF := Lib.hid hf
  have hcg := hC.lt
  obtain ⟨A, gn, gc, rfl, hSA, hne⟩ := hV
  have hgn : g.length = gn := by have := hSA.len; rwa [insR_len] at this
  have hgc := hSA.cap
  have hgm := hSA.max
  unfold maxLen at hgm
  have HGN := Lib.hid hgn
  obtain ⟨cb, coff, x', rfl, hcb, hx', hcell⟩ := ins_get hSA (k := a) (by omega)
  rw [hx] at hx'
  obtain rfl := Option.some.inj hx'
  obtain ⟨c0, c1, c2, c3⟩ := hcell w _ (Below.refl _ _) hcb
  simp only at c0 c1 c2 c3
  have e0 := (show _ = some (Value.slice (some ⟨cb, coff, none⟩) gn gc) from hC.cell 0)
  have han : a < gn := by omega
  have hfin : ∀ (yn : Nat) (hy : a + 1 + yn < g.length) (s1 : Nat) (l1 : List (Lk × Bool)) (lv1 : Value) (W : World), 6000 ≤ s1 + n → s1 ≤ 6000 → Blk W cg 84 #[.slice (some ⟨cb, coff, none⟩) gn gc, rv, .int .i64 last, .int .i64 (s1 : Int), .bool true] → w.grownBy W (some cg) → LsN cg W lv1 l1 → KnW l1 → l1.length ≤ s1 →
      Calls Tryz.prog 113 #[.pointer (some ⟨cg, 0, none⟩), .int .i64 ((a : Int) + 1 + (yn : Int)), .int .i64 fs, .int .i64 m, .int .i64 0, lv1] W (ChkPost cg (.slice (some ⟨cb, coff, none⟩) gn gc) rv last (fun s' b => WayRun g rs last (a + 1 + yn) f m l1 s1 s' b) W) := fun yn hy s1 l1 lv1 W h1 h2 h3 h4 h5 h6 h7 =>
    HI.out s1 (a + 1 + yn) fs f m l1 lv1 W h1 h2 hy HF.out h3 (HV.out.grown h4) (HR.out.grown h4) h5 h6 h7
  have HFIN := Lib.hid hfin
  clear ih hC hR hL hK hx hf hSA hne hgn hcell hx' hfin h12 h34 h5 hop1 HI
  by_cases hz : fs < 0 ∨ m = 0
  · obtain rfl : m = 0 := HF.out.zero hz
    clear hz
    rcases hop with rfl | rfl
    · by_cases hk0 : kn = 0
      · have hk2 : ((0 : Int) == (kn : Int)) = true := by simp [hk0]
        have hzb : wayOf ⟨3, (kn : Int), (yn : Int), (nn : Int)⟩ (zeroB ⟨3, (kn : Int), (yn : Int), (nn : Int)⟩) = yn := by simp [wayOf, zeroB, hk0]
        clear hk0
        have HZB := Lib.hid hzb
        have h9 := HFIN.out yn hlk.1 (s + 1) l lv (w.alloc (.cells #[.int .i64 3, .int .i64 (kn : Int), .int .i64 (yn : Int), .int .i64 (nn : Int)] 72)) (by omega) (by omega) (HC.out.alloc _) (grown_of_below (by go_grown) _) (HL.out.grown (grown_of_below (by go_grown) _)) HK.out (by omega)
        have H9 := Lib.hid h9
        clear hzb h9 HC
        by_cases hfs : fs < 0
        all_goals
          go_enter Tryz.func162, Tryz.ntmps162
          go_wp2_with fail
          refine H9.out.mono ?_; rintro e w2 ⟨rfl, s', b', hrun, hb2, hg2⟩
          have HFF := Lib.hid (show ChkPost cg (.slice (some ⟨cb, coff, none⟩) gn gc) rv last (fun s' b => WayRun g rs last a f 0 l s s' b) w (.returned (.tuple #[])) w2 from ⟨rfl, s', b', .zero hs HX.out (by simp) rfl (by rw [HZB.out]; exact hrun), hb2, (grown_of_below (show Below w.heap.size w _ by go_grown) _).trans hg2⟩)
          clear hrun hb2 hg2
          go_wp2
          go_end0
          exact HFF.out
      · have hk1 : ¬ (0 : Int) = (kn : Int) := by omega
        have hk2 : ((0 : Int) == (kn : Int)) = false := by simp; omega
        have hzb : wayOf ⟨3, (kn : Int), (yn : Int), (nn : Int)⟩ (zeroB ⟨3, (kn : Int), (yn : Int), (nn : Int)⟩) = nn := by simp [wayOf, zeroB, hk0]
        have HZB := Lib.hid hzb
        have h9 := HFIN.out nn hlk.2 (s + 1) l lv (w.alloc (.cells #[.int .i64 3, .int .i64 (kn : Int), .int .i64 (yn : Int), .int .i64 (nn : Int)] 72)) (by omega) (by omega) (HC.out.alloc _) (grown_of_below (by go_grown) _) (HL.out.grown (grown_of_below (by go_grown) _)) HK.out (by omega)
        have H9 := Lib.hid h9
        clear hzb h9 HC
        by_cases hfs : fs < 0
        all_goals
          go_enter Tryz.func162, Tryz.ntmps162
          go_wp2_with fail
          refine H9.out.mono ?_; rintro e w2 ⟨rfl, s', b', hrun, hb2, hg2⟩
          have HFF := Lib.hid (show ChkPost cg (.slice (some ⟨cb, coff, none⟩) gn gc) rv last (fun s' b => WayRun g rs last a f 0 l s s' b) w (.returned (.tuple #[])) w2 from ⟨rfl, s', b', .zero hs HX.out (by simp) rfl (by rw [HZB.out]; exact hrun), hb2, (grown_of_below (show Below w.heap.size w _ by go_grown) _).trans hg2⟩)
          clear hrun hb2 hg2
          go_wp2
          go_end0
          exact HFF.out
    · have hk1 : ¬ (kn : Int) < 0 := by omega
      have hzb : wayOf ⟨4, (kn : Int), (yn : Int), (nn : Int)⟩ (zeroB ⟨4, (kn : Int), (yn : Int), (nn : Int)⟩) = nn := by simp [wayOf, zeroB]; omega
      have HZB := Lib.hid hzb
      have h9 := HFIN.out nn hlk.2 (s + 1) l lv (w.alloc (.cells #[.int .i64 4, .int .i64 (kn : Int), .int .i64 (yn : Int), .int .i64 (nn : Int)] 72)) (by omega) (by omega) (HC.out.alloc _) (grown_of_below (by go_grown) _) (HL.out.grown (grown_of_below (by go_grown) _)) HK.out (by omega)
      have H9 := Lib.hid h9
      clear hzb h9 HC
      by_cases hfs : fs < 0
      all_goals
        go_enter Tryz.func162, Tryz.ntmps162
        go_wp2_with fail
        refine H9.out.mono ?_; rintro e w2 ⟨rfl, s', b', hrun, hb2, hg2⟩
        have HFF := Lib.hid (show ChkPost cg (.slice (some ⟨cb, coff, none⟩) gn gc) rv last (fun s' b => WayRun g rs last a f 0 l s s' b) w (.returned (.tuple #[])) w2 from ⟨rfl, s', b', .zero hs HX.out (by simp) rfl (by rw [HZB.out]; exact hrun), hb2, (grown_of_below (show Below w.heap.size w _ by go_grown) _).trans hg2⟩)
        clear hrun hb2 hg2
        go_wp2
        go_end0
        exact HFF.out
  · have hff : fs = f := by rcases HF.out with h | h; exact h.1; exact absurd (.inl (by omega)) hz
    have hfs : ¬ fs < 0 := fun h => hz (.inl h)
    have hm0 : ¬ m = 0 := fun h => hz (.inr h)
    obtain rfl : f = fs := hff.symm
    have HM := Lib.hid hm0
    clear hz
    rcases hop with rfl | rfl
    · skip
      obtain ⟨WX, hWX⟩ : ∃ WX, WX = w.alloc (.cells #[.int .i64 3, .int .i64 (kn : Int), .int .i64 (yn : Int), .int .i64 (nn : Int)] 72) := ⟨_, rfl⟩
      have hIX : Blk WX w.heap.size 72 #[.int .i64 3, .int .i64 (kn : Int), .int .i64 (yn : Int), .int .i64 (nn : Int)] := by rw [hWX]; exact Blk.new _ _ _
      have hzX : WX.heap.size = w.heap.size + 1 := by rw [hWX]; simp
      have hbX : Below w.heap.size w WX := by rw [hWX]; go_grown
      have hQX := Blk.new WX 253 #[.int .i64 f, .int .i64 m, .int .i64 1, .int .i64 (kn : Int), .bool false]
      have hbQ : Below WX.heap.size WX (WX.alloc (.cells #[.int .i64 f, .int .i64 m, .int .i64 1, .int .i64 (kn : Int), .bool false] 253)) := by go_grown
      rw [hzX] at hQX hbQ
      rw [hWX] at hQX hbQ hIX hbX
      have hIQ := hIX.alloc (.cells #[.int .i64 f, .int .i64 m, .int .i64 1, .int .i64 (kn : Int), .bool false] 253)
      have hbWQ := hbX.trans (hbQ.mono (by omega))
      have HIQ := Lib.hid hIQ; have HQX := Lib.hid hQX
      clear hWX hIX hzX hbX hQX hbQ hIQ
      have hsp := HL.out.sl.below hbWQ
      have HSP := Lib.hid hsp; have HBW := Lib.hid hbWQ
      clear hsp hbWQ
      go_enter Tryz.func162, Tryz.ntmps162
      go_wp2_with fail
      refine (l6Tell_any lv l ⟨f, m, 1, (kn : Int)⟩ false _ HSP.out HK.out (by simp)).mono ?_; rintro e w3 ⟨rfl, hb3⟩
      have hzz : w.heap.size + 1 < w3.heap.size := by have := hb3.size; simp at this; omega
      have hI3 := HIQ.out.below hb3 (by simp; omega); have hQ3 := HQX.out.below hb3 (by simp)
      have y0 := (show _ = some (Value.int .i64 f) from hQ3.cell 0); have y1 := (show _ = some (Value.int .i64 m) from hQ3.cell 1); have y2 := (show _ = some (Value.int .i64 1) from hQ3.cell 2); have y3 := (show _ = some (Value.int .i64 (kn : Int)) from hQ3.cell 3); have y4 := (show _ = some (Value.bool false) from hQ3.cell 4)
      have z0 := (show _ = some (Value.int .i64 3) from hI3.cell 0); have z1 := (show _ = some (Value.int .i64 (kn : Int)) from hI3.cell 1); have z2 := (show _ = some (Value.int .i64 (yn : Int)) from hI3.cell 2); have z3 := (show _ = some (Value.int .i64 (nn : Int)) from hI3.cell 3)
      have HI3 := Lib.hid hI3; have HQ3 := Lib.hid hQ3
      have hb03 := below_then HBW.out hb3
      have HG3 := Lib.hid (grown_of_below hb03 (some cg))
      have HB3 := Lib.hid (HC.out.same hb03); have HL3 := Lib.hid (HL.out.grown HG3.out)
      clear hI3 hQ3 hb3 hb03 HC HBW HSP
      cases htell : tellO l ⟨f, m, 1, (kn : Int)⟩ with
      | some h =>
        cases h
        · have HTL := Lib.hid htell
          have HTI := Lib.hid (show tellI l ⟨f, m, 1, (kn : Int)⟩ = 0 by simp [tellI, htell])
          clear htell
          rw [HTI.out]
          have H9 := Lib.hid (HFIN.out nn hlk.2 (s + 1) l lv w3 (by omega) (by omega) HB3.out HG3.out HL3.out HK.out (by omega))
          go_wp2_with fail
          refine H9.out.mono ?_; rintro e w4 ⟨rfl, s', b', hrun, hb4, hg4⟩
          have HFF := Lib.hid (show ChkPost cg (.slice (some ⟨cb, coff, none⟩) gn gc) rv last (fun s' b => WayRun g rs last a f m l s s' b) w (.returned (.tuple #[])) w4 from ⟨rfl, s', b', .told hs HX.out (by simp) HM.out HTL.out hrun, hb4, HG3.out.trans hg4⟩)
          clear hrun hb4 hg4
          go_wp2
          go_end0
          exact HFF.out
        · have HTL := Lib.hid htell
          have HTI := Lib.hid (show tellI l ⟨f, m, 1, (kn : Int)⟩ = 1 by simp [tellI, htell])
          clear htell
          rw [HTI.out]
          have H9 := Lib.hid (HFIN.out yn hlk.1 (s + 1) l lv w3 (by omega) (by omega) HB3.out HG3.out HL3.out HK.out (by omega))
          go_wp2_with fail
          refine H9.out.mono ?_; rintro e w4 ⟨rfl, s', b', hrun, hb4, hg4⟩
          have HFF := Lib.hid (show ChkPost cg (.slice (some ⟨cb, coff, none⟩) gn gc) rv last (fun s' b => WayRun g rs last a f m l s s' b) w (.returned (.tuple #[])) w4 from ⟨rfl, s', b', .told hs HX.out (by simp) HM.out HTL.out hrun, hb4, HG3.out.trans hg4⟩)
          clear hrun hb4 hg4
          go_wp2
          go_end0
          exact HFF.out
      | none =>
        have HTL := Lib.hid htell
        have HTI := Lib.hid (show tellI l ⟨f, m, 1, (kn : Int)⟩ = -1 by simp [tellI, htell])
        clear htell
        rw [HTI.out]
        obtain ⟨lb, loff, ln, lc, rfl, hla, hlb⟩ := HL3.out
        have hll : l.length = ln := by have := hla.len; rwa [knR_len] at this
        have HLA := Lib.hid hla
        have hln : ln ≤ 100000 := by omega
        have HLLn := Lib.hid hll
        clear hla hll
        go_wp2_with fail
        refine (l6With_any lb loff ln lc l ⟨f, m, 1, (kn : Int)⟩ false true _ HLA.out hln).mono ?_; rintro e w4 ⟨v4, rfl, ho4, hb4⟩
        have hz34 := hb4.size
        have HG34 := Lib.hid (grown_of_below hb4 (some cg))
        have hL4 := LsN.of_own (cg := cg) ho4 (by rw [List.length_append, HLLn.out]; rfl) (by omega)
        have hQ4 := HQ3.out.below hb4 (by omega); have hI4 := HI3.out.below hb4 (by omega)
        have y0 := (show _ = some (Value.int .i64 f) from hQ4.cell 0); have y1 := (show _ = some (Value.int .i64 m) from hQ4.cell 1); have y2 := (show _ = some (Value.int .i64 1) from hQ4.cell 2); have y3 := (show _ = some (Value.int .i64 (kn : Int)) from hQ4.cell 3); have y4 := (show _ = some (Value.bool false) from hQ4.cell 4)
        have z0 := (show _ = some (Value.int .i64 3) from hI4.cell 0); have z1 := (show _ = some (Value.int .i64 (kn : Int)) from hI4.cell 1); have z2 := (show _ = some (Value.int .i64 (yn : Int)) from hI4.cell 2); have z3 := (show _ = some (Value.int .i64 (nn : Int)) from hI4.cell 3)
        have h9 := HFIN.out yn hlk.1 (s + 1) (l ++ [(⟨f, m, 1, (kn : Int)⟩, true)]) v4 w4 (by omega) (by omega) (HB3.out.same hb4) (HG3.out.trans HG34.out) hL4 (HK.out.snoc ⟨by show (0 : Int) ≤ (kn : Int); omega, by show (kn : Int) ≤ _; omega⟩) (by rw [List.length_append]; simp; omega)
        have H9 := Lib.hid h9
        have HQ4 := Lib.hid hQ4; have HI4 := Lib.hid hI4
        clear h9 ho4 hb4 hL4 hQ4 hI4
        go_wp2_with fail
        refine H9.out.mono ?_; rintro e w5 ⟨rfl, s1, b1, hrun1, hb5, hg5⟩
        have hz45 := hg5.size
        have HG45 := Lib.hid hg5
        have hQ5 := HQ4.out.grown hg5 (by simp; omega); have hI5 := HI4.out.grown hg5 (by simp; omega)
        have y0 := (show _ = some (Value.int .i64 f) from hQ5.cell 0); have y1 := (show _ = some (Value.int .i64 m) from hQ5.cell 1); have y2 := (show _ = some (Value.int .i64 1) from hQ5.cell 2); have y3 := (show _ = some (Value.int .i64 (kn : Int)) from hQ5.cell 3); have y4 := (show _ = some (Value.bool false) from hQ5.cell 4)
        have z0 := (show _ = some (Value.int .i64 3) from hI5.cell 0); have z1 := (show _ = some (Value.int .i64 (kn : Int)) from hI5.cell 1); have z2 := (show _ = some (Value.int .i64 (yn : Int)) from hI5.cell 2); have z3 := (show _ = some (Value.int .i64 (nn : Int)) from hI5.cell 3)
        have HQ5 := Lib.hid hQ5; have HI5 := Lib.hid hI5; have HB5 := Lib.hid hb5; have HRUN1 := Lib.hid hrun1
        have HLA5 := Lib.hid ((HLA.out.grown HG34.out (fun b' off' e' => by cases e'; exact hlb)).grown HG45.out (fun b' off' e' => by cases e'; exact hlb))
        clear hQ5 hI5 hb5 hrun1 hg5
        go_wp2_with fail
        refine (l6With_any lb loff ln lc l ⟨f, m, 1, (kn : Int)⟩ false false _ HLA5.out hln).mono ?_; rintro e w6 ⟨v6, rfl, ho6, hb6⟩
        have HG56 := Lib.hid (grown_of_below hb6 (some cg))
        have hL6 := LsN.of_own (cg := cg) ho6 (by rw [List.length_append, HLLn.out]; rfl) (by omega)
        have hQ6 := HQ5.out.same hb6; have hI6 := HI5.out.same hb6
        have y0 := (show _ = some (Value.int .i64 f) from hQ6.cell 0); have y1 := (show _ = some (Value.int .i64 m) from hQ6.cell 1); have y2 := (show _ = some (Value.int .i64 1) from hQ6.cell 2); have y3 := (show _ = some (Value.int .i64 (kn : Int)) from hQ6.cell 3); have y4 := (show _ = some (Value.bool false) from hQ6.cell 4)
        have z0 := (show _ = some (Value.int .i64 3) from hI6.cell 0); have z1 := (show _ = some (Value.int .i64 (kn : Int)) from hI6.cell 1); have z2 := (show _ = some (Value.int .i64 (yn : Int)) from hI6.cell 2); have z3 := (show _ = some (Value.int .i64 (nn : Int)) from hI6.cell 3)
        have hB6 := HB5.out.same hb6
        have hbd := HRUN1.out.bound (by omega)
        have HGA := Lib.hid ((HG3.out.trans HG34.out).trans (HG45.out.trans HG56.out))
        cases b1
        · have h9 : Calls Tryz.prog 113 #[.pointer (some ⟨cg, 0, none⟩), .int .i64 ((a : Int) + 1 + (nn : Int)), .int .i64 f, .int .i64 m, .int .i64 0, v6] w6 (ChkPost cg (.slice (some ⟨cb, coff, none⟩) gn gc) rv last (fun s' b => s' = s1 + 1 ∧ b = false) w6) := sRun_off cg (.slice (some ⟨cb, coff, none⟩) gn gc) rv last s1 (a + 1 + nn) f m v6 false w6 hB6 (by omega) (.inr rfl)
          have H9 := Lib.hid h9
          clear h9 ho6 hb6 hL6 hQ6 hI6 hB6 hbd
          go_wp2_with fail
          refine H9.out.mono ?_; rintro e w7 ⟨rfl, s', b', ⟨rfl, rfl⟩, hb7, hg7⟩
          have HFF := Lib.hid (show ChkPost cg (.slice (some ⟨cb, coff, none⟩) gn gc) rv last (fun s' b => WayRun g rs last a f m l s s' b) w (.returned (.tuple #[])) w7 from ⟨rfl, s1 + 1, false, .stop hs HX.out (by simp) HM.out HTL.out HRUN1.out, hb7, HGA.out.trans hg7⟩)
          clear hb7 hg7
          go_wp2
          go_end0
          exact HFF.out
        · have h9 := HFIN.out nn hlk.2 s1 (l ++ [(⟨f, m, 1, (kn : Int)⟩, false)]) v6 w6 (by omega) (hbd.2.2 rfl) hB6 HGA.out hL6 (HK.out.snoc ⟨by show (0 : Int) ≤ (kn : Int); omega, by show (kn : Int) ≤ _; omega⟩) (by rw [List.length_append]; simp; omega)
          have H9 := Lib.hid h9
          clear h9 ho6 hb6 hL6 hQ6 hI6 hB6 hbd
          go_wp2_with fail
          refine H9.out.mono ?_; rintro e w7 ⟨rfl, s', b', hrun, hb7, hg7⟩
          have HFF := Lib.hid (show ChkPost cg (.slice (some ⟨cb, coff, none⟩) gn gc) rv last (fun s' b => WayRun g rs last a f m l s s' b) w (.returned (.tuple #[])) w7 from ⟨rfl, s', b', .both hs HX.out (by simp) HM.out HTL.out HRUN1.out hrun, hb7, HGA.out.trans hg7⟩)
          clear hrun hb7 hg7
          go_wp2
          go_end0
          exact HFF.out
    · skip
      obtain ⟨WX, hWX⟩ : ∃ WX, WX = w.alloc (.cells #[.int .i64 4, .int .i64 (kn : Int), .int .i64 (yn : Int), .int .i64 (nn : Int)] 72) := ⟨_, rfl⟩
      have hIX : Blk WX w.heap.size 72 #[.int .i64 4, .int .i64 (kn : Int), .int .i64 (yn : Int), .int .i64 (nn : Int)] := by rw [hWX]; exact Blk.new _ _ _
      have hzX : WX.heap.size = w.heap.size + 1 := by rw [hWX]; simp
      have hbX : Below w.heap.size w WX := by rw [hWX]; go_grown
      have hQX := Blk.new WX 253 #[.int .i64 f, .int .i64 m, .int .i64 3, .int .i64 (kn : Int), .bool false]
      have hbQ : Below WX.heap.size WX (WX.alloc (.cells #[.int .i64 f, .int .i64 m, .int .i64 3, .int .i64 (kn : Int), .bool false] 253)) := by go_grown
      rw [hzX] at hQX hbQ
      rw [hWX] at hQX hbQ hIX hbX
      have hIQ := hIX.alloc (.cells #[.int .i64 f, .int .i64 m, .int .i64 3, .int .i64 (kn : Int), .bool false] 253)
      have hbWQ := hbX.trans (hbQ.mono (by omega))
      have HIQ := Lib.hid hIQ; have HQX := Lib.hid hQX
      clear hWX hIX hzX hbX hQX hbQ hIQ
      have hsp := HL.out.sl.below hbWQ
      have HSP := Lib.hid hsp; have HBW := Lib.hid hbWQ
      clear hsp hbWQ
      go_enter Tryz.func162, Tryz.ntmps162
      go_wp2_with fail
      refine (l6Tell_any lv l ⟨f, m, 3, (kn : Int)⟩ false _ HSP.out HK.out (by simp)).mono ?_; rintro e w3 ⟨rfl, hb3⟩
      have hzz : w.heap.size + 1 < w3.heap.size := by have := hb3.size; simp at this; omega
      have hI3 := HIQ.out.below hb3 (by simp; omega); have hQ3 := HQX.out.below hb3 (by simp)
      have y0 := (show _ = some (Value.int .i64 f) from hQ3.cell 0); have y1 := (show _ = some (Value.int .i64 m) from hQ3.cell 1); have y2 := (show _ = some (Value.int .i64 3) from hQ3.cell 2); have y3 := (show _ = some (Value.int .i64 (kn : Int)) from hQ3.cell 3); have y4 := (show _ = some (Value.bool false) from hQ3.cell 4)
      have z0 := (show _ = some (Value.int .i64 4) from hI3.cell 0); have z1 := (show _ = some (Value.int .i64 (kn : Int)) from hI3.cell 1); have z2 := (show _ = some (Value.int .i64 (yn : Int)) from hI3.cell 2); have z3 := (show _ = some (Value.int .i64 (nn : Int)) from hI3.cell 3)
      have HI3 := Lib.hid hI3; have HQ3 := Lib.hid hQ3
      have hb03 := below_then HBW.out hb3
      have HG3 := Lib.hid (grown_of_below hb03 (some cg))
      have HB3 := Lib.hid (HC.out.same hb03); have HL3 := Lib.hid (HL.out.grown HG3.out)
      clear hI3 hQ3 hb3 hb03 HC HBW HSP
      cases htell : tellO l ⟨f, m, 3, (kn : Int)⟩ with
      | some h =>
        cases h
        · have HTL := Lib.hid htell
          have HTI := Lib.hid (show tellI l ⟨f, m, 3, (kn : Int)⟩ = 0 by simp [tellI, htell])
          clear htell
          rw [HTI.out]
          have H9 := Lib.hid (HFIN.out nn hlk.2 (s + 1) l lv w3 (by omega) (by omega) HB3.out HG3.out HL3.out HK.out (by omega))
          go_wp2_with fail
          refine H9.out.mono ?_; rintro e w4 ⟨rfl, s', b', hrun, hb4, hg4⟩
          have HFF := Lib.hid (show ChkPost cg (.slice (some ⟨cb, coff, none⟩) gn gc) rv last (fun s' b => WayRun g rs last a f m l s s' b) w (.returned (.tuple #[])) w4 from ⟨rfl, s', b', .told hs HX.out (by simp) HM.out HTL.out hrun, hb4, HG3.out.trans hg4⟩)
          clear hrun hb4 hg4
          go_wp2
          go_end0
          exact HFF.out
        · have HTL := Lib.hid htell
          have HTI := Lib.hid (show tellI l ⟨f, m, 3, (kn : Int)⟩ = 1 by simp [tellI, htell])
          clear htell
          rw [HTI.out]
          have H9 := Lib.hid (HFIN.out yn hlk.1 (s + 1) l lv w3 (by omega) (by omega) HB3.out HG3.out HL3.out HK.out (by omega))
          go_wp2_with fail
          refine H9.out.mono ?_; rintro e w4 ⟨rfl, s', b', hrun, hb4, hg4⟩
          have HFF := Lib.hid (show ChkPost cg (.slice (some ⟨cb, coff, none⟩) gn gc) rv last (fun s' b => WayRun g rs last a f m l s s' b) w (.returned (.tuple #[])) w4 from ⟨rfl, s', b', .told hs HX.out (by simp) HM.out HTL.out hrun, hb4, HG3.out.trans hg4⟩)
          clear hrun hb4 hg4
          go_wp2
          go_end0
          exact HFF.out
      | none =>
        have HTL := Lib.hid htell
        have HTI := Lib.hid (show tellI l ⟨f, m, 3, (kn : Int)⟩ = -1 by simp [tellI, htell])
        clear htell
        rw [HTI.out]
        obtain ⟨lb, loff, ln, lc, rfl, hla, hlb⟩ := HL3.out
        have hll : l.length = ln := by have := hla.len; rwa [knR_len] at this
        have HLA := Lib.hid hla
        have hln : ln ≤ 100000 := by omega
        have HLLn := Lib.hid hll
        clear hla hll
        go_wp2_with fail
        refine (l6With_any lb loff ln lc l ⟨f, m, 3, (kn : Int)⟩ false true _ HLA.out hln).mono ?_; rintro e w4 ⟨v4, rfl, ho4, hb4⟩
        have hz34 := hb4.size
        have HG34 := Lib.hid (grown_of_below hb4 (some cg))
        have hL4 := LsN.of_own (cg := cg) ho4 (by rw [List.length_append, HLLn.out]; rfl) (by omega)
        have hQ4 := HQ3.out.below hb4 (by omega); have hI4 := HI3.out.below hb4 (by omega)
        have y0 := (show _ = some (Value.int .i64 f) from hQ4.cell 0); have y1 := (show _ = some (Value.int .i64 m) from hQ4.cell 1); have y2 := (show _ = some (Value.int .i64 3) from hQ4.cell 2); have y3 := (show _ = some (Value.int .i64 (kn : Int)) from hQ4.cell 3); have y4 := (show _ = some (Value.bool false) from hQ4.cell 4)
        have z0 := (show _ = some (Value.int .i64 4) from hI4.cell 0); have z1 := (show _ = some (Value.int .i64 (kn : Int)) from hI4.cell 1); have z2 := (show _ = some (Value.int .i64 (yn : Int)) from hI4.cell 2); have z3 := (show _ = some (Value.int .i64 (nn : Int)) from hI4.cell 3)
        have h9 := HFIN.out yn hlk.1 (s + 1) (l ++ [(⟨f, m, 3, (kn : Int)⟩, true)]) v4 w4 (by omega) (by omega) (HB3.out.same hb4) (HG3.out.trans HG34.out) hL4 (HK.out.snoc ⟨by show (0 : Int) ≤ (kn : Int); omega, by show (kn : Int) ≤ _; omega⟩) (by rw [List.length_append]; simp; omega)
        have H9 := Lib.hid h9
        have HQ4 := Lib.hid hQ4; have HI4 := Lib.hid hI4
        clear h9 ho4 hb4 hL4 hQ4 hI4
        go_wp2_with fail
        refine H9.out.mono ?_; rintro e w5 ⟨rfl, s1, b1, hrun1, hb5, hg5⟩
        have hz45 := hg5.size
        have HG45 := Lib.hid hg5
        have hQ5 := HQ4.out.grown hg5 (by simp; omega); have hI5 := HI4.out.grown hg5 (by simp; omega)
        have y0 := (show _ = some (Value.int .i64 f) from hQ5.cell 0); have y1 := (show _ = some (Value.int .i64 m) from hQ5.cell 1); have y2 := (show _ = some (Value.int .i64 3) from hQ5.cell 2); have y3 := (show _ = some (Value.int .i64 (kn : Int)) from hQ5.cell 3); have y4 := (show _ = some (Value.bool false) from hQ5.cell 4)
        have z0 := (show _ = some (Value.int .i64 4) from hI5.cell 0); have z1 := (show _ = some (Value.int .i64 (kn : Int)) from hI5.cell 1); have z2 := (show _ = some (Value.int .i64 (yn : Int)) from hI5.cell 2); have z3 := (show _ = some (Value.int .i64 (nn : Int)) from hI5.cell 3)
        have HQ5 := Lib.hid hQ5; have HI5 := Lib.hid hI5; have HB5 := Lib.hid hb5; have HRUN1 := Lib.hid hrun1
        have HLA5 := Lib.hid ((HLA.out.grown HG34.out (fun b' off' e' => by cases e'; exact hlb)).grown HG45.out (fun b' off' e' => by cases e'; exact hlb))
        clear hQ5 hI5 hb5 hrun1 hg5
        go_wp2_with fail
        refine (l6With_any lb loff ln lc l ⟨f, m, 3, (kn : Int)⟩ false false _ HLA5.out hln).mono ?_; rintro e w6 ⟨v6, rfl, ho6, hb6⟩
        have HG56 := Lib.hid (grown_of_below hb6 (some cg))
        have hL6 := LsN.of_own (cg := cg) ho6 (by rw [List.length_append, HLLn.out]; rfl) (by omega)
        have hQ6 := HQ5.out.same hb6; have hI6 := HI5.out.same hb6
        have y0 := (show _ = some (Value.int .i64 f) from hQ6.cell 0); have y1 := (show _ = some (Value.int .i64 m) from hQ6.cell 1); have y2 := (show _ = some (Value.int .i64 3) from hQ6.cell 2); have y3 := (show _ = some (Value.int .i64 (kn : Int)) from hQ6.cell 3); have y4 := (show _ = some (Value.bool false) from hQ6.cell 4)
        have z0 := (show _ = some (Value.int .i64 4) from hI6.cell 0); have z1 := (show _ = some (Value.int .i64 (kn : Int)) from hI6.cell 1); have z2 := (show _ = some (Value.int .i64 (yn : Int)) from hI6.cell 2); have z3 := (show _ = some (Value.int .i64 (nn : Int)) from hI6.cell 3)
        have hB6 := HB5.out.same hb6
        have hbd := HRUN1.out.bound (by omega)
        have HGA := Lib.hid ((HG3.out.trans HG34.out).trans (HG45.out.trans HG56.out))
        cases b1
        · have h9 : Calls Tryz.prog 113 #[.pointer (some ⟨cg, 0, none⟩), .int .i64 ((a : Int) + 1 + (nn : Int)), .int .i64 f, .int .i64 m, .int .i64 0, v6] w6 (ChkPost cg (.slice (some ⟨cb, coff, none⟩) gn gc) rv last (fun s' b => s' = s1 + 1 ∧ b = false) w6) := sRun_off cg (.slice (some ⟨cb, coff, none⟩) gn gc) rv last s1 (a + 1 + nn) f m v6 false w6 hB6 (by omega) (.inr rfl)
          have H9 := Lib.hid h9
          clear h9 ho6 hb6 hL6 hQ6 hI6 hB6 hbd
          go_wp2_with fail
          refine H9.out.mono ?_; rintro e w7 ⟨rfl, s', b', ⟨rfl, rfl⟩, hb7, hg7⟩
          have HFF := Lib.hid (show ChkPost cg (.slice (some ⟨cb, coff, none⟩) gn gc) rv last (fun s' b => WayRun g rs last a f m l s s' b) w (.returned (.tuple #[])) w7 from ⟨rfl, s1 + 1, false, .stop hs HX.out (by simp) HM.out HTL.out HRUN1.out, hb7, HGA.out.trans hg7⟩)
          clear hb7 hg7
          go_wp2
          go_end0
          exact HFF.out
        · have h9 := HFIN.out nn hlk.2 s1 (l ++ [(⟨f, m, 3, (kn : Int)⟩, false)]) v6 w6 (by omega) (hbd.2.2 rfl) hB6 HGA.out hL6 (HK.out.snoc ⟨by show (0 : Int) ≤ (kn : Int); omega, by show (kn : Int) ≤ _; omega⟩) (by rw [List.length_append]; simp; omega)
          have H9 := Lib.hid h9
          clear h9 ho6 hb6 hL6 hQ6 hI6 hB6 hbd
          go_wp2_with fail
          refine H9.out.mono ?_; rintro e w7 ⟨rfl, s', b', hrun, hb7, hg7⟩
          have HFF := Lib.hid (show ChkPost cg (.slice (some ⟨cb, coff, none⟩) gn gc) rv last (fun s' b => WayRun g rs last a f m l s s' b) w (.returned (.tuple #[])) w7 from ⟨rfl, s', b', .both hs HX.out (by simp) HM.out HTL.out HRUN1.out hrun, hb7, HGA.out.trans hg7⟩)
          clear hrun hb7 hg7
          go_wp2
          go_end0
          exact HFF.out
end
end Go.Proofs.YtnlhnnidbppciaaGreatDoor
