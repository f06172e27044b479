/- spec's check of a program and a policy: CheckCode, CheckSteps. -/
import Derived.Test.YtnlhnnidbppciaaGreatDoorChkS7
import Derived.Test.YtnlhnnidbppciaaGreatDoorCodeSA
import Derived.Test.YtnlhnnidbppciaaGreatDoorPolS3
namespace Go.Proofs.YtnlhnnidbppciaaGreatDoor
open Go.RowKit
set_option linter.unusedSimpArgs false
set_option linter.unusedVariables false

section
variable (cg : Nat) (cv rv : Value) (last : Int) (rs : List Rl) (g : List In4)
set_option maxRecDepth 100000 in
set_option maxHeartbeats 8000000 in
theorem sRun_any (hg : waysOk g) (hrw : ∀ r ∈ rs, RlW r) (hrl : rs.length ≤ 1000) : ∀ n, RunIH cg cv rv last rs g n := by
  intro n
  induction n with
  | zero =>
    intro s a fs f m l lv w hn hs ha hf hC hV hR hL hK hl
    exact (sRun_off cg cv rv last s a fs m lv true w hC (by omega) (.inl (by omega))).mono fun e w' ⟨h1, s', b, ⟨h2, h3⟩, h4, h5⟩ => ⟨h1, s', b, by rw [h2, h3]; exact .over (by omega), h4, h5⟩
  | succ n ih =>
    intro s a fs f m l lv w hn hs ha hf hC hV hR hL hK hl
    by_cases hs6 : 6000 ≤ s
    · exact (sRun_off cg cv rv last s a fs m lv true w hC (by omega) (.inl hs6)).mono fun e w' ⟨h1, s', b, ⟨h2, h3⟩, h4, h5⟩ => ⟨h1, s', b, by rw [h2, h3]; exact .over hs6, h4, h5⟩
    have hs7 : s < 6000 := by omega
    obtain ⟨x, hx⟩ : ∃ x, g[a]? = some x := ⟨_, List.getElem?_eq_getElem ha⟩
    obtain ⟨kn, yn, nn, hxe, hkn, hyn, hnn, hag, hop1, h12, h34, h5⟩ := place_at hg hx
    have hgl := hg.2.1
    obtain ⟨op, k, yes, no⟩ := x
    simp only [In4.mk.injEq, true_and] at hxe
    obtain ⟨rfl, rfl, rfl⟩ := hxe
    simp only at hop1 h12 h34 h5
    have HI := Lib.hid ih; have HC := Lib.hid hC; have HV := Lib.hid hV; have HR := Lib.hid hR; have HL := Lib.hid hL; have HK := Lib.hid hK; have HX := Lib.hid hx; have HF := Lib.hid hf; have HG := Lib.hid hg; have HRW := Lib.hid hrw
    have hcg := hC.lt
    obtain ⟨A, gn, gc, rfl, hSA, hne⟩ := hV
    have hgn : g.length = gn := by have := hSA.len; rwa [insR_len] at this
    have hgc := hSA.cap
    have hgm := hSA.max
    unfold maxLen at hgm
    obtain ⟨cb, coff, x', rfl, hcb, hx', hcell⟩ := ins_get hSA (k := a) (by omega)
    rw [hx] at hx'
    obtain rfl := Option.some.inj hx'
    have hne := hne (by omega) cb coff rfl
    have HCELL := Lib.hid hcell
    have han : a < gn := by omega
    have hz := bits_zero (kn : Int)
    have HH := Lib.hid hop1; have H12 := Lib.hid h12; have H34 := Lib.hid h34; have H5 := Lib.hid h5
    have hfin : ∀ (s1 a1 : Nat) (fs1 f1 m1 : Int) (W : World), 6000 ≤ s1 + n → s1 ≤ 6000 → a1 < g.length → FOk fs1 f1 m1 → Blk W cg 84 #[(.slice (some ⟨cb, coff, none⟩) gn gc), rv, .int .i64 last, .int .i64 (s1 : Int), .bool true] → w.grownBy W (some cg) → l.length ≤ s1 →
      Calls Tryz.prog 113 #[.pointer (some ⟨cg, 0, none⟩), .int .i64 (a1 : Int), .int .i64 fs1, .int .i64 m1, .int .i64 0, lv] W (ChkPost cg (.slice (some ⟨cb, coff, none⟩) gn gc) rv last (fun s' b => WayRun g rs last a1 f1 m1 l s1 s' b) W) := fun s1 a1 fs1 f1 m1 W h1 h2 h3 h4 h5 h6 h7 =>
        HI.out s1 a1 fs1 f1 m1 l lv W h1 h2 h3 h4 h5 (HV.out.grown h6) (HR.out.grown h6) (HL.out.grown h6) HK.out h7
    have HFIN := Lib.hid hfin
    clear ih hC hR hL hK hx hf hSA hgn hx' hfin h12 h34 h5 hop1 hg hrw hcell hs6
    go_enter Tryz.func113, Tryz.ntmps113
    go_wp2_with fail
    refine (sStep_on cg (.slice (some ⟨cb, coff, none⟩) gn gc) rv last s _ HC.out hs7).mono ?_; rintro e w1 ⟨rfl, hb1, hg1⟩
    obtain ⟨c0, c1, c2, c3⟩ : w1.cell? ⟨cb, coff + a * 4, none⟩ = some (.int .i64 op) ∧ w1.cell? ⟨cb, coff + a * 4 + 1, none⟩ = some (.int .i64 (kn : Int)) ∧ w1.cell? ⟨cb, coff + a * 4 + 2, none⟩ = some (.int .i64 (yn : Int)) ∧ w1.cell? ⟨cb, coff + a * 4 + 3, none⟩ = some (.int .i64 (nn : Int)) := by
      obtain ⟨d0, d1, d2, d3⟩ := HCELL.out w _ (Below.refl _ _) hcb
      have hn' : some cb ≠ some cg := fun e => hne (Option.some.inj e)
      exact ⟨hg1.cell d0 hn', hg1.cell d1 hn', hg1.cell d2 hn', hg1.cell d3 hn'⟩
    have e0 := (show _ = some (Value.slice (some ⟨cb, coff, none⟩) gn gc) from hb1.cell 0)
    have hb1X := hb1.alloc (.cells #[.int .i64 op, .int .i64 (kn : Int), .int .i64 (yn : Int), .int .i64 (nn : Int)] 72)
    have hg1X := hg1.trans (grown_of_below (show Below w1.heap.size w1 (w1.alloc (.cells #[.int .i64 op, .int .i64 (kn : Int), .int .i64 (yn : Int), .int .i64 (nn : Int)] 72)) by go_grown) (some cg))
    have HB1 := Lib.hid hb1X; have HG1 := Lib.hid hg1X
    clear hb1 hg1 hb1X hg1X HC HCELL
    by_cases o1 : op = 1
    · subst o1
      have h9 : Calls Tryz.prog 113 #[.pointer (some ⟨cg, 0, none⟩), .int .i64 ((a : Int) + 1), .int .i64 (kn : Int), .int .i64 4294967295, .int .i64 0, lv] _ (ChkPost cg (.slice (some ⟨cb, coff, none⟩) gn gc) rv last (fun s' b => WayRun g rs last (a + 1) (kn : Int) 4294967295 l (s + 1) s' b) _) := HFIN.out (s + 1) (a + 1) (kn : Int) (kn : Int) 4294967295 _ (by omega) (by omega) (H12.out (.inl rfl)) (.inl ⟨rfl, by omega⟩) HB1.out HG1.out (by omega)
      have H9 := Lib.hid h9
      clear h9
      go_wp2_with fail
      refine H9.out.mono ?_; rintro e w3 ⟨rfl, s', b', hrun, hb3, hg3⟩
      have HFF := Lib.hid (show ChkPost cg (.slice (some ⟨cb, coff, none⟩) gn gc) rv last (fun s' b => WayRun g rs last a f m l s s' b) w (.returned (.tuple #[])) w3 from ⟨rfl, s', b', .load hs7 HX.out rfl hrun, hb3, HG1.out.trans hg3⟩)
      clear hrun hb3 hg3
      go_wp2
      go_end0
      exact HFF.out
    · by_cases o2 : op = 2
      · subst o2
        have h9 : Calls Tryz.prog 113 #[.pointer (some ⟨cg, 0, none⟩), .int .i64 ((a : Int) + 1), .int .i64 fs, .int .i64 (Go.bits BinOp.and IntKind.i64 m (kn : Int)), .int .i64 0, lv] _ (ChkPost cg (.slice (some ⟨cb, coff, none⟩) gn gc) rv last (fun s' b => WayRun g rs last (a + 1) f (Go.bits BinOp.and IntKind.i64 m (kn : Int)) l (s + 1) s' b) _) := HFIN.out (s + 1) (a + 1) fs f (Go.bits BinOp.and IntKind.i64 m (kn : Int)) _ (by omega) (by omega) (H12.out (.inr rfl)) HF.out.mask HB1.out HG1.out (by omega)
        have H9 := Lib.hid h9
        clear h9
        go_wp2_with fail
        refine H9.out.mono ?_; rintro e w3 ⟨rfl, s', b', hrun, hb3, hg3⟩
        have HFF := Lib.hid (show ChkPost cg (.slice (some ⟨cb, coff, none⟩) gn gc) rv last (fun s' b => WayRun g rs last a f m l s s' b) w (.returned (.tuple #[])) w3 from ⟨rfl, s', b', .mask hs7 HX.out rfl hrun, hb3, HG1.out.trans hg3⟩)
        clear hrun hb3 hg3
        go_wp2
        go_end0
        exact HFF.out
      · by_cases o5 : op = 5
        · subst o5
          have h9 : Calls Tryz.prog 113 #[.pointer (some ⟨cg, 0, none⟩), .int .i64 ((a : Int) + 1 + (kn : Int)), .int .i64 fs, .int .i64 m, .int .i64 0, lv] _ (ChkPost cg (.slice (some ⟨cb, coff, none⟩) gn gc) rv last (fun s' b => WayRun g rs last (a + 1 + kn) f m l (s + 1) s' b) _) := HFIN.out (s + 1) (a + 1 + kn) fs f m _ (by omega) (by omega) (H5.out rfl) HF.out HB1.out HG1.out (by omega)
          have H9 := Lib.hid h9
          clear h9
          go_wp2_with fail
          refine H9.out.mono ?_; rintro e w3 ⟨rfl, s', b', hrun, hb3, hg3⟩
          have HFF := Lib.hid (show ChkPost cg (.slice (some ⟨cb, coff, none⟩) gn gc) rv last (fun s' b => WayRun g rs last a f m l s s' b) w (.returned (.tuple #[])) w3 from ⟨rfl, s', b', .jump hs7 HX.out rfl hrun, hb3, HG1.out.trans hg3⟩)
          clear hrun hb3 hg3
          go_wp2
          go_end0
          exact HFF.out
        · by_cases o6 : op = 6
          · subst o6
            have h9 : Calls Tryz.prog 161 #[.pointer (some ⟨cg, 0, none⟩), .int .i64 0, .int .i64 0, .int .i64 (kn : Int), lv] _ (ChkPost cg (.slice (some ⟨cb, coff, none⟩) gn gc) rv last (fun s' b => RuleRun rs last 0 0 (kn : Int) l (s + 1) s' b) _) := sRule_any cg (.slice (some ⟨cb, coff, none⟩) gn gc) last rs rv HRW.out hrl n (s + 1) 0 0 (kn : Int) l lv _ (by omega) (by omega) (by omega) (by omega) HB1.out (HR.out.grown HG1.out) (HL.out.grown HG1.out) HK.out (by omega)
            have H9 := Lib.hid h9
            clear h9
            go_wp2_with fail
            refine H9.out.mono ?_; rintro e w3 ⟨rfl, s', b', hrun, hb3, hg3⟩
            have HFF := Lib.hid (show ChkPost cg (.slice (some ⟨cb, coff, none⟩) gn gc) rv last (fun s' b => WayRun g rs last a f m l s s' b) w (.returned (.tuple #[])) w3 from ⟨rfl, s', b', .end_ hs7 HX.out rfl hrun, hb3, HG1.out.trans hg3⟩)
            clear hrun hb3 hg3
            go_wp2
            go_end0
            exact HFF.out
          · have o34 : op = 3 ∨ op = 4 := by have := HH.out; omega
            have h9 : Calls Tryz.prog 162 #[.pointer (some ⟨cg, 0, none⟩), .int .i64 (a : Int), .int .i64 fs, .int .i64 m, .int .i64 0, lv] _ (ChkPost cg (.slice (some ⟨cb, coff, none⟩) gn gc) rv last (fun s' b => WayRun g rs last a f m l s s' b) _) := sLook_of cg (.slice (some ⟨cb, coff, none⟩) gn gc) rv last rs g HG.out n HI.out s a fs f m l lv _ ⟨op, (kn : Int), (yn : Int), (nn : Int)⟩ (by omega) hs7 HX.out o34 HF.out HB1.out (HV.out.grown HG1.out) (HR.out.grown HG1.out) (HL.out.grown HG1.out) HK.out (by omega)
            have O34 := Lib.hid o34; clear o34
            have H9 := Lib.hid h9
            clear h9
            go_wp2_with fail
            refine H9.out.mono ?_; rintro e w3 ⟨rfl, s', b', hrun, hb3, hg3⟩
            have HFF := Lib.hid (show ChkPost cg (.slice (some ⟨cb, coff, none⟩) gn gc) rv last (fun s' b => WayRun g rs last a f m l s s' b) w (.returned (.tuple #[])) w3 from ⟨rfl, s', b', hrun, hb3, HG1.out.trans hg3⟩)
            clear hrun hb3 hg3
            go_wp2
            go_end0
            exact HFF.out
end

theorem rlW_of {r : Rl} (h : ruleOkB r = true) : RlW r := by
  obtain ⟨_, ⟨l0, l1⟩, h1, h4, ht⟩ := ruleOkB_words h
  refine ⟨⟨l0, by omega⟩, ⟨by omega, h1⟩, by omega, fun t htm => ?_⟩
  obtain ⟨_, _, hv, ho⟩ := testOkB_words (ht t htm)
  exact ⟨hv.1, hv.2, by omega⟩
/-- What both CheckCode and both CheckSteps come to. -/
def ChkOut (g : List In4) (p : Pol) (s : Nat) (b : Bool) : Prop := (codeOk g ∧ polOkB p = true ∧ ChkIs g p s b) ∨ (¬ (codeOk g ∧ polOkB p = true) ∧ s = 0 ∧ b = false)
theorem ChkOut.one {g : List In4} {p : Pol} {s t : Nat} {b c : Bool} (h : ChkOut g p s b) (k : ChkOut g p t c) : s = t ∧ b = c := by
  rcases h with ⟨h1, h2, h⟩ | ⟨h, rfl, rfl⟩ <;> rcases k with ⟨k1, k2, k⟩ | ⟨k, rfl, rfl⟩
  · exact h.one k
  · exact absurd ⟨h1, h2⟩ k
  · exact absurd ⟨k1, k2⟩ h
  · exact ⟨rfl, rfl⟩
theorem ChkIs.bound {g : List In4} {p : Pol} {s : Nat} {b : Bool} (h : ChkIs g p s b) : s ≤ 12001 := by
  have := WayRun.bound h (by omega); omega
theorem ChkOut.bound {g : List In4} {p : Pol} {s : Nat} {b : Bool} (h : ChkOut g p s b) : s ≤ 12001 := by
  rcases h with ⟨_, _, h⟩ | ⟨_, rfl, _⟩
  · exact h.bound
  · omega

def AllPost (cv : Value) (g : List In4) (p : Pol) (w : World) (e : Ending) (w' : World) : Prop :=
  ∃ (cg s : Nat) (b : Bool) (rv : Value), e = .returned (.pointer (some ⟨cg, 0, none⟩)) ∧ ChkIs g p s b ∧ Blk w' cg 84 #[cv, rv, .int .i64 p.els, .int .i64 (s : Int), .bool b] ∧ Below w.heap.size w w'
set_option maxHeartbeats 4000000 in
theorem l6All_any (cv : Value) (g : List In4) (p : Pol) (v : Value) (w : World) (hv : Sl w 4 cv (insR g)) (hP : PolIs w p v) (hg : codeOk g) (hp : polOkB p = true) :
    Calls Tryz.prog 62 #[cv, v] w (AllPost cv g p w) := by
  obtain ⟨rv, css, rfl, hS, hR⟩ := hP
  have hsh := (polOkB_shape hp).1
  have hrules : ∀ r ∈ p.rules, ruleOkB r = true := (polShapeB_words hsh).2.2
  have hrl : p.rules.length ≤ 1000 := by have := (polShapeB_words hsh).1; omega
  have hbX : Below w.heap.size w (w.alloc (.cells #[rv, .int .i64 p.els] 31)) := by go_grown
  obtain ⟨A, n, c, rfl, hSA⟩ := hS
  have hbY : Below w.heap.size w ((w.alloc (.cells #[.slice A n c, .int .i64 p.els] 31)).alloc (.cells #[cv, .slice A n c, .int .i64 p.els, .int .i64 0, .bool true] 84)) := by go_grown
  have hbZ : Below w.heap.size w (((w.alloc (.cells #[.slice A n c, .int .i64 p.els] 31)).alloc (.cells #[cv, .slice A n c, .int .i64 p.els, .int .i64 0, .bool true] 84)).alloc (.cells #[] 253)) := by go_grown
  have hv' : SlN (w.heap.size + 1) w 4 cv (insR g) := SlN.of_sl hv (by omega)
  have hR' : RsN (w.heap.size + 1) w (.slice A n c) p.rules := ⟨css, SlN.of_sl ⟨A, n, c, rfl, hSA⟩ (by omega), RulesN.of hR (by omega)⟩
  have hgz := grown_of_below hbZ (some (w.heap.size + 1))
  obtain ⟨VA, vn, vc, rfl, hVA⟩ := hv
  have hC : Blk (((w.alloc (.cells #[.slice A n c, .int .i64 p.els] 31)).alloc (.cells #[.slice VA vn vc, .slice A n c, .int .i64 p.els, .int .i64 0, .bool true] 84)).alloc (.cells #[] 253)) (w.heap.size + 1) 84 #[.slice VA vn vc, .slice A n c, .int .i64 p.els, .int .i64 ((0 : Nat) : Int), .bool true] := by
    have := (Blk.new (w.alloc (.cells #[.slice A n c, .int .i64 p.els] 31)) 84 #[.slice VA vn vc, .slice A n c, .int .i64 p.els, .int .i64 0, .bool true]).alloc (.cells #[] 253)
    simpa using this
  have hL : LsN (w.heap.size + 1) (((w.alloc (.cells #[.slice A n c, .int .i64 p.els] 31)).alloc (.cells #[.slice VA vn vc, .slice A n c, .int .i64 p.els, .int .i64 0, .bool true] 84)).alloc (.cells #[] 253)) (.slice (some ⟨w.heap.size + 1 + 1, 0, none⟩) 0 0) [] :=
    ⟨_, _, _, _, rfl, ⟨rfl, by omega, by omega, fun h => absurd h (by omega)⟩, by omega⟩
  have h9 : Calls Tryz.prog 113 #[.pointer (some ⟨w.heap.size + 1, 0, none⟩), .int .i64 0, .int .i64 (-1), .int .i64 0, .int .i64 0, .slice (some ⟨w.heap.size + 1 + 1, 0, none⟩) 0 0] _ _ := sRun_any (w.heap.size + 1) (.slice VA vn vc) (.slice A n c) p.els p.rules g hg.1 (fun r hr => rlW_of (hrules r hr)) hrl 6000 0 0 (-1) 0 0 [] _ _ (by omega) (by omega) hg.1.1 (.inr ⟨rfl, rfl, rfl⟩) hC (hv'.grown hgz) (hR'.grown hgz) hL KnW.nil (by simp)
  have H9 := Lib.hid h9
  have HZ := Lib.hid hbZ
  clear hbX hbY hbZ hv' hR' hgz hVA hC hL h9 hSA hR hrules hsh
  go_enter Tryz.func62, Tryz.ntmps62
  go_wp2_with fail
  refine H9.out.mono ?_; rintro e w3 ⟨rfl, s', b', hrun, hb3, hg3⟩
  have HB := Lib.hid hb3; have HRUN := Lib.hid hrun
  have HBB := Lib.hid (HZ.out.trans (below_of_grown hg3 (show w.heap.size ≤ w.heap.size + 1 by omega) (by simp)))
  clear hb3 hrun hg3
  go_wp2
  go_ret
  exact ⟨_, s', b', _, rfl, HRUN.out, HB.out, HBB.out⟩

def CheckCodePost (g : List In4) (p : Pol) (w : World) (e : Ending) (w' : World) : Prop := ∃ (s : Nat) (b : Bool), e = .returned (.bool b) ∧ ChkOut g p s b ∧ Below w.heap.size w w'
def CheckStepsPost (g : List In4) (p : Pol) (w : World) (e : Ending) (w' : World) : Prop := ∃ (s : Nat) (b : Bool), e = .returned (.int .i64 (s : Int)) ∧ ChkOut g p s b ∧ Below w.heap.size w w'

set_option maxHeartbeats 2000000 in
theorem sCheckCode_any (cv : Value) (g : List In4) (p : Pol) (v : Value) (w : World) (hv : Sl w 4 cv (insR g)) (hP : PolIs w p v) :
    Calls Tryz.prog 27 #[cv, v] w (CheckCodePost g p w) := by
  have HV := Lib.hid hv; have HP := Lib.hid hP
  obtain ⟨rv, css, rfl, ⟨A, n, c, rfl, hSA⟩, hR⟩ := hP
  have hb0 : Below w.heap.size w (w.alloc (.cells #[.slice A n c, .int .i64 p.els] 31)) := by go_grown
  have B0 := Blk.new w 31 #[.slice A n c, .int .i64 p.els]
  have HB := Lib.hid B0
  obtain ⟨VA, vn, vc, rfl, hVA⟩ := hv
  clear hSA hR hVA B0
  go_enter Tryz.func27, Tryz.ntmps27
  go_wp2_with fail
  refine (sCodeOk_any _ g _ (HV.out.below hb0)).mono ?_; rintro e w1 ⟨rfl, hb1⟩
  have hb01 := below_then hb0 hb1
  have hB1 := HB.out.below hb1 (by simp)
  have z1 := hb1.size
  simp only [World.size_alloc] at z1
  have hlt1 : w.heap.size < w1.heap.size := by omega
  have e0 := (show _ = some (Value.slice A n c) from hB1.cell 0); have e1 := (show _ = some (Value.int .i64 p.els) from hB1.cell 1)
  have HB1 := Lib.hid hB1
  clear hB1 hb1
  cases hc : codeOkB g with
  | false =>
    have HO := Lib.hid (show ChkOut g p 0 false from .inr ⟨(fun h => by rw [codeOkB_iff.2 h.1] at hc; cases hc), rfl, rfl⟩)
    clear hc
    go_wp2
    go_ret
    exact ⟨0, false, rfl, HO.out, hb01⟩
  | true =>
    have HC := Lib.hid (codeOkB_iff.1 hc)
    clear hc
    go_wp2_with fail
    refine (PolicyOk_any p _ _ (HP.out.below hb01)).mono ?_; rintro e w2 ⟨rfl, hb2⟩
    have hb02 := below_then hb01 hb2
    have hB2 := HB1.out.below hb2 hlt1
    have e0 := (show _ = some (Value.slice A n c) from hB2.cell 0); have e1 := (show _ = some (Value.int .i64 p.els) from hB2.cell 1)
    clear hB2 hb2 HB1
    cases hp : polOkB p with
    | false =>
      have HO := Lib.hid (show ChkOut g p 0 false from .inr ⟨(fun h => by rw [h.2] at hp; cases hp), rfl, rfl⟩)
      clear hp
      go_wp2
      go_ret
      exact ⟨0, false, rfl, HO.out, hb02⟩
    | true =>
      have HPO := Lib.hid hp
      clear hp
      go_wp2_with fail
      refine (l6All_any _ g p _ _ (HV.out.below hb02) (HP.out.below hb02) HC.out HPO.out).mono ?_; rintro e w3 ⟨cg, s, b, rv', rfl, hck, hbk, hb3⟩
      have HO := Lib.hid (show ChkOut g p s b from .inl ⟨HC.out, HPO.out, hck⟩)
      have q3 := (show _ = some (Value.int .i64 (s : Int)) from hbk.cell 3); have q4 := (show _ = some (Value.bool b) from hbk.cell 4)
      have hb03 := below_then hb02 hb3
      clear hck hbk hb3
      go_wp2
      go_ret
      exact ⟨s, b, rfl, HO.out, hb03⟩

set_option maxHeartbeats 2000000 in
theorem sCheckSteps_any (cv : Value) (g : List In4) (p : Pol) (v : Value) (w : World) (hv : Sl w 4 cv (insR g)) (hP : PolIs w p v) :
    Calls Tryz.prog 30 #[cv, v] w (CheckStepsPost g p w) := by
  have HV := Lib.hid hv; have HP := Lib.hid hP
  obtain ⟨rv, css, rfl, ⟨A, n, c, rfl, hSA⟩, hR⟩ := hP
  have hb0 : Below w.heap.size w (w.alloc (.cells #[.slice A n c, .int .i64 p.els] 31)) := by go_grown
  have B0 := Blk.new w 31 #[.slice A n c, .int .i64 p.els]
  have HB := Lib.hid B0
  obtain ⟨VA, vn, vc, rfl, hVA⟩ := hv
  clear hSA hR hVA B0
  go_enter Tryz.func30, Tryz.ntmps30
  go_wp2_with fail
  refine (sCodeOk_any _ g _ (HV.out.below hb0)).mono ?_; rintro e w1 ⟨rfl, hb1⟩
  have hb01 := below_then hb0 hb1
  have hB1 := HB.out.below hb1 (by simp)
  have z1 := hb1.size
  simp only [World.size_alloc] at z1
  have hlt1 : w.heap.size < w1.heap.size := by omega
  have e0 := (show _ = some (Value.slice A n c) from hB1.cell 0); have e1 := (show _ = some (Value.int .i64 p.els) from hB1.cell 1)
  have HB1 := Lib.hid hB1
  clear hB1 hb1
  cases hc : codeOkB g with
  | false =>
    have HO := Lib.hid (show ChkOut g p 0 false from .inr ⟨(fun h => by rw [codeOkB_iff.2 h.1] at hc; cases hc), rfl, rfl⟩)
    clear hc
    go_wp2
    go_ret
    exact ⟨0, false, rfl, HO.out, hb01⟩
  | true =>
    have HC := Lib.hid (codeOkB_iff.1 hc)
    clear hc
    go_wp2_with fail
    refine (PolicyOk_any p _ _ (HP.out.below hb01)).mono ?_; rintro e w2 ⟨rfl, hb2⟩
    have hb02 := below_then hb01 hb2
    have hB2 := HB1.out.below hb2 hlt1
    have e0 := (show _ = some (Value.slice A n c) from hB2.cell 0); have e1 := (show _ = some (Value.int .i64 p.els) from hB2.cell 1)
    clear hB2 hb2 HB1
    cases hp : polOkB p with
    | false =>
      have HO := Lib.hid (show ChkOut g p 0 false from .inr ⟨(fun h => by rw [h.2] at hp; cases hp), rfl, rfl⟩)
      clear hp
      go_wp2
      go_ret
      exact ⟨0, false, rfl, HO.out, hb02⟩
    | true =>
      have HPO := Lib.hid hp
      clear hp
      go_wp2_with fail
      refine (l6All_any _ g p _ _ (HV.out.below hb02) (HP.out.below hb02) HC.out HPO.out).mono ?_; rintro e w3 ⟨cg, s, b, rv', rfl, hck, hbk, hb3⟩
      have HO := Lib.hid (show ChkOut g p s b from .inl ⟨HC.out, HPO.out, hck⟩)
      have q3 := (show _ = some (Value.int .i64 (s : Int)) from hbk.cell 3); have q4 := (show _ = some (Value.bool b) from hbk.cell 4)
      have hb03 := below_then hb02 hb3
      clear hck hbk hb3
      go_wp2
      go_ret
      exact ⟨s, b, rfl, HO.out, hb03⟩
end Go.Proofs.YtnlhnnidbppciaaGreatDoor
