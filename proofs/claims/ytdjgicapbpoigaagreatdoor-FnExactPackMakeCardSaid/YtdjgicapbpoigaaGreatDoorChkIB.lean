/- Joined texts: ChkI6 ChkI7 ChkI8 ChkI9 ChkI10. -/
import Derived.Test.YtdjgicapbpoigaaGreatDoorChkIA
import Derived.Test.YtdjgicapbpoigaaGreatDoorChkSA
import Derived.Deep.DeepCutAuto
namespace Go.Proofs.YtdjgicapbpoigaaGreatDoor
open Go.RowKit
set_option linter.unusedSimpArgs false
set_option linter.unusedVariables false

section
variable (cg : Nat) (cv rv : Value) (last : Int) (rs : List Rl) (g : List In4)
set_option maxRecDepth 100000 in
set_option maxHeartbeats 8000000 in
theorem iBranch_of (hg : waysOk g) (n : Nat) (ih : PlaceIH cg cv rv last rs g n) (s a : Nat) (f m : Int) (l : List (Lk × Bool)) (kv : Value) (w : World) (x : In4) (hn : 6000 ≤ s + 1 + n) (hs : s < 6000) (hx : g[a]? = some x) (hop : x.op = 3 ∨ x.op = 4)
   (hC : Blk w cg 78 #[cv, rv, .int .i64 last, .int .i64 ((s + 1 : Nat) : Int), .bool false]) (hV : SlN cg w 4 cv (insR g)) (hR : CkN cg w rv rs) (hK : KnI cg w kv l.reverse) (hKW : KnW l) (hO : Once l) :
   Calls Tryz.prog 102 #[.pointer (some ⟨cg, 0, none⟩), .agg #[.int .i64 x.op, .int .i64 x.k, .int .i64 x.yes, .int .i64 x.no], .agg #[.int .i64 (a : Int), .int .i64 f, .int .i64 m], kv] w (IPost cg cv rv last (fun s' b => WayRun g rs last a f m l s s' b) w) := by
 obtain ⟨kn, yn, nn, hxe, hkn, hyn, hnn, hag, hop1, h12, h34, h5⟩ := place_at hg hx
 have hgl := hg.2.1
 have hlk := h34 hop
 obtain ⟨op, k, yes, no⟩ := x
 simp only [In4.mk.injEq, true_and] at hxe
 obtain ⟨rfl, rfl, rfl⟩ := hxe
 simp only at hop ⊢
 have hcl := hC.lt
 obtain ⟨Y, hY⟩ : ∃ Y, Y = ((w.alloc (.cells #[.pointer (some ⟨cg, 0, none⟩)] 79)).alloc (.cells #[.int .i64 op, .int .i64 (kn : Int), .int .i64 (yn : Int), .int .i64 (nn : Int)] 63)).alloc (.cells #[.int .i64 (a : Int), .int .i64 f, .int .i64 m] 130) := ⟨_, rfl⟩
 have hbY : Below w.heap.size w Y := by rw [hY]; go_grown
 have hzY : Y.heap.size = w.heap.size + 1 + 1 + 1 := by rw [hY]; simp
 have bP : Blk Y w.heap.size 79 #[.pointer (some ⟨cg, 0, none⟩)] := by rw [hY]; exact ((Blk.new w _ _).alloc _).alloc _
 have bI : Blk Y (w.heap.size + 1) 63 #[.int .i64 op, .int .i64 (kn : Int), .int .i64 (yn : Int), .int .i64 (nn : Int)] := by
   rw [hY]
   have := (Blk.new (w.alloc (.cells #[.pointer (some ⟨cg, 0, none⟩)] 79)) 63 #[.int .i64 op, .int .i64 (kn : Int), .int .i64 (yn : Int), .int .i64 (nn : Int)]).alloc (.cells #[.int .i64 (a : Int), .int .i64 f, .int .i64 m] 130)
   simpa using this
 have bS : Blk Y (w.heap.size + 1 + 1) 130 #[.int .i64 (a : Int), .int .i64 f, .int .i64 m] := by
   rw [hY]
   have := Blk.new ((w.alloc (.cells #[.pointer (some ⟨cg, 0, none⟩)] 79)).alloc (.cells #[.int .i64 op, .int .i64 (kn : Int), .int .i64 (yn : Int), .int .i64 (nn : Int)] 63)) 130 #[.int .i64 (a : Int), .int .i64 f, .int .i64 m]
   simpa using this
 have hl0 : w.heap.size < Y.heap.size := by omega
 have hl1 : w.heap.size + 1 < Y.heap.size := by omega
 have hl2 : w.heap.size + 1 + 1 < Y.heap.size := by omega
 have s0 := (show _ = some (Value.int .i64 (a : Int)) from bS.cell 0); have s1 := (show _ = some (Value.int .i64 f) from bS.cell 1); have s2 := (show _ = some (Value.int .i64 m) from bS.cell 2)
 have i0 := (show _ = some (Value.int .i64 op) from bI.cell 0); have i1 := (show _ = some (Value.int .i64 (kn : Int)) from bI.cell 1)
 have HI := Lib.hid ih; have HY := Lib.hid hY; have HBP := Lib.hid bP; have HBI := Lib.hid bI; have HBS := Lib.hid bS
 have HGY := Lib.hid (grown_of_below hbY (some cg)); have HCY := Lib.hid (hC.same hbY); have HVY := Lib.hid (hV.below hbY); have HRY := Lib.hid (hR.grown (grown_of_below hbY _)); have HKY := Lib.hid (hK.below hbY); have HKW := Lib.hid hKW; have HO := Lib.hid hO; have HX := Lib.hid hx; have HG := Lib.hid hg; have HLK := Lib.hid hlk
 clear ih hY hbY hzY bP bI bS hC hV hR hK hKW hO hx hg h12 h34 h5 hop1 hlk
 by_cases hm : m = 0
 · subst hm
   rcases hop with rfl | rfl
   · have hbL : Below Y.heap.size Y (Y.alloc (.cells #[.int .i64 f, .int .i64 0, .int .i64 1, .int .i64 (kn : Int)] 190)) := by go_grown
     have hzb : zeroB ⟨3, (kn : Int), (yn : Int), (nn : Int)⟩ = ((0 : Int) == (kn : Int)) := by rw [Bool.eq_iff_iff]; simp [zeroB]; omega
     obtain ⟨hz, hhz⟩ : ∃ z, z = ((0 : Int) == (kn : Int)) := ⟨_, rfl⟩
     have hon : ∀ W, Below Y.heap.size Y W → Calls Tryz.prog 135 #[.agg #[.int .i64 (a : Int), .int .i64 f, .int .i64 0], kv, .bool hz, .pointer (some ⟨w.heap.size + 1, 0, none⟩), .pointer (some ⟨w.heap.size, 0, none⟩)] W (IPost cg cv rv last (fun s' b => WayRun g rs last a f 0 l s s' b) W) := fun W hb =>
       iWayOn_of cg cv rv last a yn nn 3 (kn : Int) f 0 kv hz (w.heap.size + 1) w.heap.size W _ (by omega) (by omega) (by omega) (HBI.out.same hb) (HBP.out.same hb) (fun W2 hb2 => by
         have hb3 := below_then hb hb2
         have e : a + 1 + wayOf ⟨3, (kn : Int), (yn : Int), (nn : Int)⟩ hz = a + (1 + (if hz then yn else nn)) := by cases hz <;> simp [wayOf] <;> omega
         refine (HI.out (s + 1) (a + (1 + (if hz then yn else nn))) f 0 l kv W2 (by omega) (by omega) (by have h1 := HLK.out.1; have h2 := HLK.out.2; cases hz <;> simp <;> omega) (HCY.out.same hb3) (HVY.out.below hb3) (HRY.out.grown (grown_of_below hb3 _)) (HKY.out.below hb3) HKW.out HO.out).mono ?_
         rintro e' w' ⟨h1, s', b', hrun, h2, h3⟩
         rw [← e] at hrun
         exact ⟨h1, s', b', .zero hs HX.out (by simp) rfl (by rw [hzb, ← hhz]; exact hrun), h2, h3⟩)
     have HON := Lib.hid hon; have HBL := Lib.hid hbL
     rw [← hhz] at hzb
     have HH := Lib.hid (show ∀ W, Calls Tryz.prog 136 #[.int .i64 1, .int .i64 0, .int .i64 (kn : Int)] W fun e w' => e = .returned (.bool hz) ∧ W = w' from fun W => by rw [hhz]; exact iHolds_eq 0 (kn : Int) W)
     clear hon hbL hzb hhz
     go_enter Tryz.func102, Tryz.ntmps102
     go_upto_region 1 with (fail)
     rw [← HY.out]
     go_wp2_with fail
     go_region_law (first
       | (go_simp; go_at_call 136; refine (HH.out _).mono ?_; rintro e w' ⟨rfl, rfl⟩)
       | (go_simp; go_at_call 135; refine (HON.out _ (below_then HBL.out (by go_grown))).mono ?_; rintro e w3 ⟨rfl, s', b', hrun, hb3, hg3⟩))
     all_goals
       have HF := Lib.hid (show IPost cg cv rv last (fun s' b => WayRun g rs last a f 0 l s s' b) w (.returned (.tuple #[])) w3 from ⟨rfl, s', b', hrun, hb3, (HGY.out.trans ((grown_of_below HBL.out _).trans (grown_of_below (by go_grown) _))).trans hg3⟩)
       clear hrun hb3 hg3
       go_wp2
       go_end0
       exact HF.out
   · have hbL : Below Y.heap.size Y (Y.alloc (.cells #[.int .i64 f, .int .i64 0, .int .i64 3, .int .i64 (kn : Int)] 190)) := by go_grown
     have hzb : zeroB ⟨4, (kn : Int), (yn : Int), (nn : Int)⟩ = (decide ((kn : Int) < 0)) := by simp [zeroB]
     obtain ⟨hz, hhz⟩ : ∃ z, z = (decide ((kn : Int) < 0)) := ⟨_, rfl⟩
     have hon : ∀ W, Below Y.heap.size Y W → Calls Tryz.prog 135 #[.agg #[.int .i64 (a : Int), .int .i64 f, .int .i64 0], kv, .bool hz, .pointer (some ⟨w.heap.size + 1, 0, none⟩), .pointer (some ⟨w.heap.size, 0, none⟩)] W (IPost cg cv rv last (fun s' b => WayRun g rs last a f 0 l s s' b) W) := fun W hb =>
       iWayOn_of cg cv rv last a yn nn 4 (kn : Int) f 0 kv hz (w.heap.size + 1) w.heap.size W _ (by omega) (by omega) (by omega) (HBI.out.same hb) (HBP.out.same hb) (fun W2 hb2 => by
         have hb3 := below_then hb hb2
         have e : a + 1 + wayOf ⟨4, (kn : Int), (yn : Int), (nn : Int)⟩ hz = a + (1 + (if hz then yn else nn)) := by cases hz <;> simp [wayOf] <;> omega
         refine (HI.out (s + 1) (a + (1 + (if hz then yn else nn))) f 0 l kv W2 (by omega) (by omega) (by have h1 := HLK.out.1; have h2 := HLK.out.2; cases hz <;> simp <;> omega) (HCY.out.same hb3) (HVY.out.below hb3) (HRY.out.grown (grown_of_below hb3 _)) (HKY.out.below hb3) HKW.out HO.out).mono ?_
         rintro e' w' ⟨h1, s', b', hrun, h2, h3⟩
         rw [← e] at hrun
         exact ⟨h1, s', b', .zero hs HX.out (by simp) rfl (by rw [hzb, ← hhz]; exact hrun), h2, h3⟩)
     have HON := Lib.hid hon; have HBL := Lib.hid hbL
     rw [← hhz] at hzb
     have HH := Lib.hid (show ∀ W, Calls Tryz.prog 136 #[.int .i64 3, .int .i64 0, .int .i64 (kn : Int)] W fun e w' => e = .returned (.bool hz) ∧ W = w' from fun W => by rw [hhz]; exact iHolds_gt 0 (kn : Int) W)
     clear hon hbL hzb hhz
     go_enter Tryz.func102, Tryz.ntmps102
     go_upto_region 1 with (fail)
     rw [← HY.out]
     go_wp2_with fail
     go_region_law (first
       | (go_simp; go_at_call 136; refine (HH.out _).mono ?_; rintro e w' ⟨rfl, rfl⟩)
       | (go_simp; go_at_call 135; refine (HON.out _ (below_then HBL.out (by go_grown))).mono ?_; rintro e w3 ⟨rfl, s', b', hrun, hb3, hg3⟩))
     all_goals
       have HF := Lib.hid (show IPost cg cv rv last (fun s' b => WayRun g rs last a f 0 l s s' b) w (.returned (.tuple #[])) w3 from ⟨rfl, s', b', hrun, hb3, (HGY.out.trans ((grown_of_below HBL.out _).trans (grown_of_below (by go_grown) _))).trans hg3⟩)
       clear hrun hb3 hg3
       go_wp2
       go_end0
       exact HF.out
 · have HM := Lib.hid hm
   have hmd : (m == 0) = false := by simp [hm]
   rcases hop with rfl | rfl
   · have hbL : Below Y.heap.size Y (Y.alloc (.cells #[.int .i64 f, .int .i64 m, .int .i64 1, .int .i64 (kn : Int)] 190)) := by go_grown
     have h9 := iBothWay_of cg cv rv last rs g n HI.out s a kn yn nn 3 f m l kv (Y.alloc (.cells #[.int .i64 f, .int .i64 m, .int .i64 1, .int .i64 (kn : Int)] 190)) ⟨f, m, 1, (kn : Int)⟩ (w.heap.size + 1) w.heap.size (by omega) hs HX.out (by omega) HM.out rfl (by omega) HLK.out.1 HLK.out.2 (by omega) ⟨by show (0 : Int) ≤ (kn : Int); omega, by show (kn : Int) ≤ _; omega⟩ (by simp) (HCY.out.same hbL) (HVY.out.below hbL) (HRY.out.grown (grown_of_below hbL _)) (HKY.out.below hbL) HKW.out HO.out (HBI.out.same hbL) (HBP.out.same hbL) (by omega) (by omega)
     have H9 := Lib.hid h9; have HBL := Lib.hid hbL
     clear h9 hbL hm
     go_enter Tryz.func102, Tryz.ntmps102
     go_upto_region 1 with (fail)
     rw [← HY.out]
     go_wp2_with fail
     refine H9.out.mono ?_; rintro e w3 ⟨rfl, s', b', hrun, hb3, hg3⟩
     have HF := Lib.hid (show IPost cg cv rv last (fun s' b => WayRun g rs last a f m l s s' b) w (.returned (.tuple #[])) w3 from ⟨rfl, s', b', hrun, hb3, (HGY.out.trans (grown_of_below HBL.out _)).trans hg3⟩)
     clear hrun hb3 hg3
     go_wp2
     go_end0
     exact HF.out
   · have hbL : Below Y.heap.size Y (Y.alloc (.cells #[.int .i64 f, .int .i64 m, .int .i64 3, .int .i64 (kn : Int)] 190)) := by go_grown
     have h9 := iBothWay_of cg cv rv last rs g n HI.out s a kn yn nn 4 f m l kv (Y.alloc (.cells #[.int .i64 f, .int .i64 m, .int .i64 3, .int .i64 (kn : Int)] 190)) ⟨f, m, 3, (kn : Int)⟩ (w.heap.size + 1) w.heap.size (by omega) hs HX.out (by omega) HM.out rfl (by omega) HLK.out.1 HLK.out.2 (by omega) ⟨by show (0 : Int) ≤ (kn : Int); omega, by show (kn : Int) ≤ _; omega⟩ (by simp) (HCY.out.same hbL) (HVY.out.below hbL) (HRY.out.grown (grown_of_below hbL _)) (HKY.out.below hbL) HKW.out HO.out (HBI.out.same hbL) (HBP.out.same hbL) (by omega) (by omega)
     have H9 := Lib.hid h9; have HBL := Lib.hid hbL
     clear h9 hbL hm
     go_enter Tryz.func102, Tryz.ntmps102
     go_upto_region 1 with (fail)
     rw [← HY.out]
     go_wp2_with fail
     refine H9.out.mono ?_; rintro e w3 ⟨rfl, s', b', hrun, hb3, hg3⟩
     have HF := Lib.hid (show IPost cg cv rv last (fun s' b => WayRun g rs last a f m l s s' b) w (.returned (.tuple #[])) w3 from ⟨rfl, s', b', hrun, hb3, (HGY.out.trans (grown_of_below HBL.out _)).trans hg3⟩)
     clear hrun hb3 hg3
     go_wp2
     go_end0
     exact HF.out
end
end Go.Proofs.YtdjgicapbpoigaaGreatDoor

namespace Go.Proofs.YtdjgicapbpoigaaGreatDoor
open Go.RowKit
set_option linter.unusedSimpArgs false
set_option linter.unusedVariables false

section
variable (cg : Nat) (cv rv : Value) (last : Int) (rs : List Rl) (g : List In4)
set_option maxRecDepth 100000 in
set_option maxHeartbeats 8000000 in
theorem iPlace_any (hg : waysOk g) (hrw : ∀ r ∈ rs, RlW r) (hrl : rs.length ≤ 1000) : ∀ n, PlaceIH cg cv rv last rs g n := by
 intro n
 induction n with
 | zero =>
   intro s a f m l kv w hn hs ha hC hV hR hK hKW hO
   exact (iPlace_off cg cv rv last s a f m kv false w hC (by omega) (.inl (by omega))).mono fun e w' ⟨h1, s', b, ⟨h2, h3⟩, h4, h5⟩ => ⟨h1, s', b, by rw [h2, h3]; exact .over (by omega), by rw [h3]; rw [h3] at h4; exact h4, h5⟩
 | succ n ih =>
   intro s a f m l kv w hn hs ha hC hV hR hK hKW hO
   have hcg := hC.lt
   have hgl := hg.2.1
   obtain ⟨VA, gn, gc, rfl, hSA0, hne0⟩ := id hV
   have hgn : g.length = gn := by have := hSA0.len; rwa [insR_len] at this
   have hgc := hSA0.cap
   have hgm := hSA0.max
   unfold maxLen at hgm
   obtain ⟨cb, coff, x00, rfl, hcb, -, -⟩ := ins_get hSA0 (k := 0) (by have := hg.1; omega)
   have hcn := hne0 (by have := hg.1; omega) cb coff rfl
   have HGN := Lib.hid hgn
   have HI := Lib.hid ih; have HV := Lib.hid hV; have HR := Lib.hid hR; have HK := Lib.hid hK; have HKW := Lib.hid hKW; have HO := Lib.hid hO; have HRW := Lib.hid hrw; have HG := Lib.hid hg
   obtain ⟨X, hX⟩ : ∃ X, X = w.alloc (.cells #[.int .i64 (a : Int), .int .i64 f, .int .i64 m] 130) := ⟨_, rfl⟩
   have hbX : Below w.heap.size w X := by rw [hX]; go_grown
   have hzX : X.heap.size = w.heap.size + 1 := by rw [hX]; simp
   have bS : Blk X w.heap.size 130 #[.int .i64 (a : Int), .int .i64 f, .int .i64 m] := by rw [hX]; exact Blk.new w _ _
   have HX := Lib.hid hX; have HBS := Lib.hid bS; have HZX := Lib.hid hzX; have HCX := Lib.hid (hC.same hbX); have HGX := Lib.hid (grown_of_below hbX (some cg))
   clear ih hC hV hR hK hKW hO hrw hg hgn hX bS hzX hbX hSA0 hne0
   go_enter Tryz.func67, Tryz.ntmps67
   go_wp2_with fail
   rw [← HX.out]
   go_loopg [] (6001 - s) (fun gk wr => ∃ (s1 a1 : Nat) (f1 m1 : Int), gk = 6001 - s1 ∧ s ≤ s1 ∧ s1 ≤ 6000 ∧ a1 < g.length ∧ Hid (Blk wr cg 78 #[.slice (some ⟨cb, coff, none⟩) gn gc, rv, .int .i64 last, .int .i64 (s1 : Int), .bool false]) ∧ Hid (Blk wr w.heap.size 130 #[.int .i64 (a1 : Int), .int .i64 f1, .int .i64 m1]) ∧ Hid (w.grownBy wr (some cg)) ∧ Hid (∀ t b, WayRun g rs last a1 f1 m1 l s1 t b → WayRun g rs last a f m l s t b))
   case atStart => exact ⟨s, a, f, m, rfl, Nat.le_refl _, hs, ha, HCX, HBS, HGX, Lib.hid (fun t b h => h)⟩
   case round =>
     clear HCX HBS HGX HX HZX ha
     obtain ⟨s1, a1, f1, m1, hgk, hs1, hs16, ha1, HC, HS, HG1, HT⟩ := hrel
     have HGK := Lib.hid hgk
     clear hgk
     have hsl := HS.out.lt; have hcl := HC.out.lt
     by_cases h6 : 6000 ≤ s1
     · go_wp2_with fail
       refine (iStep_off cg _ rv last s1 false _ HC.out (by omega) (.inl h6)).mono ?_; rintro e w1 ⟨rfl, hb1, hg1⟩
       have HF := Lib.hid (show IPost cg (.slice (some ⟨cb, coff, none⟩) gn gc) rv last (fun s' b => WayRun g rs last a f m l s s' b) w (.returned (.tuple #[])) w1 from ⟨rfl, s1 + 1, false, HT.out _ _ (.over h6), hb1, HG1.out.trans hg1⟩)
       clear hb1 hg1
       go_wp2
       go_end0
       exact HF.out
     · have hs7 : s1 < 6000 := by omega
       obtain ⟨x, hx⟩ : ∃ x, g[a1]? = some x := ⟨_, List.getElem?_eq_getElem ha1⟩
       obtain ⟨kn, yn, nn, hxe, hkn, hyn, hnn, hag, hop1, h12, h34, h5⟩ := place_at HG.out hx
       obtain ⟨op, k, yes, no⟩ := x
       simp only [In4.mk.injEq, true_and] at hxe
       obtain ⟨rfl, rfl, rfl⟩ := hxe
       simp only at hop1 h12 h34 h5
       go_wp2_with fail
       refine (iStep_on cg _ rv last s1 _ HC.out hs7).mono ?_; rintro e w1 ⟨rfl, hb1, hg1⟩
       have hS1 := HS.out.grown hg1 (by simp; omega)
       have hgw1 := HG1.out.trans hg1
       obtain ⟨VA', gn', gc', e9, hSA, hne⟩ := HV.out.grown hgw1
       obtain ⟨rfl, rfl, rfl⟩ : some (⟨cb, coff, none⟩ : Addr) = VA' ∧ gn = gn' ∧ gc = gc' := by simpa using e9
       obtain ⟨cb', coff', x', e8, hcb1, hx', hcell⟩ := ins_get hSA (k := a1) (by have := HGN.out; omega)
       obtain ⟨rfl, rfl⟩ : cb = cb' ∧ coff = coff' := by simpa using e8
       rw [hx] at hx'
       obtain rfl := Option.some.inj hx'
       obtain ⟨r0, r1, r2, r3⟩ := hcell w1 _ (Below.refl _ _) hcb1
       simp only at r0 r1 r2 r3
       have c0 := (show w1.cell? ⟨cg, 0, none⟩ = some (Value.slice (some ⟨cb, coff, none⟩) gn gc) from hb1.cell 0)
       have q0 := (show w1.cell? ⟨w.heap.size, 0, none⟩ = some (Value.int .i64 (a1 : Int)) from hS1.cell 0)
       have nw1 := World.new_ne w1 _ c0; have nw2 := World.new_ne w1 _ q0; have nw3 := World.new_ne w1 _ r0; have nw4 := World.new_ne w1 _ r1; have nw5 := World.new_ne w1 _ r2; have nw6 := World.new_ne w1 _ r3
       have hz1 := hg1.size
       have HB1 := Lib.hid hb1; have HS1 := Lib.hid hS1; have HGW := Lib.hid hgw1; have HXX := Lib.hid hx
       have H12 := Lib.hid h12; have H34 := Lib.hid h34; have H5 := Lib.hid h5; have HOP := Lib.hid hop1
       have han : a1 < gn := by have := HGN.out; omega
       clear hb1 hS1 hg1 hgw1 e9 hSA hne e8 hx' hx hcell h12 h34 h5 hop1 h6 HC HS
       go_wp2
       go_region_held3 (fun w' => w'.cell? ⟨cg, 0, none⟩ = some (.slice (some ⟨cb, coff, none⟩) gn gc) ∧ w'.cell? ⟨w.heap.size, 0, none⟩ = some (.int .i64 (a1 : Int)) ∧ w'.cell? ⟨cb, coff + a1 * 4, none⟩ = some (.int .i64 op) ∧ w'.cell? ⟨cb, coff + a1 * 4 + 1, none⟩ = some (.int .i64 (kn : Int)) ∧ w'.cell? ⟨cb, coff + a1 * 4 + 2, none⟩ = some (.int .i64 (yn : Int)) ∧ w'.cell? ⟨cb, coff + a1 * 4 + 3, none⟩ = some (.int .i64 (nn : Int))) (go_keep) (fail)
       obtain ⟨Z, hZ⟩ : ∃ Z, Z = (w1.alloc (.cells #[.int .i64 op, .int .i64 (kn : Int), .int .i64 (yn : Int), .int .i64 (nn : Int)] 63)).drew := ⟨_, rfl⟩
       have hbZ : Below w1.heap.size w1 Z := by rw [hZ]; go_grown
       have hzZ : Z.heap.size = w1.heap.size + 1 := by rw [hZ]; simp
       have bZ : Blk Z w1.heap.size 63 #[.int .i64 op, .int .i64 (kn : Int), .int .i64 (yn : Int), .int .i64 (nn : Int)] := by rw [hZ]; exact (Blk.new w1 _ _).drew
       have i1 : cg < Z.heap.size := by omega
       have i2 : w.heap.size < Z.heap.size := by omega
       have i4 : w1.heap.size < Z.heap.size := by omega
       have i5 : ¬ w1.heap.size = cg := by omega
       have i6 : ¬ w1.heap.size = w.heap.size := by omega
       have i7 : ¬ w.heap.size = cg := by omega
       have i8 : ¬ cg = w.heap.size := by omega
       have i9 : ¬ w.heap.size = w1.heap.size := by omega
       have BZ := HB1.out.same hbZ; have SZ := HS1.out.same hbZ
       have q0 := (show Z.cell? ⟨w.heap.size, 0, none⟩ = some (.int .i64 (a1 : Int)) from SZ.cell 0); have q1 := (show Z.cell? ⟨w.heap.size, 1, none⟩ = some (.int .i64 f1) from SZ.cell 1); have q2 := (show Z.cell? ⟨w.heap.size, 2, none⟩ = some (.int .i64 m1) from SZ.cell 2)
       have t0 := (show Z.cell? ⟨w1.heap.size, 0, none⟩ = some (.int .i64 op) from bZ.cell 0); have t1 := (show Z.cell? ⟨w1.heap.size, 1, none⟩ = some (.int .i64 (kn : Int)) from bZ.cell 1); have t2 := (show Z.cell? ⟨w1.heap.size, 2, none⟩ = some (.int .i64 (yn : Int)) from bZ.cell 2); have t3 := (show Z.cell? ⟨w1.heap.size, 3, none⟩ = some (.int .i64 (nn : Int)) from bZ.cell 3)
       have sf0 := SZ.frozen 0; have sf1 := SZ.frozen 1; have sf2 := SZ.frozen 2
       have HBZ := Lib.hid BZ; have HSZ := Lib.hid SZ; have HGZ := Lib.hid (HGW.out.trans (grown_of_below hbZ _))
       rw [← hZ]
       clear hZ hbZ hzZ bZ BZ SZ r0 r1 r2 r3 c0 nw1 nw2 nw3 nw4 nw5 nw6
       have hset : ∀ (u0 u1 u2 : Value), Blk (((Z.setCell ⟨w.heap.size, 0, none⟩ u0).setCell ⟨w.heap.size, 1, none⟩ u1).setCell ⟨w.heap.size, 2, none⟩ u2) cg 78 #[.slice (some ⟨cb, coff, none⟩) gn gc, rv, .int .i64 last, .int .i64 ((s1 + 1 : Nat) : Int), .bool false] ∧ w.grownBy (((Z.setCell ⟨w.heap.size, 0, none⟩ u0).setCell ⟨w.heap.size, 1, none⟩ u1).setCell ⟨w.heap.size, 2, none⟩ u2) (some cg) ∧ Blk (((Z.setCell ⟨w.heap.size, 0, none⟩ u0).setCell ⟨w.heap.size, 1, none⟩ u1).setCell ⟨w.heap.size, 2, none⟩ u2) w.heap.size 130 #[u0, u1, u2] := fun u0 u1 u2 =>
         ⟨((HBZ.out.far (p := ⟨w.heap.size, 0, none⟩) i8 _).far (p := ⟨w.heap.size, 1, none⟩) i8 _).far (p := ⟨w.heap.size, 2, none⟩) i8 _, grown_new (grown_new (grown_new HGZ.out (Nat.le_refl _) _) (Nat.le_refl _) _) (Nat.le_refl _) _, ((HSZ.out.set_ 0 u0).set_ 1 u1).set_ 2 u2⟩
       have HSET := Lib.hid hset
       clear hset
       by_cases o1 : op = 1
       · subst o1
         go_wp2
         go_roundg (6001 - (s1 + 1))
         case measure => have := HGK.out; omega
         case rel => exact ⟨s1 + 1, a1 + 1, (kn : Int), 4294967295, rfl, by omega, by omega, H12.out (by simp), Lib.hid (HSET.out _ _ _).1, Lib.hid (HSET.out (.int .i64 ((a1 : Int) + 1)) _ _).2.2, Lib.hid (HSET.out _ _ _).2.1, Lib.hid (fun t b h => HT.out t b (.load hs7 HXX.out rfl h))⟩
       · by_cases o2 : op = 2
         · subst o2
           go_wp2
           go_roundg (6001 - (s1 + 1))
           case measure => have := HGK.out; omega
           case rel => exact ⟨s1 + 1, a1 + 1, f1, _, rfl, by omega, by omega, H12.out (by simp), Lib.hid (HSET.out _ _ _).1, Lib.hid (HSET.out (.int .i64 ((a1 : Int) + 1)) _ _).2.2, Lib.hid (HSET.out _ _ _).2.1, Lib.hid (fun t b h => HT.out t b (.mask hs7 HXX.out rfl h))⟩
         · by_cases o5 : op = 5
           · subst o5
             have he : a1 + (1 + kn) = a1 + 1 + kn := by omega
             have HEE := Lib.hid he
             clear he
             go_wp2
             go_roundg (6001 - (s1 + 1))
             case measure => have := HGK.out; omega
             case rel => exact ⟨s1 + 1, a1 + (1 + kn), f1, m1, rfl, by omega, by omega, by have := H5.out (by simp); have := HEE.out; omega, Lib.hid (HBZ.out.far (p := ⟨w.heap.size, 0, none⟩) i8 _), Lib.hid (HSZ.out.set_ 0 (.int .i64 ((a1 : Int) + (1 + (kn : Int))))), Lib.hid (grown_new HGZ.out (Nat.le_refl _) _), Lib.hid (fun t b h => HT.out t b (.jump hs7 HXX.out rfl (by have := h; rw [HEE.out] at this; exact this)))⟩
           · by_cases o6 : op = 6
             · subst o6
               have h9 : Calls Tryz.prog 101 #[.pointer (some ⟨cg, 0, none⟩), .agg #[.int .i64 0, .int .i64 0, .int .i64 (kn : Int)], kv] Z (IPost cg (.slice (some ⟨cb, coff, none⟩) gn gc) rv last (fun s' b => RuleRun rs last 0 0 (kn : Int) l (s1 + 1) s' b) Z) := iRule_any cg (.slice (some ⟨cb, coff, none⟩) gn gc) last rs rv HRW.out hrl n (s1 + 1) 0 0 (kn : Int) l kv Z (by omega) (by omega) (by omega) (by omega) (fun r _ => Nat.zero_le _) HBZ.out (HR.out.grown HGZ.out) (HK.out.grown HGZ.out) HKW.out HO.out
               have H9 := Lib.hid h9
               clear h9
               go_wp2_with fail
               refine H9.out.mono ?_; rintro e w3 ⟨rfl, s', b', hrun, hb3, hg3⟩
               have HF := Lib.hid (show IPost cg (.slice (some ⟨cb, coff, none⟩) gn gc) rv last (fun s' b => WayRun g rs last a f m l s s' b) w (.returned (.tuple #[])) w3 from ⟨rfl, s', b', HT.out _ _ (.end_ hs7 HXX.out rfl hrun), hb3, HGZ.out.trans hg3⟩)
               clear hrun hb3 hg3
               go_wp2
               go_end0
               exact HF.out
             · have o34 : op = 3 ∨ op = 4 := by have := HOP.out; omega
               have h9 := iBranch_of cg (.slice (some ⟨cb, coff, none⟩) gn gc) rv last rs g HG.out n HI.out s1 a1 f1 m1 l kv Z ⟨op, (kn : Int), (yn : Int), (nn : Int)⟩ (by omega) hs7 HXX.out o34 HBZ.out (HV.out.grown HGZ.out) (HR.out.grown HGZ.out) (HK.out.grown HGZ.out) HKW.out HO.out
               clear o34
               have H9 := Lib.hid h9
               clear h9
               go_wp2_with fail
               refine H9.out.mono ?_; rintro e w3 ⟨rfl, s', b', hrun, hb3, hg3⟩
               have HF := Lib.hid (show IPost cg (.slice (some ⟨cb, coff, none⟩) gn gc) rv last (fun s' b => WayRun g rs last a f m l s s' b) w (.returned (.tuple #[])) w3 from ⟨rfl, s', b', HT.out _ _ (hrun), hb3, HGZ.out.trans hg3⟩)
               clear hrun hb3 hg3
               go_wp2
               go_end0
               exact HF.out
end
end Go.Proofs.YtdjgicapbpoigaaGreatDoor

namespace Go.Proofs.YtdjgicapbpoigaaGreatDoor
open Go.RowKit
set_option linter.unusedSimpArgs false
set_option linter.unusedVariables false

theorem info_Wan : (Tryz.prog.info? 192).map (fun i => (i.zero, i.size, i.bytes)) = some (some (.agg #[.int .i64 0, .int .i64 0, .int .i64 0, .int .i64 0, .bool false]), 5, 40) := by kernel_rfl
theorem own_far_ne {w : World} {base k m : Nat} {e t : TypeId} {size : Nat} {v : Value} {xs : List Value} {cs : Array Value} (h : w.ownsRow base e size v m xs) (hk : k < base) : some k ≠ v.ownBlock := fun e => by have := (h.lt k e.symm).1; omega

set_option maxHeartbeats 2000000 in
theorem want_any (ob n : Nat) (v vd : Value) (nb : Value) (L : List (Lk × Bool)) (x : Lk × Bool) (w : World) (hB : Blk w ob 126 #[v, vd, nb]) (hO : w.ownsRow (ob + 1) 192 5 v n (knR L).flatten) (hn : n ≤ 100000) :
   Calls Tryz.prog 99 #[.int .i64 x.1.field, .int .i64 x.1.mask, .int .i64 x.1.op, .int .i64 x.1.value, .bool x.2, .pointer (some ⟨ob, 0, none⟩)] w fun e w' =>
     e = .returned (.tuple #[]) ∧ ∃ v', Blk w' ob 126 #[v', vd, nb] ∧ w'.ownsRow (ob + 1) 192 5 v' (n + 1) (knR (L ++ [x])).flatten ∧ Below ob w w' := by
 obtain ⟨⟨xf, xm, xo, xv⟩, xh⟩ := x
 simp only
 have hlt := hB.lt
 have HO := Lib.hid hO; have HB := Lib.hid hB
 obtain ⟨A, n', c, rfl, hcn, hcm⟩ : ∃ A n' c, v = .slice A n' c ∧ n' ≤ c ∧ c ≤ maxLen := by
   rcases hO.2 with ⟨rfl, h0⟩ | ⟨g, cap, cur, rfl, _, hg, hnc, hm, _, htake⟩
   · exact ⟨none, 0, 0, rfl, by omega, by simp⟩
   · exact ⟨_, _, _, rfl, hnc, hm⟩
 have e0 := (show _ = some (Value.slice A n' c) from hB.cell 0)
 have HKR := Lib.hid (knR_snoc L (⟨xf, xm, xo, xv⟩, xh))
 clear hO hB
 go_enter Tryz.func99, Tryz.ntmps99
 go_wp2_with (at_builtin; go_must (refine wpList_app1g (w0 := w) rfl (.tmp 12) (.tmp 20) _ rfl (ob + 1) 192 Tryz.underlying124 info_Wan rfl (by omega) (by omega) (.slice A n' c) n (knR L) rfl HO.out rfl (by simp [Value.oneCell']) rfl (by omega) (by omega) ?_); intro v2 W2 hown hg _; obtain ⟨g5, cap5, rfl, hg5, hg5'⟩ := hown.form (by omega); have hbb : Below ob w W2 := (Below.refl ob w).grown hg (by omega) (fun k hk => by have := (HO.out.lt k hk).1; omega); have Y := HB.out.grown hg (own_far_ne (t := 192) (cs := #[]) HO.out (Nat.lt_succ_self ob)); have y0 := (show _ = some (Value.slice A n' c) from Y.cell 0); have yf := Y.frozen 0; have HY := Lib.hid Y; have HOW := Lib.hid hown; clear hown hg Y)
 go_end0
 refine ⟨rfl, _, HY.out.set_ 0 _, ?_, hbb.setCell (p := ⟨ob, 0, none⟩) (Nat.le_refl _) _⟩
 rw [HKR.out]
 exact ownsRow_setCell_other (a := ⟨ob, 0, none⟩) HOW.out (fun e => by have := (HOW.out.lt ob e).1; omega) _
end Go.Proofs.YtdjgicapbpoigaaGreatDoor

namespace Go.Proofs.YtdjgicapbpoigaaGreatDoor
open Go.RowKit
set_option linter.unusedSimpArgs false
set_option linter.unusedVariables false

def CkrPost (r : Rl) (w : World) (e : Ending) (w' : World) : Prop :=
 ∃ A n c nb, e = .returned (.agg #[.slice A n c, .int .i64 r.verdict, .bool nb]) ∧ ((nb = true ∧ Never r) ∨ (nb = false ∧ ¬ Never r)) ∧ w'.ownsRow w.heap.size 192 5 (.slice A n c) (looksOf r).length (knR (looksOf r)).flatten ∧ Below w.heap.size w w'

set_option maxRecDepth 100000 in
set_option maxHeartbeats 4000000 in
theorem checkRuleOf_any (r : Rl) (tv : Value) (w : World) (hT : Sl w 4 tv (tsR r.tests)) (hr : RlW r) :
   Calls Tryz.prog 66 #[.agg #[.int .i64 r.verdict, .int .i64 r.low, .int .i64 r.high, tv]] w (CkrPost r w) := by
 obtain ⟨vd, lo, hi, ts⟩ := r
 simp only at hT ⊢
 obtain ⟨⟨l0, l1⟩, ⟨h0, h1⟩, hl, hts⟩ := hr
 simp only at l0 l1 h0 h1 hl hts
 obtain ⟨A, n, c, rfl, hA⟩ := hT
 have hn : ts.length = n := by have := hA.len; rwa [tsR_len] at this
 have hc := hA.cap
 have hm := hA.max
 unfold maxLen at hm
 rw [hn] at hl
 have HL := Lib.hid hn; have HA := Lib.hid hA; have HT := Lib.hid hts
 clear hn hA hts
 obtain ⟨X, hX⟩ : ∃ X, X = ((w.alloc (.cells #[.int .i64 vd, .int .i64 lo, .int .i64 hi, .slice A n c] 58)).alloc (.cells #[.slice none 0 0, .int .i64 0, .bool false] 126)).alloc (.cells #[.slice none 0 0, .int .i64 vd, .bool false] 126) := ⟨_, rfl⟩
 have hbX : Below w.heap.size w X := by rw [hX]; go_grown
 have hzX : X.heap.size = w.heap.size + 1 + 1 + 1 := by rw [hX]; simp
 have BR : Blk X w.heap.size 58 #[.int .i64 vd, .int .i64 lo, .int .i64 hi, .slice A n c] := by rw [hX]; exact ((Blk.new w _ _).alloc _).alloc _
 have BQ : Blk X (w.heap.size + 1) 126 #[.slice none 0 0, .int .i64 0, .bool false] := by
   rw [hX]
   have := (Blk.new (w.alloc (.cells #[.int .i64 vd, .int .i64 lo, .int .i64 hi, .slice A n c] 58)) 126 #[.slice none 0 0, .int .i64 0, .bool false]).alloc (.cells #[.slice none 0 0, .int .i64 vd, .bool false] 126)
   simpa using this
 have BO : Blk X (w.heap.size + 1 + 1) 126 #[.slice none 0 0, .int .i64 vd, .bool false] := by
   rw [hX]
   have := Blk.new ((w.alloc (.cells #[.int .i64 vd, .int .i64 lo, .int .i64 hi, .slice A n c] 58)).alloc (.cells #[.slice none 0 0, .int .i64 0, .bool false] 126)) 126 #[.slice none 0 0, .int .i64 vd, .bool false]
   simpa using this
 have hlX : w.heap.size < X.heap.size := by omega
 have b1 := (show _ = some (Value.int .i64 lo) from BR.cell 1); have b2 := (show _ = some (Value.int .i64 hi) from BR.cell 2)
 have HO0 := Lib.hid (show X.ownsRow (w.heap.size + 1 + 1 + 1) 192 5 (.slice none 0 0) 0 (knR []).flatten from World.ownsRow_nil _ _ _ _)
 have HX := Lib.hid hX; have HBR := Lib.hid BR; have HBQ := Lib.hid BQ; have HBO := Lib.hid BO; have HZ := Lib.hid hzX
 clear hX BR BQ BO hzX
 go_enter Tryz.func66, Tryz.ntmps66
 go_upto_if 15 with (fail)
 rw [← HX.out]
 go_cut [38] (fun s38 wx => ∃ v, Hid (Blk wx (w.heap.size + 1 + 1) 126 #[v, .int .i64 vd, .bool false]) ∧ Hid (wx.ownsRow (w.heap.size + 1 + 1 + 1) 192 5 v (rangeL lo hi).length (knR (rangeL lo hi)).flatten) ∧ Below (w.heap.size + 1 + 1) X wx)
 case first =>
   by_cases h : lo = hi
   · have HR := Lib.hid (show rangeL lo hi = [(⟨0, 4294967295, 1, lo⟩, true)] by simp [rangeL, h])
     have hd : (lo == hi) = true := by simp [h]
     clear h
     go_wp2_with fail
     refine (want_any (w.heap.size + 1 + 1) 0 (.slice none 0 0) (.int .i64 vd) (.bool false) [] (⟨0, 4294967295, 1, lo⟩, true) X HBO.out HO0.out (by omega)).mono ?_; rintro e W2 ⟨rfl, v2, hbW2, hoW2, hlW2⟩
     have HB2 := Lib.hid hbW2; have HO2 := Lib.hid hoW2; clear hbW2 hoW2
     go_wp2
     go_meet
     exact ⟨v2, HB2, Lib.hid (by rw [HR.out]; exact HO2.out), hlW2⟩
   · have hd : (lo == hi) = false := by simp [h]
     by_cases h2 : 0 < lo
     · by_cases h3 : hi < 4294967295
       · have HR := Lib.hid (show rangeL lo hi = [(⟨0, 4294967295, 3, lo - 1⟩, true), (⟨0, 4294967295, 3, hi⟩, false)] by simp [rangeL, h, h2, h3])
         go_wp2_with fail
         refine (want_any (w.heap.size + 1 + 1) 0 (.slice none 0 0) (.int .i64 vd) (.bool false) [] (⟨0, 4294967295, 3, lo - 1⟩, true) X HBO.out HO0.out (by omega)).mono ?_; rintro e W2 ⟨rfl, v2, hbW2, hoW2, hlW2⟩
         have y2 := (show W2.cell? ⟨w.heap.size, 2, none⟩ = some (.int .i64 hi) from (hlW2.cell (p := ⟨w.heap.size, 2, none⟩) (by show w.heap.size < _; omega)).trans b2)
         have HB2 := Lib.hid hbW2; have HO2 := Lib.hid hoW2; clear hbW2 hoW2
         go_wp2_with fail
         refine (want_any (w.heap.size + 1 + 1) 1 v2 (.int .i64 vd) (.bool false) [(⟨0, 4294967295, 3, lo - 1⟩, true)] (⟨0, 4294967295, 3, hi⟩, false) W2 HB2.out HO2.out (by omega)).mono ?_; rintro e W3 ⟨rfl, v3, hbW3, hoW3, hlW3⟩
         have HB3 := Lib.hid hbW3; have HO3 := Lib.hid hoW3; clear hbW3 hoW3
         go_wp2
         go_meet
         exact ⟨v3, HB3, Lib.hid (by rw [HR.out]; exact HO3.out), hlW2.trans hlW3⟩
       · have HR := Lib.hid (show rangeL lo hi = [(⟨0, 4294967295, 3, lo - 1⟩, true)] by simp [rangeL, h, h2, h3])
         go_wp2_with fail
         refine (want_any (w.heap.size + 1 + 1) 0 (.slice none 0 0) (.int .i64 vd) (.bool false) [] (⟨0, 4294967295, 3, lo - 1⟩, true) X HBO.out HO0.out (by omega)).mono ?_; rintro e W2 ⟨rfl, v2, hbW2, hoW2, hlW2⟩
         have y2 := (show W2.cell? ⟨w.heap.size, 2, none⟩ = some (.int .i64 hi) from (hlW2.cell (p := ⟨w.heap.size, 2, none⟩) (by show w.heap.size < _; omega)).trans b2)
         have HB2 := Lib.hid hbW2; have HO2 := Lib.hid hoW2; clear hbW2 hoW2
         go_wp2
         go_meet
         exact ⟨v2, HB2, Lib.hid (by rw [HR.out]; exact HO2.out), hlW2⟩
     · by_cases h3 : hi < 4294967295
       · have HR := Lib.hid (show rangeL lo hi = [(⟨0, 4294967295, 3, hi⟩, false)] by simp [rangeL, h, h2, h3])
         go_wp2_with fail
         refine (want_any (w.heap.size + 1 + 1) 0 (.slice none 0 0) (.int .i64 vd) (.bool false) [] (⟨0, 4294967295, 3, hi⟩, false) X HBO.out HO0.out (by omega)).mono ?_; rintro e W2 ⟨rfl, v2, hbW2, hoW2, hlW2⟩
         have HB2 := Lib.hid hbW2; have HO2 := Lib.hid hoW2; clear hbW2 hoW2
         go_wp2
         go_meet
         exact ⟨v2, HB2, Lib.hid (by rw [HR.out]; exact HO2.out), hlW2⟩
       · have HR := Lib.hid (show rangeL lo hi = [] by simp [rangeL, h, h2, h3])
         go_wp2
         go_meet
         exact ⟨_, HBO, Lib.hid (by rw [HR.out]; exact HO0.out), Below.refl _ _⟩
 case rest =>
   obtain ⟨v, HB, HO, hbx⟩ := hcut
   clear b1 b2 HBO HO0
   have hlx2 : w.heap.size < w.heap.size + 1 + 1 := by omega
   have b3 := (show _ = some (Value.slice A n c) from (hbx.cell (p := ⟨w.heap.size, 3, none⟩) (by show w.heap.size < _; omega)).trans (HBR.out.cell 3))
   have HRL := Lib.hid (rangeL_len lo hi)
   have HBX := Lib.hid hbX
   go_wp2
   go_loopw [38] (fun i wr => ∃ (k : Nat) (v : Value) (nb : Bool), k ≤ n ∧ i = .int .i64 k ∧ Hid (Blk wr (w.heap.size + 1 + 1) 126 #[v, .int .i64 vd, .bool nb]) ∧ Hid (wr.ownsRow (w.heap.size + 1 + 1 + 1) 192 5 v (rangeL lo hi ++ (ts.take k).flatMap testL).length (knR (rangeL lo hi ++ (ts.take k).flatMap testL)).flatten) ∧ Hid ((nb = true ∧ NeverB (ts.take k)) ∨ (nb = false ∧ ¬ NeverB (ts.take k))) ∧ Below (w.heap.size + 1 + 1) X wr) (fun i _ => n - (intOf i).toNat)
   case atStart => exact ⟨0, v, false, Nat.zero_le _, rfl, HB, Lib.hid (by simpa using HO.out), Lib.hid (.inr ⟨rfl, fun h => by obtain ⟨t, ht, _⟩ := h; simp at ht⟩), hbx⟩
   case round =>
     clear HB HO hbx b3
     obtain ⟨k, v, nb, hk, rfl, HB, HO, HN, hb⟩ := hrel
     have hsz := hb.size
     have hzx := HZ.out
     have hz0 : w.heap.size + 1 + 1 < wr.heap.size := by omega
     have hbw := HBX.out.trans (hb.mono (by omega))
     by_cases hlt : k < n
     · obtain ⟨b, off, ⟨tf, tm, tO, tvv⟩, rfl, hab, hgp, hcell⟩ := ts_get HA.out hlt
       obtain ⟨c0, c1, c2, c3⟩ := hcell wr _ hbw hab
       simp only at c0 c1 c2 c3
       obtain ⟨tv0, tv1, htop⟩ := HT.out _ (List.mem_of_getElem? hgp)
       simp only at tv0 tv1 htop
       have HTK := Lib.hid (take_next hgp)
       have HLN := Lib.hid (show (rangeL lo hi ++ (ts.take k).flatMap testL).length ≤ 200 by have h1 := flat_tests_len (ts.take k); have h2 := HRL.out; rw [List.length_append]; have h3 : (ts.take k).length ≤ k := List.length_take_le _ _; omega)
       have hln := HLN.out
       have o2 := (show _ = some (Value.bool nb) from HB.out.cell 2); have of2 := HB.out.frozen 2
       have HKEEP := Lib.hid (show NeverB (ts.take k) → NeverB (ts.take (k + 1)) from fun ⟨t, ht, h⟩ => ⟨t, by rw [HTK.out]; exact List.mem_append_left _ ht, h⟩)
       clear hcell hgp hzx
       by_cases h2 : tO = 2
       · subst h2
         by_cases h0 : tvv = 0
         · subst h0
           have HNX := Lib.hid (show (rangeL lo hi ++ (ts.take (k + 1)).flatMap testL) = (rangeL lo hi ++ (ts.take k).flatMap testL) by rw [HTK.out, List.flatMap_append]; simp [testL])
           have HNE := Lib.hid (show NeverB (ts.take (k + 1)) from ⟨⟨tf, tm, 2, 0⟩, by rw [HTK.out]; simp, rfl, rfl⟩)
           go_wp2
           exact ⟨⟨k + 1, v, true, by omega, by go_num, Lib.hid ((HB.out.set_ 2 (.bool true)).alloc _), Lib.hid (by rw [HNX.out]; exact own_below (ownsRow_setCell_other (a := ⟨w.heap.size + 1 + 1, 2, none⟩) HO.out (fun e => by have := (HO.out.lt _ e).1; simp only at this; omega) _) (by go_grown)), Lib.hid (.inl ⟨rfl, HNE.out⟩), (hb.trans (show Below (w.heap.size + 1 + 1) wr _ by go_grown))⟩, by simp [intOf]; omega⟩
         · have HZT := Lib.hid (show testL ⟨tf, tm, 2, tvv⟩ = [(⟨tf, tm, 3, tvv - 1⟩, false)] by simp [testL, h0])
           have HLK := Lib.hid (looks_next (R := rangeL lo hi) HTK.out HZT.out)
           have HNO := Lib.hid (show (nb = true ∧ NeverB (ts.take (k + 1))) ∨ (nb = false ∧ ¬ NeverB (ts.take (k + 1))) from HN.out.elim (fun h => .inl ⟨h.1, HKEEP.out h.2⟩) (fun h => .inr ⟨h.1, never_next HTK.out h.2 (fun h => h0 h.2)⟩))
           go_wp2_with fail
           refine (want_any (w.heap.size + 1 + 1) _ v (.int .i64 vd) (.bool nb) (rangeL lo hi ++ (ts.take k).flatMap testL) (⟨tf, tm, 3, tvv - 1⟩, false) _ (HB.out.alloc _) (own_below HO.out (by go_grown)) (by omega)).mono ?_; rintro e W2 ⟨rfl, v2, hbW2, hoW2, hlW2⟩
           have HB2 := Lib.hid hbW2; have HO2 := Lib.hid hoW2; clear hbW2 hoW2
           go_wp2
           exact ⟨⟨k + 1, v2, nb, by omega, by go_num, HB2, Lib.hid (by rw [HLK.out, List.length_append]; exact HO2.out), HNO, hb.trans ((show Below (w.heap.size + 1 + 1) wr _ by go_grown).trans hlW2)⟩, by simp [intOf]; omega⟩
       · have HZT := Lib.hid (show testL ⟨tf, tm, tO, tvv⟩ = [(⟨tf, tm, tO, tvv⟩, true)] by simp [testL, h2])
         have HLK := Lib.hid (looks_next (R := rangeL lo hi) HTK.out HZT.out)
         have HNO := Lib.hid (show (nb = true ∧ NeverB (ts.take (k + 1))) ∨ (nb = false ∧ ¬ NeverB (ts.take (k + 1))) from HN.out.elim (fun h => .inl ⟨h.1, HKEEP.out h.2⟩) (fun h => .inr ⟨h.1, never_next HTK.out h.2 (fun h => h2 h.1)⟩))
         go_wp2_with fail
         refine (want_any (w.heap.size + 1 + 1) _ v (.int .i64 vd) (.bool nb) (rangeL lo hi ++ (ts.take k).flatMap testL) (⟨tf, tm, tO, tvv⟩, true) _ (HB.out.alloc _) (own_below HO.out (by go_grown)) (by omega)).mono ?_; rintro e W2 ⟨rfl, v2, hbW2, hoW2, hlW2⟩
         have HB2 := Lib.hid hbW2; have HO2 := Lib.hid hoW2; clear hbW2 hoW2
         go_wp2
         exact ⟨⟨k + 1, v2, nb, by omega, by go_num, HB2, Lib.hid (by rw [HLK.out, List.length_append]; exact HO2.out), HNO, hb.trans ((show Below (w.heap.size + 1 + 1) wr _ by go_grown).trans hlW2)⟩, by simp [intOf]; omega⟩
     · obtain rfl : k = n := by omega
       have HE := Lib.hid (show ts.take k = ts from List.take_of_length_le (by rw [HL.out]; omega))
       rw [HE.out] at HO HN
       obtain ⟨A5, n5, c5, rfl, hS5⟩ := SlA.of_own HO.out (knR_len _) (knR_rows _)
       have d0 := (show _ = some (Value.slice A5 n5 c5) from HB.out.cell 0); have d1 := (show _ = some (Value.int .i64 vd) from HB.out.cell 1); have d2 := (show _ = some (Value.bool nb) from HB.out.cell 2)
       have hq1 : w.heap.size + 1 < X.heap.size := by have := HZ.out; omega
       have BQ := HBQ.out.below hb (by omega)
       have w0 := BQ.frozen 0; have w1 := BQ.frozen 1; have w2 := BQ.frozen 2
       have v0 := (show _ = some (Value.slice none 0 0) from BQ.cell 0); have v1 := (show _ = some (Value.int .i64 0) from BQ.cell 1); have v2 := (show _ = some (Value.bool false) from BQ.cell 2)
       have T1 := (BQ.set_ 0 (.slice A5 n5 c5)).set_ 1 (.int .i64 vd)
       have T2 := T1.set_ 2 (.bool nb)
       have z0 := (show _ = some (Value.slice A5 n5 c5) from T2.cell 0); have z1 := (show _ = some (Value.int .i64 vd) from T2.cell 1); have z2 := (show _ = some (Value.bool nb) from T2.cell 2)
       have HOF := Lib.hid (show ((((wr.setCell ⟨w.heap.size + 1, 0, none⟩ (.slice A5 n5 c5)).setCell ⟨w.heap.size + 1, 1, none⟩ (.int .i64 vd)).setCell ⟨w.heap.size + 1, 2, none⟩ (.bool nb)).ownsRow w.heap.size 192 5 (.slice A5 n5 c5) (looksOf ⟨vd, lo, hi, ts⟩).length (knR (looksOf ⟨vd, lo, hi, ts⟩)).flatten) from by
         have h1 := HO.out
         have hne : ∀ k, (Value.slice A5 n5 c5).ownBlock = some k → k ≠ w.heap.size + 1 := fun k hk => by have := (h1.lt k hk).1; omega
         exact own_base (ownsRow_setCell_other (a := ⟨w.heap.size + 1, 2, none⟩) (ownsRow_setCell_other (a := ⟨w.heap.size + 1, 1, none⟩) (ownsRow_setCell_other (a := ⟨w.heap.size + 1, 0, none⟩) h1 (fun e => hne _ e rfl) _) (fun e => hne _ e rfl) _) (fun e => hne _ e rfl) _) (by omega))
       have HBF := Lib.hid (show Below w.heap.size w (((wr.setCell ⟨w.heap.size + 1, 0, none⟩ (.slice A5 n5 c5)).setCell ⟨w.heap.size + 1, 1, none⟩ (.int .i64 vd)).setCell ⟨w.heap.size + 1, 2, none⟩ (.bool nb)) from ((hbw.setCell (p := ⟨w.heap.size + 1, 0, none⟩) (by show w.heap.size ≤ w.heap.size + 1; omega) _).setCell (p := ⟨w.heap.size + 1, 1, none⟩) (by show w.heap.size ≤ w.heap.size + 1; omega) _).setCell (p := ⟨w.heap.size + 1, 2, none⟩) (by show w.heap.size ≤ w.heap.size + 1; omega) _)
       clear HB HO hS5 BQ T1 T2 hb hbw
       go_wp2
       refine bodyPost_ret (v := .agg #[.slice A5 n5 c5, .int .i64 vd, .bool nb]) (by simp [results, Tryz.results66, go_sem, z0, z1, z2]) rfl ?_
       exact ⟨_, _, _, nb, rfl, HN.out, HOF.out, HBF.out⟩
end Go.Proofs.YtdjgicapbpoigaaGreatDoor

namespace Go.Proofs.YtdjgicapbpoigaaGreatDoor
open Go.RowKit
set_option linter.unusedSimpArgs false
set_option linter.unusedVariables false

theorem info_Ckr : (Tryz.prog.info? 126).map (fun i => (i.zero, i.size, i.bytes)) = some (some (.agg #[.slice none 0 0, .int .i64 0, .bool false]), 3, 40) := by kernel_rfl
theorem own_apart_t {w : World} {b1 b2 n1 n2 s1 s2 : Nat} {e1 e2 : TypeId} {v1 v2 : Value} {x1 x2 : List Value} (h1 : w.ownsRow b1 e1 s1 v1 n1 x1) (h2 : w.ownsRow b2 e2 s2 v2 n2 x2) (hne : e1 ≠ e2) : v1.ownBlock = none ∨ v1.ownBlock ≠ v2.ownBlock := by
 rcases h1.2 with ⟨rfl, _⟩ | ⟨g1, cap1, cur1, rfl, _, hg1, _⟩
 · exact .inl rfl
 rcases h2.2 with ⟨rfl, _⟩ | ⟨g2, cap2, cur2, rfl, _, hg2, _⟩
 · exact .inr (by simp [Value.ownBlock])
 refine .inr fun e => ?_
 simp only [Value.ownBlock, Option.some.injEq] at e
 subst e
 rw [hg1] at hg2
 simp only [Option.some.injEq, Obj.cells.injEq] at hg2
 exact hne hg2.2.1
def CkRows (w : World) (base : Nat) (rs : List Rl) (css : List (List Value)) : Prop := css.length = rs.length ∧ ∀ (i : Nat) (r : Rl) (cs : List Value), rs[i]? = some r → css[i]? = some cs →
 ∃ A n c nb, cs = [.slice A n c, .int .i64 r.verdict, .bool nb] ∧ ((nb = true ∧ Never r) ∨ (nb = false ∧ ¬ Never r)) ∧ w.ownsRow base 192 5 (.slice A n c) (looksOf r).length (knR (looksOf r)).flatten
theorem CkRows.nil (w : World) (base : Nat) : CkRows w base [] [] := ⟨rfl, fun i r cs h => by simp at h⟩
theorem CkRows.next {w w' : World} {base : Nat} {rs : List Rl} {css : List (List Value)} (h : CkRows w base rs css) (hb : Below w.heap.size w w') : CkRows w' base rs css :=
 ⟨h.1, fun i r cs h1 h2 => by obtain ⟨A, n, c, nb, e, h3, ho⟩ := h.2 i r cs h1 h2; exact ⟨A, n, c, nb, e, h3, own_below ho hb⟩⟩
theorem CkRows.app {w w' : World} {base b2 m : Nat} {rs : List Rl} {css : List (List Value)} {v : Value} {xs : List Value} (h : CkRows w base rs css) (ho : w.ownsRow b2 126 3 v m xs) (hg : w.grownBy w' v.ownBlock) : CkRows w' base rs css :=
 ⟨h.1, fun i r cs h1 h2 => by obtain ⟨A, n, c, nb, e, h3, hw⟩ := h.2 i r cs h1 h2; exact ⟨A, n, c, nb, e, h3, hw.kept hg (own_apart_t hw ho (by decide))⟩⟩
theorem CkRows.far {w : World} {base g i : Nat} {rs : List Rl} {css : List (List Value)} (h : CkRows w base rs css) (hg : g < base) (u : Value) : CkRows (w.setCell ⟨g, i, none⟩ u) base rs css :=
 ⟨h.1, fun j r cs h1 h2 => by obtain ⟨A, n, c, nb, e, h3, hw⟩ := h.2 j r cs h1 h2; exact ⟨A, n, c, nb, e, h3, ownsRow_setCell_other (a := ⟨g, i, none⟩) hw (fun e => by have := (hw.lt _ e).1; simp only at this; omega) u⟩⟩
theorem CkRows.snoc {w : World} {base : Nat} {rs : List Rl} {css : List (List Value)} {r : Rl} {A : Option Addr} {n c : Nat} {nb : Bool} (h : CkRows w base rs css) (hn : (nb = true ∧ Never r) ∨ (nb = false ∧ ¬ Never r)) (ho : w.ownsRow base 192 5 (.slice A n c) (looksOf r).length (knR (looksOf r)).flatten) : CkRows w base (rs ++ [r]) (css ++ [[.slice A n c, .int .i64 r.verdict, .bool nb]]) := by
 refine ⟨by simp [h.1], fun i r' cs' h1 h2 => ?_⟩
 have hl := h.1
 by_cases hi : i < rs.length
 · rw [List.getElem?_append_left hi] at h1
   rw [List.getElem?_append_left (by omega)] at h2
   exact h.2 i r' cs' h1 h2
 · rw [List.getElem?_append_right (by omega)] at h1
   rw [List.getElem?_append_right (by omega), hl] at h2
   have e : i - rs.length = 0 := by have := (List.getElem?_eq_some_iff.1 h1).1; simp at this; omega
   rw [e] at h1 h2
   simp at h1 h2
   subst h1 h2
   exact ⟨A, n, c, nb, rfl, hn, ho⟩
theorem CkRows.rows {w : World} {base : Nat} {rs : List Rl} {css : List (List Value)} (h : CkRows w base rs css) : ∀ c ∈ css, c.length = 3 := fun c hc => by
 obtain ⟨i, hi, rfl⟩ := List.getElem_of_mem hc
 have h1 := h.1
 obtain ⟨A, n, c, nb, e, _⟩ := h.2 i _ _ (List.getElem?_eq_getElem (by omega)) (List.getElem?_eq_getElem hi)
 rw [e]; rfl
theorem CkRows.ckN {w : World} {cg : Nat} {rs : List Rl} {css : List (List Value)} {v : Value} (h : CkRows w (cg + 1) rs css) (ho : w.ownsRow (cg + 1) 126 3 v rs.length css.flatten) : CkN cg w v rs :=
 ⟨css, SlN.of_own ho h.1 h.rows (Nat.lt_succ_self _), h.1, fun i r cs h1 h2 => by
   obtain ⟨A, n, c, nb, e, h3, hw⟩ := h.2 i r cs h1 h2
   refine ⟨A, n, c, nb, e, ?_⟩
   rcases h3 with h3 | ⟨h3, h4⟩
   · exact .inl h3
   · exact .inr ⟨h3, h4, SlN.of_own hw (knR_len _) (knR_rows _) (Nat.lt_succ_self _)⟩⟩

def IAllPost (g : List In4) (p : Pol) (w : World) (e : Ending) (w' : World) : Prop :=
 ∃ (cg s : Nat) (b : Bool) (cv rv : Value), e = .returned (.pointer (some ⟨cg, 0, none⟩)) ∧ ChkIs g p s b ∧ Blk w' cg 78 #[cv, rv, .int .i64 p.els, .int .i64 (s : Int), .bool (!b)] ∧ Below w.heap.size w w'
set_option maxRecDepth 100000 in
set_option maxHeartbeats 4000000 in
theorem check_any (cv : Value) (g : List In4) (p : Pol) (v : Value) (w : World) (hv : Sl w 4 cv (insR g)) (hP : PolIs w p v) (hg : codeOk g) (hp : polOkB p = true) :
   Calls Tryz.prog 36 #[cv, v] w (IAllPost g p w) := by
 obtain ⟨rs, els⟩ := p
 obtain ⟨rv, css, rfl, hS, hR⟩ := hP
 simp only at hR ⊢
 have hsh := (polOkB_shape hp).1
 have hrules : ∀ r ∈ rs, ruleOkB r = true := (polShapeB_words hsh).2.2
 have hrl : rs.length ≤ 1000 := by have := (polShapeB_words hsh).1; simp only at this; omega
 obtain ⟨A, n, c, rfl, hSA⟩ := hS
 obtain ⟨VA, vn, vc, rfl, hVA⟩ := id hv
 have hln : rs.length = n := by rw [← hR.1]; exact hSA.len
 have hc := hSA.cap
 have hm := hSA.max
 unfold maxLen at hm
 obtain ⟨X, hX⟩ : ∃ X, X = (w.alloc (.cells #[.slice A n c, .int .i64 els] 35)).alloc (.cells #[.slice VA vn vc, .slice none 0 0, .int .i64 els, .int .i64 0, .bool false] 78) := ⟨_, rfl⟩
 have hbX : Below w.heap.size w X := by rw [hX]; go_grown
 have hzX : X.heap.size = w.heap.size + 1 + 1 := by rw [hX]; simp
 have BC : Blk X (w.heap.size + 1) 78 #[.slice VA vn vc, .slice none 0 0, .int .i64 els, .int .i64 0, .bool false] := by
   rw [hX]
   have := Blk.new (w.alloc (.cells #[.slice A n c, .int .i64 els] 35)) 78 #[.slice VA vn vc, .slice none 0 0, .int .i64 els, .int .i64 0, .bool false]
   simpa using this
 have hp0 := (show X.cell? ⟨w.heap.size, 0, none⟩ = some (.slice A n c) from by rw [hX]; exact ((Blk.new w 35 #[.slice A n c, .int .i64 els]).alloc _).cell 0)
 have HX := Lib.hid hX; have HBC := Lib.hid BC; have HZ := Lib.hid hzX; have HSA := Lib.hid hSA; have HR := Lib.hid hR; have HV := Lib.hid hv; have HL := Lib.hid hln; have HRU := Lib.hid hrules; have HG := Lib.hid hg; have HBX := Lib.hid hbX
 have HRL := Lib.hid hrl
 have hn9 : n ≤ 1000 := by omega
 clear hX BC hzX hSA hR hv hln hrules hg hp hsh hVA hbX hrl
 go_enter Tryz.func36, Tryz.ntmps36
 go_upto_region 2 with (fail)
 rw [← HX.out]
 go_wp2
 go_loopw [16] (fun i wr => ∃ (k : Nat) (v : Value) (ds : List (List Value)), k ≤ n ∧ i = .int .i64 k ∧ Hid (Blk wr (w.heap.size + 1) 78 #[.slice VA vn vc, v, .int .i64 els, .int .i64 0, .bool false]) ∧ Hid (wr.ownsRow (w.heap.size + 1 + 1) 126 3 v k ds.flatten) ∧ Hid (CkRows wr (w.heap.size + 1 + 1) (rs.take k) ds) ∧ Below (w.heap.size + 1) X wr) (fun i _ => n - (intOf i).toNat)
 case atStart => exact ⟨0, .slice none 0 0, [], Nat.zero_le _, rfl, HBC, Lib.hid (World.ownsRow_nil _ _ _ _), Lib.hid (by simpa using CkRows.nil _ _), Below.refl _ _⟩
 case round =>
   clear HBC hp0
   obtain ⟨k, v, ds, hk, rfl, HB, HO, HW, hb⟩ := hrel
   have hsz := hb.size
   have hzx := HZ.out
   have hz0 : w.heap.size + 1 < wr.heap.size := by omega
   have hbw := HBX.out.trans (hb.mono (by omega))
   by_cases hlt : k < n
   · obtain ⟨b, off, r, tv, rfl, hab, hgp, hsl, hcell⟩ := rules_get HSA.out HR.out hlt
     obtain ⟨c0, c1, c2, c3⟩ := hcell wr _ hbw hab
     obtain ⟨A2, n2, c2', rfl, hA2⟩ := id hsl
     have HSL := Lib.hid hsl
     have HRW := Lib.hid (rlW_of (HRU.out r (List.mem_of_getElem? hgp)))
     have HTK := Lib.hid (show rs.take (k + 1) = rs.take k ++ [r] by rw [List.take_add_one, hgp]; rfl)
     have hdl : ds.length = k := by rw [HW.out.1, List.length_take, HL.out]; omega
     obtain ⟨A3, n3, c3', rfl, hS3⟩ := SlA.of_own HO.out hdl HW.out.rows
     have e1 := (show _ = some (Value.slice A3 n3 c3') from HB.out.cell 1); have f1 := HB.out.frozen 1
     have HBW := Lib.hid hbw
     clear hsl hgp hcell hA2 hS3 hbw hzx
     go_wp2
     go_region_law (first
       | (go_simp; go_at_call 66; refine (checkRuleOf_any r (.slice A2 n2 c2') _ (HSL.out.below (below_then HBW.out (by go_grown))) HRW.out).mono ?_; rintro e W2 ⟨A5, n5, c5, nb, rfl, hnev, ho5, hb2⟩; have hbr : Below wr.heap.size wr W2 := below_then (by go_grown) hb2; have Y := HB.out.same hbr; have y1 := (show _ = some (Value.slice A3 n3 c3') from Y.cell 1); have yf1 := Y.frozen 1; have HY := Lib.hid Y; have HO2 := Lib.hid (own_below HO.out hbr); have HW2 := Lib.hid (HW.out.next hbr); have hz2 : w.heap.size + 1 < W2.heap.size := Nat.lt_of_lt_of_le hz0 hbr.size; have HN5 := Lib.hid hnev; have HO5 := Lib.hid (own_base (base' := w.heap.size + 1 + 1) ho5 (by simp; omega)); clear hnev ho5 hb2 Y)
       | (refine step_app0g (w0 := W2) rfl (.tmp 24) (.tmp 27) _ rfl (w.heap.size + 1 + 1) 126 Tryz.underlying76 info_Ckr rfl (by omega) (by omega) (.slice A3 n3 c3') k ds rfl HO2.out rfl (by simp [Value.oneCell']) rfl (by omega) (by omega) ?_; intro v3 W3 hown3 hg3 _; obtain ⟨g3, cap3, rfl, hg3', hg3''⟩ := hown3.form (by omega); have hW3 := HW2.out.app HO2.out hg3; have h53 := HO5.out.kept hg3 (own_apart_t HO5.out HO2.out (by decide)); have hb3 : Below (w.heap.size + 1) W2 W3 := (Below.refl (w.heap.size + 1) W2).grown hg3 (by omega) (fun k hk => by have := (HO2.out.lt k hk).1; omega); have Y3 := HY.out.grown hg3 (own_far_ne (t := 126) (cs := #[]) HO2.out (Nat.lt_succ_self (w.heap.size + 1))); have y31 := (show _ = some (Value.slice A3 n3 c3') from Y3.cell 1); have yf31 := Y3.frozen 1; have HY3 := Lib.hid Y3; have HO3 := Lib.hid hown3; have HW3 := Lib.hid hW3; have H53 := Lib.hid h53; clear hg3 hW3 h53 Y3 hown3))
     all_goals go_wp2
     all_goals
       exact ⟨⟨k + 1, _, ds ++ [[.slice A5 n5 c5, .int .i64 r.verdict, .bool nb]], by omega, by go_num, Lib.hid (HY3.out.set_ 1 _), Lib.hid (ownsRow_setCell_other (a := ⟨w.heap.size + 1, 1, none⟩) HO3.out (fun e => by have := (HO3.out.lt _ e).1; simp only at this; omega) _), Lib.hid (by rw [HTK.out]; exact (HW3.out.snoc HN5.out H53.out).far (by omega) _), (hb.trans ((hbr.mono (by omega)).trans hb3)).setCell (p := ⟨w.heap.size + 1, 1, none⟩) (Nat.le_refl _) _⟩, by simp [intOf]; omega⟩
   · obtain rfl : k = n := by omega
     have HE := Lib.hid (show rs.take k = rs from List.take_of_length_le (by rw [HL.out]; omega))
     have hW := HW.out
     rw [HE.out] at hW
     have hck : CkN (w.heap.size + 1) wr v rs := hW.ckN (by rw [HL.out]; exact HO.out)
     obtain ⟨A6, n6, c6, rfl, -⟩ := hck.form
     have h9 : Calls Tryz.prog 67 #[.pointer (some ⟨w.heap.size + 1, 0, none⟩), .agg #[.int .i64 0, .int .i64 0, .int .i64 0], .pointer none] wr _ := iPlace_any (w.heap.size + 1) (.slice VA vn vc) (.slice A6 n6 c6) els rs g HG.out.1 (fun r hr => rlW_of (HRU.out r hr)) HRL.out 6000 0 0 0 0 [] (.pointer none) wr (by omega) (by omega) HG.out.1.1 HB.out ((SlN.of_sl (cg := w.heap.size + 1) HV.out (by omega)).grown (grown_of_below hbw _)) hck rfl KnW.nil Once.nil
     have H9 := Lib.hid h9; have HBW := Lib.hid hbw
     clear h9 hck hW hbw HB HO HW hzx
     go_wp2_with fail
     refine H9.out.mono ?_; rintro e w3 ⟨rfl, s', b', hrun, hb3, hg3⟩
     have HB3 := Lib.hid hb3; have HRUN := Lib.hid hrun
     have HBB := Lib.hid (HBW.out.trans (below_of_grown hg3 (show w.heap.size ≤ w.heap.size + 1 by omega) hz0))
     clear hb3 hrun hg3
     go_wp2
     go_ret
     exact ⟨_, s', b', _, _, rfl, HRUN.out, HB3.out, HBB.out⟩
end Go.Proofs.YtdjgicapbpoigaaGreatDoor
