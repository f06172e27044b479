/- impl's check in a program. -/
import Derived.Test.YtnlhnnidbppciaaGreatDoorChkI5
namespace Go.Proofs.YtnlhnnidbppciaaGreatDoor
open Go.RowKit
set_option linter.unusedSimpArgs false
set_option linter.unusedVariables false

section
variable (cg : Nat) (cv rv : Value) (last : Int) (rs : List Rl) (g : List In4)
set_option maxRecDepth 100000 in
set_option maxHeartbeats 8000000 in
/-- Behind a step, at a look of the program. -/
theorem iBranch_of (hg : waysOk g) (n : Nat) (ih : PlaceIH cg cv rv last rs g n) (s a : Nat) (f m : Int) (l : List (Lk × Bool)) (kv : Value) (w : World) (x : In4) (hn : 6000 ≤ s + 1 + n) (hs : s < 6000) (hx : g[a]? = some x) (hop : x.op = 3 ∨ x.op = 4)
    (hC : Blk w cg 91 #[cv, rv, .int .i64 last, .int .i64 ((s + 1 : Nat) : Int), .bool false]) (hV : SlN cg w 4 cv (insR g)) (hR : CkN cg w rv rs) (hK : KnI cg w kv l.reverse) (hKW : KnW l) (hO : Once l) :
    Calls Tryz.prog 168 #[.pointer (some ⟨cg, 0, none⟩), .agg #[.int .i64 x.op, .int .i64 x.k, .int .i64 x.yes, .int .i64 x.no], .agg #[.int .i64 (a : Int), .int .i64 f, .int .i64 m], kv] w (IPost cg cv rv last (fun s' b => WayRun g rs last a f m l s s' b) w) := by
  obtain ⟨kn, yn, nn, hxe, hkn, hyn, hnn, hag, hop1, h12, h34, h5⟩ := place_at hg hx
  have hgl := hg.2.1
  have hlk := h34 hop
  obtain ⟨op, k, yes, no⟩ := x
  simp only [In4.mk.injEq, true_and] at hxe
  obtain ⟨rfl, rfl, rfl⟩ := hxe
  simp only at hop ⊢
  have hcl := hC.lt
  obtain ⟨Y, hY⟩ : ∃ Y, Y = ((w.alloc (.cells #[.pointer (some ⟨cg, 0, none⟩)] 92)).alloc (.cells #[.int .i64 op, .int .i64 (kn : Int), .int .i64 (yn : Int), .int .i64 (nn : Int)] 72)).alloc (.cells #[.int .i64 (a : Int), .int .i64 f, .int .i64 m] 157) := ⟨_, rfl⟩
  have hbY : Below w.heap.size w Y := by rw [hY]; go_grown
  have hzY : Y.heap.size = w.heap.size + 1 + 1 + 1 := by rw [hY]; simp
  have bP : Blk Y w.heap.size 92 #[.pointer (some ⟨cg, 0, none⟩)] := by rw [hY]; exact ((Blk.new w _ _).alloc _).alloc _
  have bI : Blk Y (w.heap.size + 1) 72 #[.int .i64 op, .int .i64 (kn : Int), .int .i64 (yn : Int), .int .i64 (nn : Int)] := by
    rw [hY]
    have := (Blk.new (w.alloc (.cells #[.pointer (some ⟨cg, 0, none⟩)] 92)) 72 #[.int .i64 op, .int .i64 (kn : Int), .int .i64 (yn : Int), .int .i64 (nn : Int)]).alloc (.cells #[.int .i64 (a : Int), .int .i64 f, .int .i64 m] 157)
    simpa using this
  have bS : Blk Y (w.heap.size + 1 + 1) 157 #[.int .i64 (a : Int), .int .i64 f, .int .i64 m] := by
    rw [hY]
    have := Blk.new ((w.alloc (.cells #[.pointer (some ⟨cg, 0, none⟩)] 92)).alloc (.cells #[.int .i64 op, .int .i64 (kn : Int), .int .i64 (yn : Int), .int .i64 (nn : Int)] 72)) 157 #[.int .i64 (a : Int), .int .i64 f, .int .i64 m]
    simpa using this
  have hl0 : w.heap.size < Y.heap.size := by omega
  have hl1 : w.heap.size + 1 < Y.heap.size := by omega
  have hl2 : w.heap.size + 1 + 1 < Y.heap.size := by omega
  have s0 := (show _ = some (Value.int .i64 (a : Int)) from bS.cell 0); have s1 := (show _ = some (Value.int .i64 f) from bS.cell 1); have s2 := (show _ = some (Value.int .i64 m) from bS.cell 2)
  have i0 := (show _ = some (Value.int .i64 op) from bI.cell 0); have i1 := (show _ = some (Value.int .i64 (kn : Int)) from bI.cell 1)
  have HI := Lib.hid ih; have HY := Lib.hid hY; have HBP := Lib.hid bP; have HBI := Lib.hid bI; have HBS := Lib.hid bS
  have HGY := Lib.hid (grown_of_below hbY (some cg)); have HCY := Lib.hid (hC.same hbY); have HVY := Lib.hid (hV.below hbY); have HRY := Lib.hid (hR.grown (grown_of_below hbY _)); have HKY := Lib.hid (hK.below hbY); have HKW := Lib.hid hKW; have HO := Lib.hid hO; have HX := Lib.hid hx; have HG := Lib.hid hg; have HLK := Lib.hid hlk
  clear ih hY hbY hzY bP bI bS hC hV hR hK hKW hO hx hg h12 h34 h5 hop1 hlk
  by_cases hm : m = 0
  · subst hm
    rcases hop with rfl | rfl
    · have hbL : Below Y.heap.size Y (Y.alloc (.cells #[.int .i64 f, .int .i64 0, .int .i64 1, .int .i64 (kn : Int)] 211)) := by go_grown
      have hzb : zeroB ⟨3, (kn : Int), (yn : Int), (nn : Int)⟩ = ((0 : Int) == (kn : Int)) := by rw [Bool.eq_iff_iff]; simp [zeroB]; omega
      obtain ⟨hz, hhz⟩ : ∃ z, z = ((0 : Int) == (kn : Int)) := ⟨_, rfl⟩
      have hon : ∀ W, Below Y.heap.size Y W → Calls Tryz.prog 209 #[.agg #[.int .i64 (a : Int), .int .i64 f, .int .i64 0], kv, .bool hz, .pointer (some ⟨w.heap.size + 1, 0, none⟩), .pointer (some ⟨w.heap.size, 0, none⟩)] W (IPost cg cv rv last (fun s' b => WayRun g rs last a f 0 l s s' b) W) := fun W hb =>
        iWayOn_of cg cv rv last a yn nn 3 (kn : Int) f 0 kv hz (w.heap.size + 1) w.heap.size W _ (by omega) (by omega) (by omega) (HBI.out.same hb) (HBP.out.same hb) (fun W2 hb2 => by
          have hb3 := below_then hb hb2
          have e : a + 1 + wayOf ⟨3, (kn : Int), (yn : Int), (nn : Int)⟩ hz = a + (1 + (if hz then yn else nn)) := by cases hz <;> simp [wayOf] <;> omega
          refine (HI.out (s + 1) (a + (1 + (if hz then yn else nn))) f 0 l kv W2 (by omega) (by omega) (by have h1 := HLK.out.1; have h2 := HLK.out.2; cases hz <;> simp <;> omega) (HCY.out.same hb3) (HVY.out.below hb3) (HRY.out.grown (grown_of_below hb3 _)) (HKY.out.below hb3) HKW.out HO.out).mono ?_
          rintro e' w' ⟨h1, s', b', hrun, h2, h3⟩
          rw [← e] at hrun
          exact ⟨h1, s', b', .zero hs HX.out (by simp) rfl (by rw [hzb, ← hhz]; exact hrun), h2, h3⟩)
      have HON := Lib.hid hon; have HBL := Lib.hid hbL
      rw [← hhz] at hzb
      have HH := Lib.hid (show ∀ W, Calls Tryz.prog 198 #[.int .i64 1, .int .i64 0, .int .i64 (kn : Int)] W fun e w' => e = .returned (.bool hz) ∧ W = w' from fun W => by rw [hhz]; exact iHolds_eq 0 (kn : Int) W)
      clear hon hbL hzb hhz
      go_enter Tryz.func168, Tryz.ntmps168
      go_upto_region 1 with (fail)
      rw [← HY.out]
      go_wp2_with fail
      go_region_law (first
        | (go_simp; go_at_call 198; refine (HH.out _).mono ?_; rintro e w' ⟨rfl, rfl⟩)
        | (go_simp; go_at_call 209; refine (HON.out _ (below_then HBL.out (by go_grown))).mono ?_; rintro e w3 ⟨rfl, s', b', hrun, hb3, hg3⟩))
      all_goals
        have HF := Lib.hid (show IPost cg cv rv last (fun s' b => WayRun g rs last a f 0 l s s' b) w (.returned (.tuple #[])) w3 from ⟨rfl, s', b', hrun, hb3, (HGY.out.trans ((grown_of_below HBL.out _).trans (grown_of_below (by go_grown) _))).trans hg3⟩)
        clear hrun hb3 hg3
        go_wp2
        go_end0
        exact HF.out
    · have hbL : Below Y.heap.size Y (Y.alloc (.cells #[.int .i64 f, .int .i64 0, .int .i64 3, .int .i64 (kn : Int)] 211)) := by go_grown
      have hzb : zeroB ⟨4, (kn : Int), (yn : Int), (nn : Int)⟩ = (decide ((kn : Int) < 0)) := by simp [zeroB]
      obtain ⟨hz, hhz⟩ : ∃ z, z = (decide ((kn : Int) < 0)) := ⟨_, rfl⟩
      have hon : ∀ W, Below Y.heap.size Y W → Calls Tryz.prog 209 #[.agg #[.int .i64 (a : Int), .int .i64 f, .int .i64 0], kv, .bool hz, .pointer (some ⟨w.heap.size + 1, 0, none⟩), .pointer (some ⟨w.heap.size, 0, none⟩)] W (IPost cg cv rv last (fun s' b => WayRun g rs last a f 0 l s s' b) W) := fun W hb =>
        iWayOn_of cg cv rv last a yn nn 4 (kn : Int) f 0 kv hz (w.heap.size + 1) w.heap.size W _ (by omega) (by omega) (by omega) (HBI.out.same hb) (HBP.out.same hb) (fun W2 hb2 => by
          have hb3 := below_then hb hb2
          have e : a + 1 + wayOf ⟨4, (kn : Int), (yn : Int), (nn : Int)⟩ hz = a + (1 + (if hz then yn else nn)) := by cases hz <;> simp [wayOf] <;> omega
          refine (HI.out (s + 1) (a + (1 + (if hz then yn else nn))) f 0 l kv W2 (by omega) (by omega) (by have h1 := HLK.out.1; have h2 := HLK.out.2; cases hz <;> simp <;> omega) (HCY.out.same hb3) (HVY.out.below hb3) (HRY.out.grown (grown_of_below hb3 _)) (HKY.out.below hb3) HKW.out HO.out).mono ?_
          rintro e' w' ⟨h1, s', b', hrun, h2, h3⟩
          rw [← e] at hrun
          exact ⟨h1, s', b', .zero hs HX.out (by simp) rfl (by rw [hzb, ← hhz]; exact hrun), h2, h3⟩)
      have HON := Lib.hid hon; have HBL := Lib.hid hbL
      rw [← hhz] at hzb
      have HH := Lib.hid (show ∀ W, Calls Tryz.prog 198 #[.int .i64 3, .int .i64 0, .int .i64 (kn : Int)] W fun e w' => e = .returned (.bool hz) ∧ W = w' from fun W => by rw [hhz]; exact iHolds_gt 0 (kn : Int) W)
      clear hon hbL hzb hhz
      go_enter Tryz.func168, Tryz.ntmps168
      go_upto_region 1 with (fail)
      rw [← HY.out]
      go_wp2_with fail
      go_region_law (first
        | (go_simp; go_at_call 198; refine (HH.out _).mono ?_; rintro e w' ⟨rfl, rfl⟩)
        | (go_simp; go_at_call 209; refine (HON.out _ (below_then HBL.out (by go_grown))).mono ?_; rintro e w3 ⟨rfl, s', b', hrun, hb3, hg3⟩))
      all_goals
        have HF := Lib.hid (show IPost cg cv rv last (fun s' b => WayRun g rs last a f 0 l s s' b) w (.returned (.tuple #[])) w3 from ⟨rfl, s', b', hrun, hb3, (HGY.out.trans ((grown_of_below HBL.out _).trans (grown_of_below (by go_grown) _))).trans hg3⟩)
        clear hrun hb3 hg3
        go_wp2
        go_end0
        exact HF.out
  · have HM := Lib.hid hm
    have hmd : (m == 0) = false := by simp [hm]
    rcases hop with rfl | rfl
    · have hbL : Below Y.heap.size Y (Y.alloc (.cells #[.int .i64 f, .int .i64 m, .int .i64 1, .int .i64 (kn : Int)] 211)) := by go_grown
      have h9 := iBothWay_of cg cv rv last rs g n HI.out s a kn yn nn 3 f m l kv (Y.alloc (.cells #[.int .i64 f, .int .i64 m, .int .i64 1, .int .i64 (kn : Int)] 211)) ⟨f, m, 1, (kn : Int)⟩ (w.heap.size + 1) w.heap.size (by omega) hs HX.out (by omega) HM.out rfl (by omega) HLK.out.1 HLK.out.2 (by omega) ⟨by show (0 : Int) ≤ (kn : Int); omega, by show (kn : Int) ≤ _; omega⟩ (by simp) (HCY.out.same hbL) (HVY.out.below hbL) (HRY.out.grown (grown_of_below hbL _)) (HKY.out.below hbL) HKW.out HO.out (HBI.out.same hbL) (HBP.out.same hbL) (by omega) (by omega)
      have H9 := Lib.hid h9; have HBL := Lib.hid hbL
      clear h9 hbL hm
      go_enter Tryz.func168, Tryz.ntmps168
      go_upto_region 1 with (fail)
      rw [← HY.out]
      go_wp2_with fail
      refine H9.out.mono ?_; rintro e w3 ⟨rfl, s', b', hrun, hb3, hg3⟩
      have HF := Lib.hid (show IPost cg cv rv last (fun s' b => WayRun g rs last a f m l s s' b) w (.returned (.tuple #[])) w3 from ⟨rfl, s', b', hrun, hb3, (HGY.out.trans (grown_of_below HBL.out _)).trans hg3⟩)
      clear hrun hb3 hg3
      go_wp2
      go_end0
      exact HF.out
    · have hbL : Below Y.heap.size Y (Y.alloc (.cells #[.int .i64 f, .int .i64 m, .int .i64 3, .int .i64 (kn : Int)] 211)) := by go_grown
      have h9 := iBothWay_of cg cv rv last rs g n HI.out s a kn yn nn 4 f m l kv (Y.alloc (.cells #[.int .i64 f, .int .i64 m, .int .i64 3, .int .i64 (kn : Int)] 211)) ⟨f, m, 3, (kn : Int)⟩ (w.heap.size + 1) w.heap.size (by omega) hs HX.out (by omega) HM.out rfl (by omega) HLK.out.1 HLK.out.2 (by omega) ⟨by show (0 : Int) ≤ (kn : Int); omega, by show (kn : Int) ≤ _; omega⟩ (by simp) (HCY.out.same hbL) (HVY.out.below hbL) (HRY.out.grown (grown_of_below hbL _)) (HKY.out.below hbL) HKW.out HO.out (HBI.out.same hbL) (HBP.out.same hbL) (by omega) (by omega)
      have H9 := Lib.hid h9; have HBL := Lib.hid hbL
      clear h9 hbL hm
      go_enter Tryz.func168, Tryz.ntmps168
      go_upto_region 1 with (fail)
      rw [← HY.out]
      go_wp2_with fail
      refine H9.out.mono ?_; rintro e w3 ⟨rfl, s', b', hrun, hb3, hg3⟩
      have HF := Lib.hid (show IPost cg cv rv last (fun s' b => WayRun g rs last a f m l s s' b) w (.returned (.tuple #[])) w3 from ⟨rfl, s', b', hrun, hb3, (HGY.out.trans (grown_of_below HBL.out _)).trans hg3⟩)
      clear hrun hb3 hg3
      go_wp2
      go_end0
      exact HF.out
end
end Go.Proofs.YtnlhnnidbppciaaGreatDoor
