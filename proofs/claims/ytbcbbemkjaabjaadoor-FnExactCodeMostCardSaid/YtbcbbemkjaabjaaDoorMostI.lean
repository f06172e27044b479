/- impl.CodeMost: to how many places a run comes at most. -/
import Derived.Test.YtbcbbemkjaabjaaDoorWays
import Derived.Test.YtbcbbemkjaabjaaDoorRoundTail
import Derived.Test.YtbcbbemkjaabjaaDoorMostS
import Derived.Test.YtbcbbemkjaabjaaDoorCodeWI
namespace Go.Proofs.YtbcbbemkjaabjaaDoor
open Go.RowKit Go.Shelf
set_option linter.unusedSimpArgs false
set_option linter.unusedVariables false
attribute [local go_sem] Oper.semAt_some

/-- The number that stands where a value points. -/
def atOf : Value → World → Nat
  | .pointer (some p), w => (intOf ((w.cell? p).getD undef) + 1).toNat
  | _, _ => 0
theorem atOf_cell {p : Addr} {w : World} {k : Int} (h : w.cell? p = some (.int .i64 k)) : atOf (.pointer (some p)) w = (k + 1).toNat := by
  show (intOf ((w.cell? p).getD undef) + 1).toNat = _
  rw [h]; rfl
/-- How the world stands between two rounds. -/
structure MostSt (g : List In4) (w1 wr : World) (n : Nat) (k : Int) (ms : List Int) (B : Nat) (Ds : List Nat) : Prop where
  row : Blk wr w1.heap.size 3 (iRow ms)
  box : Blk wr (w1.heap.size + 1) 35 #[.slice (some ⟨w1.heap.size, 0, none⟩) n n]
  at_ : Blk wr B 3 #[.int .i64 k]
  far : w1.heap.size + 1 < B
  marks : Marks wr w1.heap.size Ds
  below : Below w1.heap.size w1 wr

set_option maxRecDepth 100000 in
set_option maxHeartbeats 4000000 in
theorem CodeMost_ok (v : Value) (g : List In4) (w : World) (hs : Sl w 4 v (insR g)) (hp : Pow w) (hg : codeOk g) :
    Calls Tryd.prog 10 #[v] w fun e w' => e = .returned (.int .i64 (mostOf g)) ∧ Below w.heap.size w w' := by
  have hO := CodeOk_any v g w hs hp
  obtain ⟨A, n, c, rfl, hA⟩ := hs
  have hl : g.length = n := by have := hA.len; rwa [insR_len] at this
  have hc := hA.cap
  have hm := hA.max
  unfold maxLen at hm
  have h1 : 1 ≤ n := by rw [← hl]; exact hg.1.1
  have h2 : n ≤ 160 := by rw [← hl]; exact hg.1.2.1
  have hmk := fun W => run_make_row' (P := Tryd.prog) 35 3 (.int .i64 0) 8 Tryd.underlying35 info_int rfl .i64 .i64 n (by omega) (by omega) W
  have hgb : codeOkB g = true := codeOkB_iff.2 hg
  have HO := Lib.hid hO; have HL := Lib.hid hl; have HG := Lib.hid hg; have HA := Lib.hid hA; clear hO hl hg
  refine (callsIn_wide (n := 9)).1 ?_
  refine callsIn_of_wp_marks Tryd.func10 rfl trivial ?_ rfl
  simp only [Tryd.ntmps10, List.size_toArray, List.length_cons, List.length_nil, Nat.reduceAdd, Nat.reduceSub, Array.replicate_succ, Array.replicate_zero, List.push_toArray, List.append_toArray, List.nil_append, List.cons_append]
  gi_wp2_with fail
  refine ⟨trivial, ?_⟩
  refine (callsIn_wide.2 HO.out).mono ?_; rintro e w1 ⟨rfl, hb1⟩
  rw [hgb]
  have hA1 := HA.out.below hb1
  have HA1 := Lib.hid hA1; clear hA HA
  gi_wp2_with fail
  refine wpIn_loop (fun a wr => ∃ (k : Int) (ms : List Int) (B : Nat) (Ds : List Nat) (u5 u15 u16 u17 u18 u19 u20 u21 u22 u23 u24 u25 u26 u27 u28 u29 u30 u31 u32 u33 u34 u35 u36 u37 u38 u39 u40 u41 : Value), a = { tmps := #[.slice A n c, undef, .int .i64 0, .pointer (some ⟨w1.heap.size + 1, 0, none⟩), .pointer (some ⟨B, 0, none⟩), u5, .slice A n c, .bool true, .bool false, .slice A n c, .int .i64 n, .slice (some ⟨w1.heap.size, 0, none⟩) n n, .slice A n c, .int .i64 n, .int .i64 ((n : Int) - 1), u15, u16, u17, u18, u19, u20, u21, u22, u23, u24, u25, u26, u27, u28, u29, u30, u31, u32, u33, u34, u35, u36, u37, u38, u39, u40, u41, undef, undef, undef], defers := Ds.map mark } ∧ -1 ≤ k ∧ k < n ∧ MostFrom g (k + 1) ms ∧ MostSt g w1 wr n k ms B Ds) (fun a wr => atOf (a.tmps.getD 4 undef) wr) ?start ?round
  case start =>
    refine ⟨(n : Int) - 1, List.replicate n 0, _, [], _, _, _, _, _, _, _, _, _, _, _, _, _, _, _, _, _, _, _, _, _, _, _, _, _, _, _, _, rfl, by omega, by omega, ?_, ?_⟩
    · rw [show (n : Int) - 1 + 1 = n by omega, ← HL.out]; exact MostFrom.start g
    · refine ⟨?_, ?_, ?_, by omega, Marks.nil _ _, by go_grown⟩
      · rw [← iRow_zero]; exact ((Blk.new w1 _ _).alloc _).alloc _
      · exact (Blk.second w1 _ _ _).alloc _
      · have h3 := Blk.new ((w1.alloc (.cells (madeCells #[.int .i64 0] n) 3)).alloc (.cells #[.slice (some ⟨w1.heap.size, 0, none⟩) n n] 35)) 3 #[.int .i64 ((n : Int) - 1)]
        simpa using h3
  case round =>
    rintro _ wr ⟨k, ms, B, Ds, u5, u15, u16, u17, u18, u19, u20, u21, u22, u23, u24, u25, u26, u27, u28, u29, u30, u31, u32, u33, u34, u35, u36, u37, u38, u39, u40, u41, rfl, hk0, hk, hM, hst⟩
    obtain ⟨hrow, hbox, hat, hB, hmarks, hbw⟩ := hst
    have q3 : wr.cell? ⟨w1.heap.size + 1, 0, none⟩ = some (.slice (some ⟨w1.heap.size, 0, none⟩) n n) := hbox.cell 0
    have q4 : wr.cell? ⟨B, 0, none⟩ = some (.int .i64 k) := hat.cell 0
    have H3w := Lib.hid hat
    have hml : ms.length = n := hM.len.trans HL.out
    by_cases hlt : 0 ≤ k
    · obtain ⟨k, rfl⟩ := Int.eq_ofNat_of_zero_le hlt
      have hkn : k < n := by omega
      have hkni : (k : Int) < n := by omega
      obtain ⟨x, hx⟩ : ∃ x, g[k]? = some x := ⟨_, List.getElem?_eq_getElem (by rw [HL.out]; exact hkn)⟩
      have HX := Lib.hid hx; have HM := Lib.hid hM; clear hx hM
      gi_wp2_with fail
      refine ⟨trivial, ?_⟩
      refine (callsIn_wide.2 (ways_any A n c k _)).mono ?_; rintro e w2 ⟨rfl, hw2⟩
      have hz1 := hb1.size
      have hzb := hbw.size
      have hrl := hrow.lt
      have hbl := hbox.lt
      have hal := hat.lt
      have hW2 : Below wr.heap.size wr w2 := by rw [hw2]; go_grown
      have hs2 : w2.heap.size = wr.heap.size + 1 + 1 := by rw [hw2]; simp
      have hBp : w2.cell? ⟨wr.heap.size, 0, none⟩ = some (.slice A n c) := by rw [hw2]; exact ((Blk.new wr _ _).alloc _).cell 0
      have hBi : w2.cell? ⟨wr.heap.size + 1, 0, none⟩ = some (.int .i64 k) := by rw [hw2]; exact (Blk.second wr _ _ _).cell 0
      have hA2 := (HA1.out.below hbw).below hW2
      have row2 : Blk w2 w1.heap.size 3 (iRow ms) := (hW2.block _ hrl).trans hrow
      have box2 : Blk w2 (w1.heap.size + 1) 35 #[.slice (some ⟨w1.heap.size, 0, none⟩) n n] := (hW2.block _ hbl).trans hbox
      have at2 : Blk w2 B 3 #[.int .i64 k] := (hW2.block _ hal).trans hat
      have marks2 := hmarks.below hW2
      have below2 := below_step hbw hzb hW2
      have hDs : ∀ D ∈ Ds, D < w2.heap.size := fun D hD => (Array.getElem?_eq_some_iff.1 (marks2.2 D hD).2).1
      have hnx : ∀ j : Nat, j ∈ nexts x k → k < j ∧ j < g.length := fun j h => nexts_in HG.out.1 HX.out h
      have hset0 : ms.set k (maxOver ms []) = ms := by
        rw [maxOver_nil]
        apply List.ext_getElem?
        intro i
        rw [List.getElem?_set]
        by_cases e : k = i
        · subst e
          rw [if_pos rfl, if_pos (by omega), HM.out.zero k (by omega) (by rw [HL.out]; exact hkn)]
        · rw [if_neg e]
      have HNX := Lib.hid hnx; have HS0 := Lib.hid hset0; clear hnx hset0 hw2 hrow hbox hat q3 q4
      gi_wp2_with fail
      refine wpIn_rangeFunc_ownF (F := Fence.wide) rfl (by omega) (gf := 48) (lb := #[.pointer (some ⟨wr.heap.size, 0, none⟩), .pointer (some ⟨wr.heap.size + 1, 0, none⟩)]) rfl trivial (enters_of Tryd.func48 (by kernel_rfl) rfl)
        (ways_stops _ (by omega) wr.heap.size (wr.heap.size + 1) w1.heap.size A n c g k x HG.out.1 HX.out w2 hA2 hBp hBi (by omega) (by omega)) (fun h k => h.trans k) (fun W l o o' _ h hc _ => KC.putObj W l o o' h hc) (Below.refl _ _) (fun _ => rfl)
        (fun pre W => (Blk W w1.heap.size 3 (iRow (ms.set k (maxOver ms (pre.map fun j => j.1.toNat)))) ∧ Blk W (w1.heap.size + 1) 35 #[.slice (some ⟨w1.heap.size, 0, none⟩) n n] ∧ Blk W B 3 #[.int .i64 k]) ∧ Marks W w1.heap.size Ds ∧ Below w1.heap.size w1 W)
        (fun _ _ _ => False)
        (fun s X Y row hs hgr hrow => by
          obtain ⟨⟨h1, h2, h3⟩, h4, h5⟩ := hs
          have hne : ∀ (q : Nat) (t : TypeId) (cs : Array Value), Blk X q t cs → Blk Y q t cs := fun q t cs hb => hb.grown hgr (fun e => by
            obtain ⟨_, o, ho, hoc⟩ := hrow q e.symm
            rw [show X.heap[q]? = _ from hb] at ho; cases ho; cases hoc)
          exact ⟨⟨hne _ _ _ h1, hne _ _ _ h2, hne _ _ _ h3⟩, h4.same (fun D hD hDX => hgr.block D (Array.getElem?_eq_some_iff.1 hDX).1 (fun e => by
            have := (hrow D e.symm).1; have := hDs D hD; omega)), h5.grown hgr (by have := h5.size; omega) (fun q e => by have := (hrow q e).1; omega)⟩)
        (fun _ _ _ _ _ hs _ _ => hs)
        ⟨⟨by rw [List.map_nil, HS0.out]; exact row2, box2, at2⟩, marks2, below2⟩
        (fun j => { tmps := #[.slice A n c, undef, .int .i64 0, .pointer (some ⟨w1.heap.size + 1, 0, none⟩), .pointer (some ⟨B, 0, none⟩), .int .i64 j.1, .slice A n c, .bool true, .bool false, .slice A n c, .int .i64 n, .slice (some ⟨w1.heap.size, 0, none⟩) n n, .slice A n c, .int .i64 n, .int .i64 ((n : Int) - 1), .int .i64 k, .bool true, u17, u18, .slice A n c, .int .i64 k, .func (.func 48) #[] #[.pointer (some ⟨wr.heap.size, 0, none⟩), .pointer (some ⟨wr.heap.size + 1, 0, none⟩)], .int .i64 j.1, u23, u24, u25, u26, u27, u28, u29, u30, u31, u32, u33, u34, u35, u36, u37, u38, u39, u40, u41, undef, undef, undef], defers := [] }) ?assign ?body ?done ?stop
      case assign =>
        intro l j W K hK
        gi_wp2
        exact hK
      case body =>
        rintro l pre ⟨j, hj1, hj2⟩ W ⟨⟨h1, h2, h3⟩, h4, h5⟩ _
        obtain ⟨j, rfl⟩ := Int.eq_ofNat_of_zero_le (show 0 ≤ j by omega)
        have r3 : W.cell? ⟨w1.heap.size + 1, 0, none⟩ = some (.slice (some ⟨w1.heap.size, 0, none⟩) n n) := h2.cell 0
        have r4 : W.cell? ⟨B, 0, none⟩ = some (.int .i64 k) := h3.cell 0
        have hlx := iRow_cell (k := k) h1 (x := maxOver ms (pre.map fun j => j.1.toNat)) (by rw [List.getElem?_set, if_pos rfl, if_pos (by omega)])
        have hjx := iRow_cell (k := j) h1 (x := (ms[j]?).getD 0) (by rw [List.getElem?_set, if_neg (by omega)]; exact row_some hml (by omega))
        have fk := h1.frozen k
        obtain ⟨mt, hmt⟩ : ∃ mt, (ms[j]?).getD 0 = mt := ⟨_, rfl⟩
        obtain ⟨mk, hmk2⟩ : ∃ mk, maxOver ms (pre.map fun j => j.1.toNat) = mk := ⟨_, rfl⟩
        rw [hmt] at hjx
        rw [hmk2] at hlx
        have hmax : maxOver ms ((pre ++ [(⟨(j : Int), hj1, hj2⟩ : { j : Int // (k : Int) < j ∧ j < n })]).map fun j => j.1.toNat) = max mk mt := by rw [List.map_append, List.map_cons, List.map_nil, maxOver_snoc, hmk2, Int.toNat_natCast, hmt]
        have hWb := h1.lt
        have H1 := Lib.hid h1; have H2 := Lib.hid h2; have H3 := Lib.hid h3; have H4 := Lib.hid h4; have H5 := Lib.hid h5; have HMX := Lib.hid hmax; clear h1 h2 h3 h4 h5 hmax hmk2 hmt
        gi_wp2
        refine wpIn_round_tail 12 (by kernel_rfl) (by kernel_rfl) rfl ?_
        simp only [List.take_succ_cons, List.take_zero, List.drop_succ_cons, List.drop_zero]
        repeat still_step
        try refine wpStill_nil ?_
        change wpListIn _ _ _ _ _ _ _ W.drew
        gi_wp2
        have h6 := (H1.out.set_ k (.int .i64 (max mk mt))).drew
        rw [iRow_set, List.set_set] at h6
        refine ⟨(KeepsOthers.setCell _ _ _).trans (KeepsOthers.drew _), KC.of_grown ((grown_set _ _ _ _).trans (grown_drew _ _)), ⟨by rw [HMX.out]; exact h6, (H2.out.far (by show w1.heap.size + 1 ≠ w1.heap.size; omega) _).drew, (H3.out.far (by show B ≠ w1.heap.size; omega) _).drew⟩, (H4.out.cells (KeepsOthers.setCell _ _ _)).cells (KeepsOthers.drew _), ?_⟩
        exact (H5.out.setCell (p := ⟨w1.heap.size, k, none⟩) (Nat.le_refl _) _).drew
      case done =>
        rintro D ys W hD hS ⟨⟨h1, h2, h3⟩, h4, h5⟩ hK
        have hys : (ys.map fun j => j.1.toNat) = nexts x k := by
          have e1 : (ys.map fun j => j.1.toNat) = (ys.map (·.1)).map Int.toNat := by rw [List.map_map]; rfl
          rw [e1, hS]
          unfold nextZ
          rw [List.map_map]
          exact (List.map_congr_left (fun a _ => by simp)).trans (List.map_id _)
        rw [hys] at h1
        have hov := MostFrom.over HG.out.1 HM.out (js := nexts x k) (fun i hi => (HNX.out i hi).2)
        have r3 : W.cell? ⟨w1.heap.size + 1, 0, none⟩ = some (.slice (some ⟨w1.heap.size, 0, none⟩) n n) := h2.cell 0
        have r4 : W.cell? ⟨B, 0, none⟩ = some (.int .i64 k) := h3.cell 0
        have f4 := h3.frozen 0
        have dk := iRow_cell (k := k) h1 (x := maxOver ms (nexts x k)) (by rw [List.getElem?_set, if_pos rfl, if_pos (by omega)])
        have fk := h1.frozen k
        have hWb := h1.lt
        have hWB := h3.lt
        have hBne : ¬ B = w1.heap.size := by omega
        have hDn : D ∉ Ds := fun e => by have := hDs D e; omega
        have H1 := Lib.hid h1; have H2 := Lib.hid h2; have H3 := Lib.hid h3; have H4 := Lib.hid h4; have H5 := Lib.hid h5; have HKD := Lib.hid hK; clear h1 h2 h3 h4 h5 hK
        gi_wp2
        have h7 := (H1.out.set_ k (.int .i64 (maxOver ms (nexts x k) + 1))).alloc (.cells #[.int .i64 ((k : Int) - 1)] 3)
        rw [iRow_set, List.set_set] at h7
        have hcm : ms.set k (1 + maxOver ms (nexts x k)) = ms.set k (maxOver ms (nexts x k) + 1) := by rw [Int.add_comm]
        have h8 : Blk ((W.setCell ⟨w1.heap.size, k, none⟩ (.int .i64 (maxOver ms (nexts x k) + 1))).alloc (.cells #[.int .i64 ((k : Int) - 1)] 3)) W.heap.size 3 #[.int .i64 ((k : Int) - 1)] := by
          have h9 := Blk.new (W.setCell ⟨w1.heap.size, k, none⟩ (.int .i64 (maxOver ms (nexts x k) + 1))) 3 #[.int .i64 ((k : Int) - 1)]
          rwa [World.size_setCell] at h9
        have hKO : KeepsOthers W ((W.setCell ⟨w1.heap.size, k, none⟩ (.int .i64 (maxOver ms (nexts x k) + 1))).alloc (.cells #[.int .i64 ((k : Int) - 1)] 3)) := (KeepsOthers.setCell _ _ _).trans (KeepsOthers.alloc _ _)
        refine ⟨⟨(k : Int) - 1, ms.set k (1 + maxOver ms (nexts x k)), W.heap.size, D :: Ds, _, _, _, _, _, _, _, _, _, _, _, _, _, _, _, _, _, _, _, _, _, _, _, _, _, _, _, _, rfl, by omega, by omega, ?_, ?_⟩, ?_⟩
        · rw [show (k : Int) - 1 + 1 = k by omega]; exact HM.out.step HG.out.1 HX.out
        · exact ⟨by rw [hcm]; exact h7, (H2.out.far (by show w1.heap.size + 1 ≠ w1.heap.size; omega) _).alloc _, h8, by omega, (H4.out.cells hKO).cons (by omega) (hKO.same D _ HKD.out rfl) hDn, (H5.out.setCell (p := ⟨w1.heap.size, k, none⟩) (Nat.le_refl _) _).alloc (by simp; omega) _⟩
        · show atOf (.pointer (some ⟨W.heap.size, 0, none⟩)) _ < atOf (.pointer (some ⟨B, 0, none⟩)) wr
          rw [atOf_cell (k := (k : Int) - 1) (h8.cell 0), atOf_cell (k := (k : Int)) (H3w.out.cell 0)]
          omega
      case stop =>
        rintro D c' pre W _ _ h _
        exact h.elim
    · obtain rfl : k = -1 := by omega
      have d0 := iRow_cell (k := 0) hrow (row_some hml (by omega))
      have hmr : ms = mostRow g := mostRow_eq HG.out.1 (by simpa using hM)
      have HMR := Lib.hid hmr; have HMV := Lib.hid (show mostOf g = ((mostRow g)[0]?).getD 0 by unfold mostOf; rw [if_pos hgb]); clear hmr hM
      have h0n : (0 : Int) < n := by omega
      have HMK := Lib.hid hmarks; have HBW := Lib.hid hbw; clear hmarks hbw hrow hbox hat
      gi_wp2
      refine leaves_marks (by simp) Ds wr HMK.out ?_
      have hv : (ms[0]?).getD 0 = mostOf g := by rw [HMV.out, HMR.out]
      refine ⟨.int .i64 ((ms[0]?).getD 0), by simp [results, Tryd.results10, go_sem], ret_int hv, ?_⟩
      exact below_then hb1 (HBW.out.trans (shut_below Ds wr HMK.out))
end Go.Proofs.YtbcbbemkjaabjaaDoor
