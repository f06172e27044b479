/- impl.CodeLive: to which places a run can come. -/
import Derived.Test.YteflnpejhhkchaaGreatDoorWays
import Derived.Test.YteflnpejhhkchaaGreatDoorRoundTail
import Derived.Test.YteflnpejhhkchaaGreatDoorLiveS
import Derived.Test.YteflnpejhhkchaaGreatDoorSetP
import Derived.Test.YteflnpejhhkchaaGreatDoorLinesI
namespace Go.Proofs.YteflnpejhhkchaaGreatDoor
open Go.RowKit Go.Shelf
set_option linter.unusedSimpArgs false
set_option linter.unusedVariables false
attribute [local go_sem] Oper.semAt_some

/-- How the world stands between two rounds. -/
structure LiveSt (w wr : World) (rs : List Bool) (Ds : List Nat) : Prop where
  set_ : ∃ ws, SetIs ws rs ∧ Blk wr w.heap.size 136 (wRow ws)
  box : Blk wr (w.heap.size + 1) 70 #[.pointer (some ⟨w.heap.size, 0, none⟩)]
  marks : Marks wr w.heap.size Ds
  below : Below w.heap.size w wr

set_option maxRecDepth 100000 in
set_option maxHeartbeats 4000000 in
theorem live_ok (A : Option Addr) (n c : Nat) (g : List In4) (w : World) (hA : SlA w 4 A n c (insR g)) (hg : waysOk g) :
    Calls Tryz.prog 41 #[.slice A n c] w fun e w' => ∃ ws rs, SetIs ws rs ∧ LiveTo g g.length rs ∧ e = .returned (.pointer (some ⟨w.heap.size, 0, none⟩)) ∧ Blk w' w.heap.size 136 (wRow ws) ∧ Below w.heap.size w w' := by
  have hl : g.length = n := by have := hA.len; rwa [insR_len] at this
  have hc := hA.cap
  have hm := hA.max
  unfold maxLen at hm
  have h1 : 1 ≤ n := by rw [← hl]; exact hg.1
  have h2 : n ≤ 160 := by rw [← hl]; exact hg.2.1
  have HL := Lib.hid hl; have HG := Lib.hid hg; have HA := Lib.hid hA; clear hl hg hA
  refine (callsIn_wide (n := 9)).1 ?_
  refine callsIn_of_wp_marks Tryz.func41 rfl trivial ?_ rfl
  simp only [Tryz.ntmps41, List.size_toArray, List.length_cons, List.length_nil, Nat.reduceAdd, Nat.reduceSub, Array.replicate_succ, Array.replicate_zero, List.push_toArray, List.append_toArray, List.nil_append, List.cons_append]
  gi_wp2_with fail
  refine ⟨trivial, ?_⟩
  have B0 : Blk ((w.alloc (.cells #[.int .u64 0, .int .u64 0, .int .u64 0] 136)).alloc (.cells #[.pointer (some ⟨w.heap.size, 0, none⟩)] 70)) w.heap.size 136 (wRow [0, 0, 0]) := (Blk.new w 136 _).alloc _
  refine (callsIn_wide.2 (add_any w.heap.size 0 [0, 0, 0] _ B0 rfl (by simp) (by omega))).mono ?_; rintro e w1 ⟨⟨av, rfl⟩, hset1, g1⟩
  have hS1 : SetIs (setBit [0, 0, 0] 0) ((List.replicate n false).set 0 true) := (SetIs.zero n).add (by simp; omega) (by simp; omega)
  have hbox1 : Blk w1 (w.heap.size + 1) 70 #[.pointer (some ⟨w.heap.size, 0, none⟩)] := (Blk.second w _ _ _).grown g1 (by intro e; simp at e)
  have hbelow1 : Below w.heap.size w w1 := (show Below w.heap.size w ((w.alloc (.cells #[.int .u64 0, .int .u64 0, .int .u64 0] 136)).alloc (.cells #[.pointer (some ⟨w.heap.size, 0, none⟩)] 70)) by go_grown).trans (below_of_grown g1 (Nat.le_refl _) (by simp; omega))
  gi_wp2_with fail
  refine wpIn_loop (fun a wr => ∃ (k : Nat) (rs : List Bool) (Ds : List Nat) (u4 u5 u13 u14 u15 u16 u17 u18 u19 u20 u21 u22 u23 u24 u25 u26 : Value), a = { tmps := #[.slice A n c, undef, .pointer none, .pointer (some ⟨w.heap.size + 1, 0, none⟩), u4, u5, .agg #[.int .u64 0, .int .u64 0, .int .u64 0], .pointer (some ⟨w.heap.size, 0, none⟩), .pointer (some ⟨w.heap.size, 0, none⟩), av, .slice A n c, .int .i64 n, .int .i64 k, u13, u14, u15, u16, u17, u18, u19, u20, u21, u22, u23, u24, u25, u26, undef], defers := Ds.map mark } ∧ k ≤ n ∧ LiveTo g k rs ∧ LiveSt w wr rs Ds) (fun a wr => n - (intOf (a.tmps.getD 12 undef)).toNat) ?start ?round
  case start =>
    refine ⟨0, (List.replicate n false).set 0 true, [], _, _, _, _, _, _, _, _, _, _, _, _, _, _, _, _, rfl, Nat.zero_le _, ?_, ?_⟩
    · rw [← HL.out]; exact LiveTo.start (by rw [HL.out]; exact h1)
    · exact ⟨⟨_, hS1, hset1⟩, hbox1, Marks.nil _ _, hbelow1⟩
  case round =>
    rintro _ wr ⟨k, rs, Ds, u4, u5, u13, u14, u15, u16, u17, u18, u19, u20, u21, u22, u23, u24, u25, u26, rfl, hk, hR, hst⟩
    obtain ⟨⟨ws, hS, hset⟩, hbox, hmarks, hbw⟩ := hst
    have q3 : wr.cell? ⟨w.heap.size + 1, 0, none⟩ = some (.pointer (some ⟨w.heap.size, 0, none⟩)) := hbox.cell 0
    have hrl : rs.length = n := hR.len.trans HL.out
    by_cases hlt : k < n
    · have hkni : (k : Int) < n := by omega
      obtain ⟨x, hx⟩ : ∃ x, g[k]? = some x := ⟨_, List.getElem?_eq_getElem (by rw [HL.out]; exact hlt)⟩
      obtain ⟨rb, hrb⟩ := bRow_some hrl hlt
      have hbit : (wordAt ws k).testBit (k % 64) = rb := by
        have := hS.bits k (by omega)
        rw [hrb] at this
        cases rb <;> simp_all
      have HX := Lib.hid hx; have HR := Lib.hid hR; have HRB := Lib.hid hrb; have HS := Lib.hid hS; have HSET := Lib.hid hset; have HBOX := Lib.hid hbox; have HMK := Lib.hid hmarks; have HBW := Lib.hid hbw
      clear hx hR hrb hS hset hbox hmarks
      gi_wp2_with fail
      refine ⟨trivial, ?_⟩
      refine (callsIn_wide.2 (has_any w.heap.size k ws _ HSET.out HS.out.len HS.out.lt (by omega))).mono ?_; rintro e w2 ⟨rfl, rfl⟩
      rw [hbit]
      cases rb with
      | false =>
        gi_wp2
        refine ⟨⟨k + 1, rs, Ds, _, _, _, _, _, _, _, _, _, _, _, _, _, _, _, _, rfl, by omega, HR.out.skip HRB.out, ⟨ws, HS.out, HSET.out⟩, HBOX.out, HMK.out, HBW.out⟩, by simp [intOf]; try omega⟩
      | true =>
        gi_wp2_with fail
        refine ⟨trivial, ?_⟩
        refine (callsIn_wide.2 (ways_any A n c k _)).mono ?_; rintro e w2 ⟨rfl, hw2⟩
        have hzb := hbw.size
        have hsl := HSET.out.lt
        have hbl := HBOX.out.lt
        have hW2 : Below wr.heap.size wr w2 := by rw [hw2]; go_grown
        have hs2 : w2.heap.size = wr.heap.size + 1 + 1 := by rw [hw2]; simp
        have hBp : w2.cell? ⟨wr.heap.size, 0, none⟩ = some (.slice A n c) := by rw [hw2]; exact ((Blk.new wr _ _).alloc _).cell 0
        have hBi : w2.cell? ⟨wr.heap.size + 1, 0, none⟩ = some (.int .i64 k) := by rw [hw2]; exact (Blk.second wr _ _ _).cell 0
        have hA2 := (HA.out.below hbw).below hW2
        have set2 : Blk w2 w.heap.size 136 (wRow ws) := (hW2.block _ hsl).trans HSET.out
        have box2 : Blk w2 (w.heap.size + 1) 70 #[.pointer (some ⟨w.heap.size, 0, none⟩)] := (hW2.block _ hbl).trans HBOX.out
        have marks2 := HMK.out.below hW2
        have below2 := below_step hbw hzb hW2
        have hDs : ∀ D ∈ Ds, D < w2.heap.size := fun D hD => (Array.getElem?_eq_some_iff.1 (marks2.2 D hD).2).1
        clear hw2 q3
        gi_wp2_with fail
        refine wpIn_rangeFunc_ownF (F := Fence.wide) rfl (by omega) (gf := 131) (lb := #[.pointer (some ⟨wr.heap.size, 0, none⟩), .pointer (some ⟨wr.heap.size + 1, 0, none⟩)]) rfl trivial (enters_of Tryz.func131 (by kernel_rfl) rfl)
          (ways_stops _ (by omega) wr.heap.size (wr.heap.size + 1) w.heap.size A n c g k x HG.out HX.out w2 hA2 hBp hBi (by omega) (by omega)) (fun h k => h.trans k) (fun W l o o' _ h hc _ => KC.putObj W l o o' h hc) (Below.refl _ _) (fun _ => rfl)
          (fun pre W => ((∃ ws, SetIs ws (markAll rs (pre.map fun j => j.1.toNat)) ∧ Blk W w.heap.size 136 (wRow ws)) ∧ Blk W (w.heap.size + 1) 70 #[.pointer (some ⟨w.heap.size, 0, none⟩)]) ∧ Marks W w.heap.size Ds ∧ Below w.heap.size w W)
          (fun _ _ _ => False)
          (fun s X Y row hs hgr hrow => by
            obtain ⟨⟨⟨ws', h0, h1⟩, h2⟩, h4, h5⟩ := hs
            have hne : ∀ (q : Nat) (t : TypeId) (cs : Array Value), Blk X q t cs → Blk Y q t cs := fun q t cs hb => hb.grown hgr (fun e => by
              obtain ⟨_, o, ho, hoc⟩ := hrow q e.symm
              rw [show X.heap[q]? = _ from hb] at ho; cases ho; cases hoc)
            exact ⟨⟨⟨ws', h0, hne _ _ _ h1⟩, hne _ _ _ h2⟩, h4.same (fun D hD hDX => hgr.block D (Array.getElem?_eq_some_iff.1 hDX).1 (fun e => by
              have := (hrow D e.symm).1; have := hDs D hD; omega)), h5.grown hgr (by have := h5.size; omega) (fun q e => by have := (hrow q e).1; omega)⟩)
          (fun _ _ _ _ _ hs _ _ => hs)
          ⟨⟨⟨ws, HS.out, set2⟩, box2⟩, marks2, below2⟩
          (fun j => { tmps := #[.slice A n c, undef, .pointer none, .pointer (some ⟨w.heap.size + 1, 0, none⟩), .int .i64 k, .int .i64 j.1, .agg #[.int .u64 0, .int .u64 0, .int .u64 0], .pointer (some ⟨w.heap.size, 0, none⟩), .pointer (some ⟨w.heap.size, 0, none⟩), av, .slice A n c, .int .i64 n, .int .i64 k, .bool true, .int .i64 k, .pointer (some ⟨w.heap.size, 0, none⟩), .int .i64 k, .bool true, .bool false, .slice A n c, .int .i64 k, .func (.func 131) #[] #[.pointer (some ⟨wr.heap.size, 0, none⟩), .pointer (some ⟨wr.heap.size + 1, 0, none⟩)], .int .i64 j.1, u23, u24, u25, u26, undef], defers := [] }) ?assign ?body ?done ?stop
        case assign =>
          intro l j W K hK
          gi_wp2
          exact hK
        case body =>
          rintro l pre ⟨j, hj1, hj2⟩ W ⟨⟨⟨ws', h0, h1⟩, h2⟩, h4, h5⟩ _
          obtain ⟨j, rfl⟩ := Int.eq_ofNat_of_zero_le (show 0 ≤ j by omega)
          have r3 : W.cell? ⟨w.heap.size + 1, 0, none⟩ = some (.pointer (some ⟨w.heap.size, 0, none⟩)) := h2.cell 0
          have hml : (markAll rs (pre.map fun j => j.1.toNat)).length = n := (markAll_len _ _).trans hrl
          have h6 : SetIs (setBit ws' j) (markAll rs ((pre ++ [(⟨(j : Int), hj1, hj2⟩ : { j : Int // (k : Int) < j ∧ j < n })]).map fun j => j.1.toNat)) := by
            rw [List.map_append, List.map_cons, List.map_nil, markAll_snoc, Int.toNat_natCast]
            exact h0.add (by omega) (by omega)
          have hWl := h1.lt
          gi_wp2_with fail
          refine ⟨trivial, ?_⟩
          refine (CallsIn.inRound l (callsIn_wide.2 (add_any w.heap.size j ws' W h1 h0.len h0.lt (by omega)))).mono ?_; rintro e W3 ⟨⟨bv, rfl⟩, h7, g7⟩
          gi_wp2
          have hKO : KeepsOthers W W3 := KeepsOthers.of_grownBy g7 (fun q o e ho => by cases e; rw [show W.heap[w.heap.size]? = _ from h1] at ho; cases ho; rfl)
          exact ⟨hKO, KC.of_grown g7, ⟨⟨_, h6, h7⟩, h2.grown g7 (by intro e; simp at e)⟩, h4.cells hKO, h5.trans (below_of_grown g7 (Nat.le_refl _) hWl)⟩
        case done =>
          rintro D ys W hD hS' ⟨⟨⟨ws', h0, h1⟩, h2⟩, h4, h5⟩ hK
          have hys : (ys.map fun j => j.1.toNat) = nexts x k := by
            have e1 : (ys.map fun j => j.1.toNat) = (ys.map (·.1)).map Int.toNat := by rw [List.map_map]; rfl
            rw [e1, hS']
            unfold nextZ
            rw [List.map_map]
            exact (List.map_congr_left (fun a _ => by simp)).trans (List.map_id _)
          rw [hys] at h0
          have hDn : D ∉ Ds := fun e => by have := hDs D e; omega
          have H0 := Lib.hid h0; have H1 := Lib.hid h1; have H2 := Lib.hid h2; have H4 := Lib.hid h4; have H5 := Lib.hid h5; have HKD := Lib.hid hK; clear h0 h1 h2 h4 h5 hK
          gi_wp2
          refine ⟨⟨k + 1, markAll rs (nexts x k), D :: Ds, _, _, _, _, _, _, _, _, _, _, _, _, _, _, _, _, rfl, by omega, HR.out.mark HG.out HX.out HRB.out, ⟨ws', H0.out, H1.out⟩, H2.out, H4.out.cons (by omega) HKD.out hDn, H5.out⟩, by simp [intOf]; try omega⟩
        case stop =>
          rintro D c' pre W _ _ h _
          exact h.elim
    · obtain rfl : k = n := by omega
      have HR := Lib.hid hR; have HS := Lib.hid hS; have HSET := Lib.hid hset; have HMK := Lib.hid hmarks; have HBW := Lib.hid hbw
      clear hR hS hset hbox hmarks hbw
      gi_wp2
      refine leaves_marks (by simp) Ds wr HMK.out ?_
      have hblk := (shut_block (base := w.heap.size) Ds wr w.heap.size (HMK.out.ne_cells HSET.out)).trans HSET.out
      refine ⟨.pointer (some ⟨w.heap.size, 0, none⟩), by simp [results, Tryz.results41, go_sem], ws, rs, HS.out, by rw [HL.out]; exact HR.out, rfl, hblk, HBW.out.trans (shut_below Ds wr HMK.out)⟩
end Go.Proofs.YteflnpejhhkchaaGreatDoor
