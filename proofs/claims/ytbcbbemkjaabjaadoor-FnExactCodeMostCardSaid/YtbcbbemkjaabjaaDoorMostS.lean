/- spec.CodeMost: to how many places a run comes at most. -/
import Derived.Test.YtbcbbemkjaabjaaDoorNextS
import Derived.Test.YtbcbbemkjaabjaaDoorLawInts
import Derived.BigRegion
namespace Go.Proofs.YtbcbbemkjaabjaaDoor
open Go.RowKit
set_option linter.unusedSimpArgs false
set_option linter.unusedVariables false

/-- The cells of ints. -/
def iRow (ms : List Int) : Array Value := (ms.map (Value.int .i64)).toArray
theorem iRow_zero (n : Nat) : madeCells #[.int .i64 0] n = iRow (List.replicate n 0) := by
  apply Array.ext'
  rw [toList_madeCells_one]
  simp [iRow]
theorem iRow_set (ms : List Int) (k : Nat) (x : Int) : (iRow ms).setIfInBounds k (.int .i64 x) = iRow (ms.set k x) := by
  apply Array.ext'
  simp [iRow, List.map_set]
theorem iRow_cell {w : World} {h k : Nat} {t : TypeId} {ms : List Int} {x : Int} (hb : Blk w h t (iRow ms)) (hk : ms[k]? = some x) : w.cell? ⟨h, k, none⟩ = some (.int .i64 x) := (hb.cell k).trans (by simp [iRow, hk])
theorem row_some {ms : List Int} {n k : Nat} (hl : ms.length = n) (hk : k < n) : ms[k]? = some ((ms[k]?).getD 0) := by rw [List.getElem?_eq_getElem (by omega)]; rfl

/-- What is told of all places. -/
noncomputable def mostRow (g : List In4) : List Int := @dite _ (∃ ms, MostFrom g 0 ms) (Classical.propDecidable _) (fun h => Classical.choose h) (fun _ => [])
theorem mostRow_eq {g : List In4} {ms : List Int} (hg : waysOk g) (h : MostFrom g 0 ms) : ms = mostRow g := by
  have he : ∃ ms, MostFrom g 0 ms := ⟨ms, h⟩
  unfold mostRow
  rw [dif_pos he]
  exact most_one hg h (Classical.choose_spec he)
/-- What both CodeMost return. -/
noncomputable def mostOf (g : List In4) : Int := if codeOkB g then ((mostRow g)[0]?).getD 0 else 0

theorem take_next {nx : List Nat} {j t : Nat} (h : nx[j]? = some t) : nx.take (j + 1) = nx.take j ++ [t] := by
  rw [List.take_add_one, h]; rfl

set_option maxHeartbeats 4000000 in
theorem sCodeMost_ok (v : Value) (g : List In4) (w : World) (hs : Sl w 4 v (insR g)) (hg : codeOk g) :
    Calls Tryd.prog 8 #[v] w fun e w' => e = .returned (.int .i64 (mostOf g)) ∧ Below w.heap.size w w' := by
  have hO := sCodeOk_any v g w hs
  obtain ⟨A, n, c, rfl, hA⟩ := hs
  have hl : g.length = n := by have := hA.len; rwa [insR_len] at this
  have hc := hA.cap
  have hm := hA.max
  unfold maxLen at hm
  have h1 : 1 ≤ n := by rw [← hl]; exact hg.1.1
  have h2 : n ≤ 160 := by rw [← hl]; exact hg.1.2.1
  have hmk := fun W => run_make_row' (P := Tryd.prog) 35 3 (.int .i64 0) 8 Tryd.underlying35 info_int rfl .i64 .i64 n (by omega) (by omega) W
  have hgb : codeOkB g = true := codeOkB_iff.2 hg
  have HO := Lib.hid hO; have HL := Lib.hid hl; have HG := Lib.hid hg; have HA := Lib.hid hA; clear hO hl hg
  go_enter Tryd.func8, Tryd.ntmps8
  go_wp2_with fail
  refine (HO.out).mono ?_; rintro e w1 ⟨rfl, hb1⟩
  rw [hgb]
  have hA1 := hA.below hb1
  have hHA1 := Lib.hid hA1; clear hA
  go_wp2
  go_loopw [4] (fun i wr => ∃ (k : Int) (ms : List Int), -1 ≤ k ∧ k < n ∧ i = .int .i64 k ∧ MostFrom g (k + 1) ms ∧ Blk wr w1.heap.size 3 (iRow ms) ∧ Below w1.heap.size w1 wr) (fun i _ => (intOf i + 1).toNat)
  case atStart =>
    refine ⟨(n : Int) - 1, List.replicate n 0, by omega, by omega, by go_num, ?_, ?_, by go_grown⟩
    · rw [show (n : Int) - 1 + 1 = n by omega, ← HL.out]; exact MostFrom.start g
    · rw [← iRow_zero]; exact Blk.new _ _ _
  case round =>
    obtain ⟨k, ms, hk0, hk, rfl, hM, hbk, hbw⟩ := hrel
    have hsz := hbw.size
    have hblt := hbk.lt
    have hml : ms.length = n := hM.len.trans HL.out
    by_cases hlt : 0 ≤ k
    · obtain ⟨k, rfl⟩ := Int.eq_ofNat_of_zero_le hlt
      have hkn : k < n := by omega
      have hkni : (k : Int) < n := by omega
      obtain ⟨x, hx⟩ : ∃ x, g[k]? = some x := ⟨_, List.getElem?_eq_getElem (by rw [HL.out]; exact hkn)⟩
      have hnext : ∀ {j : Nat}, j ∈ nexts x k → k < j ∧ j < g.length := fun {j} h => nexts_in HG.out.1 hx h
      have hover := fun js hj => MostFrom.over HG.out.1 hM (js := js) hj
      have hbnd := fun j (hj : j < g.length) => MostFrom.bnd HG.out.1 hM hj
      have HX := Lib.hid hx; have HM := Lib.hid hM; have HN := Lib.hid (show ∀ j : Nat, j ∈ nexts x k → k < j ∧ j < g.length from fun j h => hnext h); have HV := Lib.hid hover; have HD := Lib.hid hbnd; clear hx hM hnext hover hbnd
      go_wp2_with fail
      refine (l14Next_any A n c g k x _ (hA1.below hbw) HG.out.1 HX.out).mono ?_; rintro e w2 ⟨v2, rfl, ⟨A2, c2, rfl, hA2, hfar⟩, hb2⟩
      have hbk2 : Blk w2 w1.heap.size 3 (iRow ms) := (hb2.block _ hblt).trans hbk
      have hb12 := below_step hbw hsz hb2
      have hnl : (nextI x k).length = (nexts x k).length := nextI_len x k
      have hn2 := nexts_len x k
      rw [hnl] at hA2 ⊢
      have HA2 := Lib.hid hA2; have HF := Lib.hid hfar; have HB2 := Lib.hid hbk2; clear hA2 hfar hbk2 hbk
      have hset0 : ms.set k (maxOver ms ((nexts x k).take 0)) = ms := by
        rw [List.take_zero, maxOver_nil]
        apply List.ext_getElem?
        intro i
        rw [List.getElem?_set]
        by_cases e : k = i
        · subst e
          rw [if_pos rfl, if_pos (by omega), HM.out.zero k (by omega) (by rw [HL.out]; exact hkn)]
        · rw [if_neg e]
      have hz2 := hb2.size
      go_wp2
      go_loopw [6] (fun i wr' => ∃ j : Nat, j ≤ (nexts x k).length ∧ i = .int .i64 j ∧ Blk wr' w1.heap.size 3 (iRow (ms.set k (maxOver ms ((nexts x k).take j)))) ∧ w2.grownBy wr' (some w1.heap.size)) (fun i _ => (nexts x k).length - (intOf i).toNat)
      case atStart => exact ⟨0, Nat.zero_le _, rfl, by rw [hset0]; exact HB2.out, World.grownBy.refl _ _⟩
      case round =>
        obtain ⟨j, hj, rfl, hbj, hgj⟩ := hrel
        have hover := HV.out ((nexts x k).take j) (fun i hi => (HN.out i (List.mem_of_mem_take hi)).2)
        have hlj := hbj.lt
        by_cases hjn : j < (nexts x k).length
        · have hjt : (nexts x k)[j]? = some ((nexts x k)[j]) := List.getElem?_eq_getElem hjn
          obtain ⟨t, ht⟩ : ∃ t, (nexts x k)[j] = t := ⟨_, rfl⟩
          rw [ht] at hjt
          have htin := HN.out t (List.mem_of_getElem? hjt)
          have htake := take_next hjt
          have hA3 : SlA _ 1 A2 (nexts x k).length c2 (ints (nextI x k)) := SlA.grown HA2.out hgj (fun b off e => by have := HF.out b off e; omega)
          obtain ⟨b3, o3, y3, rfl, hab3, hy3, hcell3⟩ := intsGet hA3 hjn
          have hy3' : y3 = (t : Int) := by
            have : (nextI x k)[j]? = some ((t : Nat) : Int) := by unfold nextI; rw [List.getElem?_map, hjt]; rfl
            rw [this] at hy3; exact (Option.some.inj hy3).symm
          subst hy3'
          have c3 := hcell3 _ _ (Below.refl _ _) hab3
          have htn : t < n := by have := htin.2; rw [HL.out] at this; exact this
          have htni : (t : Int) < n := by omega
          have hkt : k < t := htin.1
          have dt := iRow_cell (k := t) hbj (x := (ms[t]?).getD 0) (by rw [List.getElem?_set, if_neg (by omega)]; exact row_some hml htn)
          have dk := iRow_cell (k := k) hbj (x := maxOver ms ((nexts x k).take j)) (by rw [List.getElem?_set, if_pos rfl, if_pos (by omega)])
          have fk := hbj.frozen k
          have hbt := HD.out t htin.2
          obtain ⟨mt, hmt⟩ : ∃ mt, (ms[t]?).getD 0 = mt := ⟨_, rfl⟩
          obtain ⟨mk, hmk2⟩ : ∃ mk, maxOver ms ((nexts x k).take j) = mk := ⟨_, rfl⟩
          rw [hmt] at dt hbt
          rw [hmk2] at dk hover
          have hmax : maxOver ms ((nexts x k).take (j + 1)) = max mk mt := by rw [htake, maxOver_snoc, hmt, hmk2]
          have HMAX := Lib.hid hmax; have HBJ := Lib.hid hbj; have HMK := Lib.hid hmk2; clear hmax hbj hcell3 hA3 htake hjt hy3 hmk2 hmt ht
          have hji : (j : Int) < (nexts x k).length := by omega
          by_cases hgt : mk < mt
          · go_wp2
            go_region
            all_goals go_wp2
            all_goals
              refine ⟨⟨j + 1, by omega, by go_num, ?_, ?_⟩, by simp [intOf]; try omega⟩
              · rw [HMAX.out, show max mk mt = mt by omega]
                have h3 := (HBJ.out.drew).set_ k (.int .i64 mt)
                rw [iRow_set, List.set_set] at h3
                exact h3
              · exact (hgj.trans (grown_drew _ _)).trans (grown_set _ _ _ _)
          · have hgt' : mt ≤ mk := by omega
            go_wp2
            go_region
            all_goals go_wp2
            all_goals
              refine ⟨⟨j + 1, by omega, by go_num, ?_, ?_⟩, by simp [intOf]; try omega⟩
              · rw [HMAX.out, show max mk mt = mk by omega]
                have h3 := HBJ.out.drew
                rw [HMK.out] at h3
                exact h3
              · exact hgj.trans (grown_drew _ _)
        · obtain rfl : j = (nexts x k).length := by omega
          rw [List.take_length] at hbj hover
          have dk := iRow_cell (k := k) hbj (x := maxOver ms (nexts x k)) (by rw [List.getElem?_set, if_pos rfl, if_pos (by omega)])
          have fk := hbj.frozen k
          have HBJ := Lib.hid hbj; clear hbj
          go_wp2
          refine ⟨⟨(k : Int) - 1, ms.set k (1 + maxOver ms (nexts x k)), by omega, by omega, by go_num, ?_, ?_, ?_⟩, by simp [intOf]; try omega⟩
          · rw [show (k : Int) - 1 + 1 = k by omega]; exact HM.out.step HG.out.1 HX.out
          · have h3 := HBJ.out.set_ k (.int .i64 (maxOver ms (nexts x k) + 1))
            rw [iRow_set, List.set_set] at h3
            rw [Int.add_comm 1]
            exact h3
          · exact (hb12.trans (below_of_grown hgj (Nat.le_refl _) (by omega))).setCell (p := ⟨w1.heap.size, k, none⟩) (Nat.le_refl _) _
    · obtain rfl : k = -1 := by omega
      have d0 := iRow_cell (k := 0) hbk (row_some hml (by omega))
      have hmr : ms = mostRow g := mostRow_eq HG.out.1 (by simpa using hM)
      have HMR := Lib.hid hmr; have HMV := Lib.hid (show mostOf g = ((mostRow g)[0]?).getD 0 by unfold mostOf; rw [if_pos hgb]); clear hmr hM
      have h0n : (0 : Int) < n := by omega
      go_wp2
      go_ret
      refine ⟨ret_int ?_, below_then hb1 hbw⟩
      rw [HMV.out, HMR.out]

theorem sCodeMost_no (v : Value) (g : List In4) (w : World) (hs : Sl w 4 v (insR g)) (hg : ¬ codeOk g) :
    Calls Tryd.prog 8 #[v] w fun e w' => e = .returned (.int .i64 (mostOf g)) ∧ Below w.heap.size w w' := by
  have hO := sCodeOk_any v g w hs
  obtain ⟨A, n, c, rfl, hA⟩ := hs
  have hgb := codeOkB_no hg
  have HMV := Lib.hid (show mostOf g = 0 by unfold mostOf; rw [hgb]; rfl)
  have HO := Lib.hid hO; clear hO hA hg
  go_enter Tryd.func8, Tryd.ntmps8
  go_wp2_with fail
  refine (HO.out).mono ?_; rintro e w1 ⟨rfl, hb1⟩
  rw [hgb]
  go_wp2
  go_ret
  exact ⟨ret_int HMV.out.symm, hb1⟩
theorem sCodeMost_any (v : Value) (g : List In4) (w : World) (hs : Sl w 4 v (insR g)) :
    Calls Tryd.prog 8 #[v] w fun e w' => e = .returned (.int .i64 (mostOf g)) ∧ Below w.heap.size w w' := by
  by_cases h : codeOk g
  · exact sCodeMost_ok v g w hs h
  · exact sCodeMost_no v g w hs h
end Go.Proofs.YtbcbbemkjaabjaaDoor
