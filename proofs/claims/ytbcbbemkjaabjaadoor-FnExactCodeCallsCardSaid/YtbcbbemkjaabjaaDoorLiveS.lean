/- spec.CodeLive: to which places a run can come. -/
import Derived.Test.YtbcbbemkjaabjaaDoorNextS
import Derived.Test.YtbcbbemkjaabjaaDoorLawBools
import Derived.BigRegion
namespace Go.Proofs.YtbcbbemkjaabjaaDoor
open Go.RowKit
set_option linter.unusedSimpArgs false
set_option linter.unusedVariables false

theorem info_bool : (Tryd.prog.info? 4).map (fun i => (i.zero, i.size, i.bytes)) = some (some (.bool false), 1, 1) := by kernel_rfl
/-- The cells of bools, as a block. -/
def bRow (rs : List Bool) : Array Value := (rs.map Value.bool).toArray
theorem bRow_zero (n : Nat) : madeCells #[.bool false] n = bRow (List.replicate n false) := by
  apply Array.ext'
  rw [toList_madeCells_one]
  simp [bRow]
theorem bRow_get (rs : List Bool) (k : Nat) : (bRow rs)[k]? = rs[k]?.map Value.bool := by simp [bRow]
theorem bRow_set (rs : List Bool) (k : Nat) (b : Bool) : (bRow rs).setIfInBounds k (.bool b) = bRow (rs.set k b) := by
  apply Array.ext'
  simp [bRow, List.map_set]
theorem bRow_cell {w : World} {h k : Nat} {t : TypeId} {rs : List Bool} {b : Bool} (hb : Blk w h t (bRow rs)) (hk : rs[k]? = some b) : w.cell? ⟨h, k, none⟩ = some (.bool b) := (hb.cell k).trans (by rw [bRow_get, hk]; rfl)
theorem bRow_some {rs : List Bool} {n k : Nat} (hl : rs.length = n) (hk : k < n) : ∃ b, rs[k]? = some b := ⟨_, List.getElem?_eq_getElem (by omega)⟩
theorem bRow_own {w : World} {b base n : Nat} {rs : List Bool} (h : Blk w b 4 (bRow rs)) (hb : base ≤ b) (hl : rs.length = n) (hm : n ≤ 1000) : w.ownsRow base 4 1 (.slice (some ⟨b, 0, none⟩) n n) n (bools rs).flatten := by
  refine ⟨by rw [bools_flat]; simp [hl], .inr ⟨b, n, _, rfl, hb, h, Nat.le_refl _, by unfold maxLen; omega, by simp [bRow, hl], ?_⟩⟩
  rw [bools_flat]
  simp [bRow]
  rw [List.take_of_length_le (by simp [hl])]

/-- What is marked in the end. -/
noncomputable def liveRow (g : List In4) : List Bool := @dite _ (∃ rs, LiveTo g g.length rs) (Classical.propDecidable _) (fun h => Classical.choose h) (fun _ => [])
theorem liveRow_eq {g : List In4} {rs : List Bool} (hg : waysOk g) (h : LiveTo g g.length rs) : rs = liveRow g := by
  have he : ∃ rs, LiveTo g g.length rs := ⟨rs, h⟩
  unfold liveRow
  rw [dif_pos he]
  exact live_one hg h (Classical.choose_spec he)
/-- What both CodeLive return. -/
noncomputable def liveOf (g : List In4) : List Bool := if codeOkB g then liveRow g else []
def LivePost (g : List In4) (w : World) (e : Ending) (w' : World) : Prop := ∃ v, e = .returned v ∧ w'.ownsRow w.heap.size 4 1 v (liveOf g).length (bools (liveOf g)).flatten ∧ Below w.heap.size w w'

set_option maxHeartbeats 4000000 in
theorem l14Live_ok (A : Option Addr) (n c : Nat) (g : List In4) (w : World) (hA : SlA w 4 A n c (insR g)) (hg : waysOk g) :
    Calls Tryd.prog 32 #[.slice A n c] w fun e w' => ∃ rs, LiveTo g g.length rs ∧ e = .returned (.slice (some ⟨w.heap.size, 0, none⟩) n n) ∧ Blk w' w.heap.size 4 (bRow rs) ∧ Below w.heap.size w w' := by
  have hl : g.length = n := by have := hA.len; rwa [insR_len] at this
  have hc := hA.cap
  have hm := hA.max
  unfold maxLen at hm
  have h1 : 1 ≤ n := by rw [← hl]; exact hg.1
  have h2 : n ≤ 160 := by rw [← hl]; exact hg.2.1
  have hmk := fun W => run_make_row' (P := Tryd.prog) 29 4 (.bool false) 1 Tryd.underlying29 info_bool rfl .i64 .i64 n (by omega) (by omega) W
  have B0 : Blk (w.alloc (.cells (madeCells #[.bool false] n) 4)) w.heap.size 4 (bRow (List.replicate n false)) := by rw [bRow_zero]; exact Blk.new _ _ _
  have d0 := bRow_cell (k := 0) B0 (by simp [show 0 < n by omega]; rfl)
  have f0 := B0.frozen 0
  have h0n : (0 : Int) < n := by omega
  have HL := Lib.hid hl; have HG := Lib.hid hg; have HA := Lib.hid hA; clear hl hg B0 hA
  go_enter Tryd.func32, Tryd.ntmps32
  go_wp2
  go_loopw [4] (fun i wr => ∃ (k : Nat) (rs : List Bool), k ≤ n ∧ i = .int .i64 k ∧ LiveTo g k rs ∧ Blk wr w.heap.size 4 (bRow rs) ∧ Below w.heap.size w wr) (fun i _ => n - (intOf i).toNat)
  case atStart =>
    refine ⟨0, (List.replicate n false).set 0 true, Nat.zero_le _, rfl, ?_, ?_, by go_grown⟩
    · rw [← HL.out]; exact LiveTo.start (by rw [HL.out]; exact h1)
    · rw [← bRow_set, ← bRow_zero]; exact Blk.new _ _ _
  case round =>
    obtain ⟨k, rs, hk, rfl, hR, hbk, hbw⟩ := hrel
    have hsz := hbw.size
    have hblt := hbk.lt
    have hrl : rs.length = n := hR.len.trans HL.out
    by_cases hlt : k < n
    · have hkni : (k : Int) < n := by omega
      obtain ⟨x, hx⟩ : ∃ x, g[k]? = some x := ⟨_, List.getElem?_eq_getElem (by rw [HL.out]; exact hlt)⟩
      obtain ⟨rb, hrb⟩ := bRow_some hrl hlt
      have HX := Lib.hid hx; have HR := Lib.hid hR; have HRB := Lib.hid hrb; have HN := Lib.hid (show ∀ j : Nat, j ∈ nexts x k → k < j ∧ j < g.length from fun j h => nexts_in HG.out hx h); clear hx hR hrb
      go_wp2_with fail
      refine (l14Next_any A n c g k x _ (HA.out.below hbw) HG.out HX.out).mono ?_; rintro e w2 ⟨v2, rfl, ⟨A2, c2, rfl, hA2, hfar⟩, hb2⟩
      have hbk2 : Blk w2 w.heap.size 4 (bRow rs) := (hb2.block _ hblt).trans hbk
      have hb02 := below_step hbw hsz hb2
      have hnl : (nextI x k).length = (nexts x k).length := nextI_len x k
      have hn2 := nexts_len x k
      rw [hnl] at hA2 ⊢
      have HA2 := Lib.hid hA2; have HF := Lib.hid hfar; have HB2 := Lib.hid hbk2; clear hA2 hfar hbk2 hbk
      have hz2 := hb2.size
      go_wp2
      go_loopw [6] (fun i wr' => ∃ j : Nat, j ≤ (nexts x k).length ∧ i = .int .i64 j ∧ (rb = false → j = 0) ∧ Blk wr' w.heap.size 4 (bRow (markAll rs ((nexts x k).take j))) ∧ w2.grownBy wr' (some w.heap.size)) (fun i _ => (nexts x k).length - (intOf i).toNat)
      case atStart => exact ⟨0, Nat.zero_le _, rfl, fun _ => rfl, by rw [List.take_zero]; exact HB2.out, World.grownBy.refl _ _⟩
      case round =>
        obtain ⟨j, hj, rfl, hj0, hbj, hgj⟩ := hrel
        have hlj := hbj.lt
        have dk := bRow_cell (k := k) hbj (b := rb) (by rw [markAll_far _ _ _ (fun hi => by have := (HN.out _ (List.mem_of_mem_take hi)).1; omega)]; exact HRB.out)
        by_cases hjn : j < (nexts x k).length
        · have hji : (j : Int) < (nexts x k).length := by omega
          cases rb with
          | false =>
            obtain rfl : j = 0 := hj0 rfl
            have HBJ := Lib.hid hbj; clear hbj
            go_wp2
            refine ⟨⟨k + 1, rs, by omega, by go_num, HR.out.skip HRB.out, by have := HBJ.out; rwa [List.take_zero] at this, hb02.trans (below_of_grown hgj (Nat.le_refl _) (by omega))⟩, by simp [intOf]; try omega⟩
          | true =>
            have hjt : (nexts x k)[j]? = some ((nexts x k)[j]) := List.getElem?_eq_getElem hjn
            obtain ⟨t, ht⟩ : ∃ t, (nexts x k)[j] = t := ⟨_, rfl⟩
            rw [ht] at hjt
            have htin := HN.out t (List.mem_of_getElem? hjt)
            have htake : (nexts x k).take (j + 1) = (nexts x k).take j ++ [t] := by rw [List.take_add_one, hjt]; rfl
            have hA3 : SlA _ 1 A2 (nexts x k).length c2 (ints (nextI x k)) := SlA.grown HA2.out hgj (fun b off e => by have := HF.out b off e; omega)
            obtain ⟨b3, o3, y3, rfl, hab3, hy3, hcell3⟩ := intsGet hA3 hjn
            have hy3' : y3 = (t : Int) := by
              have : (nextI x k)[j]? = some ((t : Nat) : Int) := by unfold nextI; rw [List.getElem?_map, hjt]; rfl
              rw [this] at hy3; exact (Option.some.inj hy3).symm
            subst hy3'
            have c3 := hcell3 _ _ (Below.refl _ _) hab3
            have htn : t < n := by have := htin.2; rw [HL.out] at this; exact this
            have htni : (t : Int) < n := by omega
            obtain ⟨tb, htb⟩ := bRow_some ((markAll_len ((nexts x k).take j) rs).trans hrl) htn
            have dt := bRow_cell hbj htb
            have ft := hbj.frozen t
            have hbne : ¬ b3 = w.heap.size := by have := HF.out b3 o3 rfl; omega
            have HBJ := Lib.hid hbj; have HTK := Lib.hid htake; clear hbj hcell3 hA3 htake hjt hy3 ht htb
            go_wp2
            refine ⟨⟨j + 1, by omega, by go_num, by simp, ?_, hgj.trans (grown_set _ _ _ _)⟩, by simp [intOf]; try omega⟩
            rw [HTK.out, markAll_snoc, ← bRow_set]
            exact HBJ.out.set_ t _
        · obtain rfl : j = (nexts x k).length := by omega
          rw [List.take_length] at hbj
          have hend : ∃ rs', LiveTo g (k + 1) rs' ∧ markAll rs (nexts x k) = rs' := by
            refine ⟨_, ?_, rfl⟩
            cases rb with
            | true => exact HR.out.mark HG.out HX.out HRB.out
            | false =>
              have h0 : nexts x k = [] := List.length_eq_zero_iff.1 (hj0 rfl)
              rw [h0]
              exact HR.out.skip HRB.out
          obtain ⟨rs', hR', hrs'⟩ := hend
          rw [hrs'] at hbj
          have HR' := Lib.hid hR'; have HBJ := Lib.hid hbj; clear hR' hbj hrs'
          go_wp2
          all_goals exact ⟨⟨k + 1, rs', by omega, by go_num, HR'.out, HBJ.out, hb02.trans (below_of_grown hgj (Nat.le_refl _) (by omega))⟩, by simp [intOf]; try omega⟩
    · obtain rfl : k = n := by omega
      go_wp2
      go_ret
      exact ⟨rs, by rw [HL.out]; exact hR, rfl, hbk, hbw⟩

set_option maxHeartbeats 1000000 in
theorem sCodeLive_any (v : Value) (g : List In4) (w : World) (hs : Sl w 4 v (insR g)) :
    Calls Tryd.prog 12 #[v] w (LivePost g w) := by
  have hO := sCodeOk_any v g w hs
  obtain ⟨A, n, c, rfl, hA⟩ := hs
  have hl : g.length = n := by have := hA.len; rwa [insR_len] at this
  have HO := Lib.hid hO; have HL := Lib.hid hl; have HA := Lib.hid hA; clear hO hl hA
  by_cases hg : codeOk g
  · have hgb : codeOkB g = true := codeOkB_iff.2 hg
    have HG := Lib.hid hg; clear hg
    go_enter Tryd.func12, Tryd.ntmps12
    go_wp2_with fail
    refine (HO.out).mono ?_; rintro e w1 ⟨rfl, hb1⟩
    rw [hgb]
    go_wp2_with fail
    refine (l14Live_ok A n c g _ (HA.out.below hb1) HG.out.1).mono ?_; rintro e w2 ⟨rs, hR, rfl, hbk, hb2⟩
    have he : liveOf g = rs := by unfold liveOf; rw [if_pos hgb]; exact (liveRow_eq HG.out.1 hR).symm
    have hrl : rs.length = n := hR.len.trans HL.out
    have HE := Lib.hid he; have HB := Lib.hid hbk; clear he hbk hR
    go_wp2
    go_ret
    refine ⟨_, rfl, ?_, below_then hb1 hb2⟩
    rw [HE.out, hrl]
    exact bRow_own HB.out hb1.size hrl (by have := HG.out.1.2.1; rw [HL.out] at this; omega)
  · have hgb := codeOkB_no hg
    have he : liveOf g = [] := by unfold liveOf; rw [hgb]; rfl
    have HE := Lib.hid he; clear he hg
    go_enter Tryd.func12, Tryd.ntmps12
    go_wp2_with fail
    refine (HO.out).mono ?_; rintro e w1 ⟨rfl, hb1⟩
    rw [hgb]
    go_wp2
    go_ret
    refine ⟨_, rfl, ?_, hb1.alloc hb1.size _⟩
    rw [HE.out]
    exact own_base (World.ownsRow_made w1 #[] 0 (Nat.le_refl _) (by unfold maxLen; omega) rfl) hb1.size
end Go.Proofs.YtbcbbemkjaabjaaDoor
