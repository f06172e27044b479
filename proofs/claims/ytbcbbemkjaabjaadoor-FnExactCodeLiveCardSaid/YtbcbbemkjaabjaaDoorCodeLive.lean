/- impl.CodeLive, of whatever program. -/
import Derived.Test.YtbcbbemkjaabjaaDoorLiveI
namespace Go.Proofs.YtbcbbemkjaabjaaDoor
open Go.RowKit
set_option linter.unusedSimpArgs false
set_option linter.unusedVariables false

theorem liveOf_len (g : List In4) : (liveOf g).length ≤ 160 := by
  unfold liveOf
  by_cases h : codeOkB g = true
  · rw [if_pos h]
    have hg := codeOkB_iff.1 h
    by_cases he : ∃ rs, LiveTo g g.length rs
    · unfold liveRow
      rw [dif_pos he, (Classical.choose_spec he).len]
      exact hg.1.2.1
    · unfold liveRow
      rw [dif_neg he]; simp
  · rw [if_neg h]; simp

theorem CodeLive_no (v : Value) (g : List In4) (w : World) (hs : Sl w 4 v (insR g)) (hp : Pow w) (hg : ¬ codeOk g) :
    Calls Tryd.prog 13 #[v] w (LivePost g w) := by
  have hO := CodeOk_any v g w hs hp
  obtain ⟨A, n, c, rfl, hA⟩ := hs
  have hgb := codeOkB_no hg
  have he : liveOf g = [] := by unfold liveOf; rw [hgb]; rfl
  have HE := Lib.hid he; have HO := Lib.hid hO; clear he hg hO hA
  go_enter Tryd.func13, Tryd.ntmps13
  go_wp2_with fail
  refine (HO.out).mono ?_; rintro e w1 ⟨rfl, hb1⟩
  rw [hgb]
  go_wp2
  go_ret
  exact ⟨_, rfl, by rw [HE.out]; exact World.ownsRow_nil _ _ _ _, hb1⟩

set_option maxHeartbeats 2000000 in
theorem CodeLive_ok (v : Value) (g : List In4) (w : World) (hs : Sl w 4 v (insR g)) (hp : Pow w) (hg : codeOk g) :
    Calls Tryd.prog 13 #[v] w (LivePost g w) := by
  have hO := CodeOk_any v g w hs hp
  obtain ⟨A, n, c, rfl, hA⟩ := hs
  have hl : g.length = n := by have := hA.len; rwa [insR_len] at this
  have hc := hA.cap
  have hm := hA.max
  unfold maxLen at hm
  have h1 : 1 ≤ n := by rw [← hl]; exact hg.1.1
  have h2 : n ≤ 160 := by rw [← hl]; exact hg.1.2.1
  have hmk := fun W => run_make_row' (P := Tryd.prog) 29 4 (.bool false) 1 Tryd.underlying29 info_bool rfl .i64 .i64 n (by omega) (by omega) W
  have hgb : codeOkB g = true := codeOkB_iff.2 hg
  have HO := Lib.hid hO; have HL := Lib.hid hl; have HG := Lib.hid hg; have HA := Lib.hid hA; clear hO hl hg hA
  go_enter Tryd.func13, Tryd.ntmps13
  go_wp2_with fail
  refine (HO.out).mono ?_; rintro e w1 ⟨rfl, hb1⟩
  rw [hgb]
  go_wp2_with fail
  refine (live_ok A n c g _ (HA.out.below hb1) HG.out.1).mono ?_; rintro e w2 ⟨ws, rs, hS, hR, rfl, hset, hb2⟩
  have hrl : rs.length = n := hR.len.trans HL.out
  have hre : liveOf g = rs := by unfold liveOf; rw [if_pos hgb]; exact (liveRow_eq HG.out.1 hR).symm
  have hsl := hset.lt
  have hb02 := below_then hb1 hb2
  have HS := Lib.hid hS; have HE := Lib.hid hre; have HSET := Lib.hid hset; clear hS hR hre hset
  go_wp2
  go_loopw [16] (fun i wr => ∃ k : Nat, k ≤ n ∧ i = .int .i64 k ∧ Blk wr w2.heap.size 4 (bRow (rs.take k ++ List.replicate (n - k) false)) ∧ Below w2.heap.size w2 wr) (fun i _ => n - (intOf i).toNat)
  case atStart => exact ⟨0, Nat.zero_le _, rfl, by rw [List.take_zero, List.nil_append, Nat.sub_zero, ← bRow_zero]; exact Blk.new _ _ _, by go_grown⟩
  case round =>
    obtain ⟨k, hk, rfl, hbk, hbw⟩ := hrel
    have hsz := hbw.size
    have hblt := hbk.lt
    by_cases hlt : k < n
    · have hkni : (k : Int) < n := by omega
      obtain ⟨rb, hrb⟩ := bRow_some hrl hlt
      have hbit : (wordAt ws k).testBit (k % 64) = rb := by
        have := HS.out.bits k (by omega)
        rw [hrb] at this
        cases rb <;> simp_all
      obtain ⟨ob, hob⟩ := bRow_some (rs := rs.take k ++ List.replicate (n - k) false) (n := n) (by simp; omega) hlt
      have d1 := bRow_cell hbk hob
      have f1 := hbk.frozen k
      have hsetr : Blk wr w1.heap.size 62 (wRow ws) := (hbw.block _ hsl).trans HSET.out
      have hnext : (rs.take k ++ List.replicate (n - k) false).set k rb = rs.take (k + 1) ++ List.replicate (n - (k + 1)) false := by
        apply List.ext_getElem?
        intro j
        have hkl : (rs.take k).length = k := by simp; omega
        have hkl1 : (rs.take (k + 1)).length = k + 1 := by simp; omega
        rw [List.getElem?_set]
        by_cases e : k = j
        · subst e
          rw [if_pos rfl, if_pos (by simp; omega), List.getElem?_append_left (by omega), List.getElem?_take, if_pos (by omega), hrb]
        · rw [if_neg e]
          by_cases hj : j < k
          · rw [List.getElem?_append_left (by omega), List.getElem?_append_left (by omega), List.getElem?_take, List.getElem?_take, if_pos hj, if_pos (by omega)]
          · rw [List.getElem?_append_right (by omega), List.getElem?_append_right (by omega), List.getElem?_replicate, List.getElem?_replicate, hkl, hkl1]
            by_cases hjn : j < n
            · rw [if_pos (by omega), if_pos (by omega)]
            · rw [if_neg (by omega), if_neg (by omega)]
      have HB := Lib.hid hbk; have HN := Lib.hid hnext; clear hbk hnext hob hrb
      go_wp2_with fail
      refine (has_any w1.heap.size k ws _ hsetr HS.out.len HS.out.lt (by omega)).mono ?_; rintro e w3 ⟨rfl, rfl⟩
      rw [hbit]
      go_wp2
      refine ⟨⟨k + 1, by omega, by go_num, ?_, by go_grown⟩, by simp [intOf]; try omega⟩
      rw [← HN.out, ← bRow_set]
      exact HB.out.set_ k _
    · obtain rfl : k = n := by omega
      have e0 : rs.take k ++ List.replicate (k - k) false = rs := by rw [List.take_of_length_le (by omega)]; simp
      rw [e0] at hbk
      have HB := Lib.hid hbk; clear hbk
      go_wp2
      go_ret
      refine ⟨_, rfl, ?_, below_then hb02 hbw⟩
      rw [HE.out, hrl]
      exact bRow_own HB.out hb02.size hrl (by omega)
theorem CodeLive_any (v : Value) (g : List In4) (w : World) (hs : Sl w 4 v (insR g)) (hp : Pow w) :
    Calls Tryd.prog 13 #[v] w (LivePost g w) := by
  by_cases h : codeOk g
  · exact CodeLive_ok v g w hs hp h
  · exact CodeLive_no v g w hs hp h
end Go.Proofs.YtbcbbemkjaabjaaDoor
