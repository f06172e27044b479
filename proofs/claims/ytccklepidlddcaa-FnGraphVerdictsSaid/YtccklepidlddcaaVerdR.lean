/- impl.pointsFrom and spec.l4Used: both say of each point whether the beginning leads to it. -/
import Derived.Test.YtccklepidlddcaaVerdP
import Derived.Deep.OwnRows
namespace Go.Proofs.Ytccklepidlddcaa
open Go.RowKit
set_option linter.unusedSimpArgs false
set_option linter.unusedVariables false

theorem info_bool : (Try.prog.info? 4).map (fun i => (i.zero, i.size, i.bytes)) = some (some (.bool false), 1, 1) := by kernel_rfl

set_option maxHeartbeats 2000000 in
theorem pointsFrom_ok (A : Option Addr) (n c : Nat) (g : List Pt) (beg : Nat) (w : World) (hA : SlA w 7 A n c (g.map Pt.cells)) (hg : graphOk g) (hb : beg < n) :
    Calls Try.prog 15 #[.slice A n c, .int .i64 beg] w fun e w' => ∃ rs, Reach g beg (-1) rs ∧ e = .returned (.slice (some ⟨w.heap.size, 0, none⟩) n n) ∧ Blk w' w.heap.size 4 (bRow rs) ∧ Below w.heap.size w w' := by
  have hl : g.length = n := by have := hA.len; simpa using this
  have hc := hA.cap
  have hm := hA.max
  unfold maxLen at hm
  have h1 : 1 ≤ n ∧ n ≤ 120 := by rw [← hl]; exact hg.1
  obtain ⟨h1, h2⟩ := h1
  have hmk := fun W => run_make_row' (P := Try.prog) 37 4 (.bool false) 1 Try.underlying37 info_bool rfl .i64 .i64 n (by omega) (by omega) W
  have hbi : (beg : Int) < n := by omega
  have B0 : Blk (w.alloc (.cells (madeCells #[.bool false] n) 4)) w.heap.size 4 (bRow (List.replicate n false)) := by rw [bRow_zero]; exact Blk.new _ _ _
  have d0 := bRow_cell (k := beg) B0 (by simp [hb]; rfl)
  have f0 := B0.frozen beg
  have HL := Lib.hid hl; have HO := Lib.hid hg; have HB0 := Lib.hid B0; clear hl hg B0
  go_enter Try.func15, Try.ntmps15
  go_wp2
  go_loopw [6] (fun i wr => ∃ (k : Int) (rs : List Bool), -1 ≤ k ∧ k ≤ beg ∧ i = .int .i64 k ∧ Reach g beg k rs ∧ Blk wr w.heap.size 4 (bRow rs) ∧ Below w.heap.size w wr) (fun i _ => (intOf i + 1).toNat)
  case atStart =>
    refine ⟨beg, (List.replicate n false).set beg true, by omega, by omega, rfl, ?_, ?_, by go_grown⟩
    · rw [← HL.out]; exact Reach.start (by rw [HL.out]; exact hb)
    · rw [← bRow_set, ← bRow_zero]; exact Blk.new _ _ _
  case round =>
    obtain ⟨k, rs, hk0, hk, rfl, hR, hbk, hbw⟩ := hrel
    have hsz := hbw.size
    have hblt := hbk.lt
    by_cases hlt : 0 ≤ k
    · obtain ⟨k, rfl⟩ := Int.eq_ofNat_of_zero_le hlt
      have hkn : k < n := by omega
      have hkni : (k : Int) < n := by omega
      obtain ⟨b, off, p, rfl, hab, hgp, hcell⟩ := pts_get hA hkn
      have hpo := (HO.out).2 k p hgp
      obtain ⟨rb, hrb⟩ := bRow_some (hR.len.trans HL.out) hkn
      have d1 := bRow_cell hbk hrb
      obtain ⟨pv, pf, pm, po, pl, py, pn⟩ := p
      obtain ⟨c0, c1, c2, c3, c4, c5, c6⟩ := hcell wr _ hbw hab
      simp only at c0 c1 c2 c3 c4 c5 c6
      unfold ptOk at hpo
      simp only at hpo
      have HP := Lib.hid hgp; have HB := Lib.hid hbk; have HR := Lib.hid hR; have HRB := Lib.hid hrb; clear hgp hcell hbk hR hrb
      cases rb with
      | false =>
        go_wp2
        refine ⟨⟨(k : Int) - 1, rs, by omega, by omega, by go_num, HR.out.skip (fun j h => by rw [HRB.out] at h; simp at h), HB.out.alloc _, by go_grown⟩, by simp [intOf]; try omega⟩
      | true =>
        by_cases hop : po = 0
        · have hop' : (po != 0) = false := by simp [hop]
          have HOP := Lib.hid hop; clear hop hpo
          go_wp2
          refine ⟨⟨(k : Int) - 1, rs, by omega, by omega, by go_num, HR.out.skip (fun j h => by obtain ⟨_, q, hq, ho, _⟩ := h; rw [HP.out] at hq; cases hq; exact ho HOP.out), HB.out.alloc _, by go_grown⟩, by simp [intOf]; try omega⟩
        · have hop' : (po != 0) = true := by simp [hop]
          obtain ⟨y, rfl⟩ := Int.eq_ofNat_of_zero_le (show 0 ≤ py by omega)
          obtain ⟨o, rfl⟩ := Int.eq_ofNat_of_zero_le (show 0 ≤ pn by omega)
          have y1 : (y : Int) < n := by omega
          have o1 : (o : Int) < n := by omega
          have yk : y < k := by omega
          have ok : o < k := by omega
          obtain ⟨ry, hry⟩ := bRow_some (HR.out.len.trans HL.out) (show y < n by omega)
          obtain ⟨ro, hro⟩ := bRow_some (HR.out.len.trans HL.out) (show o < n by omega)
          have d2 := bRow_cell HB.out hry
          have d3 := bRow_cell HB.out hro
          have f2 := HB.out.frozen y
          have f3 := HB.out.frozen o
          obtain ⟨z4, d4⟩ := (HB.out.set_ y (.bool true)).some_ (i := o) (by have := HR.out.len; have := HL.out; simp [bRow]; omega)
          have HOP := Lib.hid hop; clear hop hpo hry hro
          go_wp2
          refine ⟨⟨(k : Int) - 1, (rs.set y true).set o true, by omega, by omega, by go_num, HR.out.mark (by omega) HP.out HRB.out HOP.out rfl rfl yk ok, ?_, by go_grown⟩, by simp [intOf]; try omega⟩
          rw [← bRow_set, ← bRow_set]
          exact ((HB.out.set_ y _).set_ o _).alloc _
    · obtain rfl : k = -1 := by omega
      go_wp2
      go_ret
      exact ⟨rs, hR, rfl, hbk, hbw⟩

set_option maxHeartbeats 2000000 in
theorem l4Used_ok (A : Option Addr) (n c : Nat) (g : List Pt) (beg : Nat) (w : World) (hA : SlA w 7 A n c (g.map Pt.cells)) (hg : graphOk g) (hb : beg < n) :
    Calls Try.prog 18 #[.slice A n c, .int .i64 beg] w fun e w' => ∃ rs, Reach g beg (-1) rs ∧ e = .returned (.slice (some ⟨w.heap.size, 0, none⟩) n n) ∧ Blk w' w.heap.size 4 (bRow rs) ∧ Below w.heap.size w w' := by
  have hl : g.length = n := by have := hA.len; simpa using this
  have hc := hA.cap
  have hm := hA.max
  unfold maxLen at hm
  have h1 : 1 ≤ n ∧ n ≤ 120 := by rw [← hl]; exact hg.1
  obtain ⟨h1, h2⟩ := h1
  have hmk := fun W => run_make_row' (P := Try.prog) 37 4 (.bool false) 1 Try.underlying37 info_bool rfl .i64 .i64 n (by omega) (by omega) W
  have hbi : (beg : Int) < n := by omega
  have B0 : Blk (w.alloc (.cells (madeCells #[.bool false] n) 4)) w.heap.size 4 (bRow (List.replicate n false)) := by rw [bRow_zero]; exact Blk.new _ _ _
  have d0 := bRow_cell (k := beg) B0 (by simp [hb]; rfl)
  have f0 := B0.frozen beg
  have HL := Lib.hid hl; have HO := Lib.hid hg; have HB0 := Lib.hid B0; clear hl hg B0
  go_enter Try.func18, Try.ntmps18
  go_wp2
  go_loopw [6] (fun i wr => ∃ (k : Int) (rs : List Bool), -1 ≤ k ∧ k ≤ beg ∧ i = .int .i64 k ∧ Reach g beg k rs ∧ Blk wr w.heap.size 4 (bRow rs) ∧ Below w.heap.size w wr) (fun i _ => (intOf i + 1).toNat)
  case atStart =>
    refine ⟨beg, (List.replicate n false).set beg true, by omega, by omega, rfl, ?_, ?_, by go_grown⟩
    · rw [← HL.out]; exact Reach.start (by rw [HL.out]; exact hb)
    · rw [← bRow_set, ← bRow_zero]; exact Blk.new _ _ _
  case round =>
    obtain ⟨k, rs, hk0, hk, rfl, hR, hbk, hbw⟩ := hrel
    have hsz := hbw.size
    have hblt := hbk.lt
    by_cases hlt : 0 ≤ k
    · obtain ⟨k, rfl⟩ := Int.eq_ofNat_of_zero_le hlt
      have hkn : k < n := by omega
      have hkni : (k : Int) < n := by omega
      obtain ⟨b, off, p, rfl, hab, hgp, hcell⟩ := pts_get hA hkn
      have hpo := (HO.out).2 k p hgp
      obtain ⟨rb, hrb⟩ := bRow_some (hR.len.trans HL.out) hkn
      have d1 := bRow_cell hbk hrb
      obtain ⟨pv, pf, pm, po, pl, py, pn⟩ := p
      obtain ⟨c0, c1, c2, c3, c4, c5, c6⟩ := hcell wr _ hbw hab
      simp only at c0 c1 c2 c3 c4 c5 c6
      unfold ptOk at hpo
      simp only at hpo
      have HP := Lib.hid hgp; have HB := Lib.hid hbk; have HR := Lib.hid hR; have HRB := Lib.hid hrb; clear hgp hcell hbk hR hrb
      have hbne : ¬ b = w.heap.size := by omega
      have hbne' : ¬ w.heap.size = b := by omega
      cases rb with
      | false =>
        go_wp2
        refine ⟨⟨(k : Int) - 1, rs, by omega, by omega, by go_num, HR.out.skip (fun j h => by rw [HRB.out] at h; simp at h), HB.out, by go_grown⟩, by simp [intOf]; try omega⟩
      | true =>
        by_cases hop : po = 0
        · have hop' : ¬ (0 < po) := by omega
          have HOP := Lib.hid hop; clear hop hpo
          go_wp2
          refine ⟨⟨(k : Int) - 1, rs, by omega, by omega, by go_num, HR.out.skip (fun j h => by obtain ⟨_, q, hq, ho, _⟩ := h; rw [HP.out] at hq; cases hq; exact ho HOP.out), HB.out, by go_grown⟩, by simp [intOf]; try omega⟩
        · have hop' : 0 < po := by omega
          obtain ⟨y, rfl⟩ := Int.eq_ofNat_of_zero_le (show 0 ≤ py by omega)
          obtain ⟨o, rfl⟩ := Int.eq_ofNat_of_zero_le (show 0 ≤ pn by omega)
          have y1 : (y : Int) < n := by omega
          have o1 : (o : Int) < n := by omega
          have yk : y < k := by omega
          have ok : o < k := by omega
          obtain ⟨ry, hry⟩ := bRow_some (HR.out.len.trans HL.out) (show y < n by omega)
          obtain ⟨ro, hro⟩ := bRow_some (HR.out.len.trans HL.out) (show o < n by omega)
          have d2 := bRow_cell HB.out hry
          have d3 := bRow_cell HB.out hro
          have f2 := HB.out.frozen y
          have f3 := HB.out.frozen o
          obtain ⟨z4, d4⟩ := (HB.out.set_ y (.bool true)).some_ (i := o) (by have := HR.out.len; have := HL.out; simp [bRow]; omega)
          have HOP := Lib.hid hop; clear hop hpo hry hro
          go_wp2
          refine ⟨⟨(k : Int) - 1, (rs.set y true).set o true, by omega, by omega, by go_num, HR.out.mark (by omega) HP.out HRB.out HOP.out rfl rfl yk ok, ?_, by go_grown⟩, by simp [intOf]; try omega⟩
          rw [← bRow_set, ← bRow_set]
          exact (HB.out.set_ y _).set_ o _
    · obtain rfl : k = -1 := by omega
      go_wp2
      go_ret
      exact ⟨rs, hR, rfl, hbk, hbw⟩
end Go.Proofs.Ytccklepidlddcaa
