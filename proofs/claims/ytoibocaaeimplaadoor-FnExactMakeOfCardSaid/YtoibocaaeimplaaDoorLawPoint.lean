/- The laws' helpers on points: toPoint, toPointS, eqPoint, eqPointS, szPointS; and how a slice of points that came in is read. -/
import Derived.Test.YtoibocaaeimplaaDoorPoint
import Derived.Deep.OwnRows
namespace Go.Proofs.YtoibocaaeimplaaDoor
open Go.RowKit Go.Sort
set_option linter.unusedSimpArgs false
set_option linter.unusedVariables false

theorem szPointS_ok (A : Option Addr) (n c : Nat) (left : Int) (w : World) (h : n ≤ left) (h1 : left ≤ 9223372036854775807) :
    Calls Tryd.prog 6 #[.slice A n c, .int .i64 left] w fun e w' => e = .returned (.int .i64 (left - n)) ∧ w = w' := by
  go_enter Tryd.func6, Tryd.ntmps6
  have hd : ¬ left - n < 0 := by omega
  go_wp2
  go_ret
  exact ⟨rfl, rfl⟩
theorem szPointS_no (A : Option Addr) (n c : Nat) (left : Int) (w : World) (hn : n ≤ 9223372036854775807) (h0 : 0 ≤ left) (h : left < n) :
    Calls Tryd.prog 6 #[.slice A n c, .int .i64 left] w fun e w' => e = .returned (.int .i64 (-1)) ∧ w = w' := by
  go_enter Tryd.func6, Tryd.ntmps6
  have hd : left - n < 0 := by omega
  go_wp2
  go_ret
  exact ⟨rfl, rfl⟩

theorem toPoint_any (p : Pt) (w : World) :
    Calls Tryd.prog 27 #[.agg #[.int .i64 p.verdict, .int .i64 p.field, .int .i64 p.mask, .int .i64 p.op, .int .i64 p.value, .int .i64 p.yes, .int .i64 p.no]] w fun e w' =>
      e = .returned (.agg #[.int .i64 p.verdict, .int .i64 p.field, .int .i64 p.mask, .int .i64 p.op, .int .i64 p.value, .int .i64 p.yes, .int .i64 p.no]) ∧ Below w.heap.size w w' := by
  go_enter Tryd.func27, Tryd.ntmps27
  go_wp2
  go_returns
  exact ⟨rfl, by go_grown⟩

theorem eqPoint_any (p q : Pt) (w : World) :
    Calls Tryd.prog 33 #[.agg #[.int .i64 p.verdict, .int .i64 p.field, .int .i64 p.mask, .int .i64 p.op, .int .i64 p.value, .int .i64 p.yes, .int .i64 p.no], .agg #[.int .i64 q.verdict, .int .i64 q.field, .int .i64 q.mask, .int .i64 q.op, .int .i64 q.value, .int .i64 q.yes, .int .i64 q.no]] w fun e w' =>
      e = .returned (.bool (ptEq p q)) ∧ Below w.heap.size w w' := by
  go_enter Tryd.func33, Tryd.ntmps33
  go_wp2
  all_goals (go_ret; refine ⟨ret_bool (ptEq_of ?_), by go_grown⟩)
  all_goals (rw [Pt.ext_iff']; simp_all)

/-- Two lists of points are the same, up to a place. -/
def ptsSame (g h : List Pt) (k : Nat) : Prop := ∀ j : Nat, j < k → g[j]? = h[j]?
theorem ptsSame_zero (g h : List Pt) : ptsSame g h 0 := fun _ hj => absurd hj (by omega)
theorem ptsSame_succ {g h : List Pt} {k : Nat} {p q : Pt} (hs : ptsSame g h k) (hp : g[k]? = some p) (hq : h[k]? = some q) (e : p = q) : ptsSame g h (k + 1) := fun j hj => by
  by_cases hjk : j = k
  · subst hjk; rw [hp, hq, e]
  · exact hs j (by omega)
theorem ptsSame_all {g h : List Pt} {n : Nat} (hs : ptsSame g h n) (hg : g.length = n) (hh : h.length = n) : g = h := by
  apply List.ext_getElem?
  intro j
  by_cases hj : j < n
  · exact hs j hj
  · rw [List.getElem?_eq_none (by omega), List.getElem?_eq_none (by omega)]
noncomputable def ptsEq (g h : List Pt) : Bool := @decide (g = h) (Classical.propDecidable _)
theorem ptsEq_iff {g h : List Pt} : ptsEq g h = true ↔ g = h := by simp [ptsEq]
theorem ptsEq_of {g h : List Pt} {b : Bool} (e : b = true ↔ g = h) : b = ptsEq g h := by rw [Bool.eq_iff_iff, e, ptsEq_iff]

set_option maxHeartbeats 1000000 in
theorem eqPointS_any (u v : Value) (g h : List Pt) (w : World) (hu : Sl w 7 u (g.map Pt.cells)) (hv : Sl w 7 v (h.map Pt.cells)) :
    Calls Tryd.prog 11 #[u, v] w fun e w' => e = .returned (.bool (ptsEq g h)) ∧ Below w.heap.size w w' := by
  obtain ⟨A, n, c, rfl, hA⟩ := hu
  obtain ⟨A', n', c', rfl, hA'⟩ := hv
  have hl : g.length = n := by have := hA.len; simpa using this
  have hl' : h.length = n' := by have := hA'.len; simpa using this
  have hc := hA.cap
  have hm := hA.max
  have hc' := hA'.cap
  have hm' := hA'.max
  unfold maxLen at hm hm'
  have HL := Lib.hid hl; have HL' := Lib.hid hl'; clear hl hl'
  by_cases hn : n = n'
  · subst hn
    go_enter Tryd.func11, Tryd.ntmps11
    go_wp2
    go_loopw [5] (fun i wr => ∃ k : Nat, k ≤ n ∧ i = .int .i64 k ∧ ptsSame g h k ∧ Below w.heap.size w wr) (fun i _ => n - (intOf i).toNat)
    case atStart => exact ⟨0, Nat.zero_le _, rfl, ptsSame_zero g h, Below.refl _ _⟩
    case round =>
      obtain ⟨k, hk, rfl, hto, hb⟩ := hrel
      have hsz := hb.size
      by_cases hlt : k < n
      · obtain ⟨b, off, p, rfl, hab, hgp, hcell⟩ := pts_get hA hlt
        obtain ⟨b', off', q, rfl, hab', hgq, hcell'⟩ := pts_get hA' hlt
        obtain ⟨c0, c1, c2, c3, c4, c5, c6⟩ := hcell wr _ hb hab
        obtain ⟨d0, d1, d2, d3, d4, d5, d6⟩ := hcell' wr _ hb hab'
        have HP := Lib.hid hgp; have HQ := Lib.hid hgq; clear hgp hcell hgq hcell'
        go_wp2
        refine wp_region_quiet_below (by kernel_rfl) (by kernel_rfl) ?_
        have r0 := cell_regrown c0; have r1 := cell_regrown c1; have r2 := cell_regrown c2; have r3 := cell_regrown c3; have r4 := cell_regrown c4; have r5 := cell_regrown c5; have r6 := cell_regrown c6
        have s0 := cell_regrown d0; have s1 := cell_regrown d1; have s2 := cell_regrown d2; have s3 := cell_regrown d3; have s4 := cell_regrown d4; have s5 := cell_regrown d5; have s6 := cell_regrown d6
        repeat (quiet_step (exact Calls.regrown_of (eqPoint_any p q _)))
        refine wpQuiet_nil ?_
        intro _ hw'
        obtain ⟨⟨dq, osq⟩, hw''⟩ := hw'
        subst hw''
        go_wp2
        · go_ret
          refine ⟨ret_bool (ptsEq_of ?_), below_step hb hsz (below_regrown _ _ _)⟩
          have hne : ¬ p = q := by rw [← ptEq_iff]; simp_all
          simp only [Bool.false_eq_true, false_iff]
          intro e
          have h1 := HP.out
          rw [e, HQ.out] at h1
          exact hne (Option.some.inj h1).symm
        · have he : p = q := by rw [← ptEq_iff]; simp_all
          exact ⟨⟨k + 1, by omega, by go_num, ptsSame_succ hto HP.out HQ.out he, below_step hb hsz (below_regrown _ _ _)⟩, by simp [intOf]; omega⟩
      · obtain rfl : k = n := by omega
        go_wp2
        go_ret
        exact ⟨ret_bool (ptsEq_of (by simpa using ptsSame_all hto HL.out HL'.out)), hb⟩
  · go_enter Tryd.func11, Tryd.ntmps11
    have hd : ((n : Int) != (n' : Int)) = true := by simp; omega
    go_wp2
    go_ret
    exact ⟨ret_bool (ptsEq_of (by simp; intro e; rw [e] at HL; exact hn (HL.out.symm.trans HL'.out))), Below.refl _ _⟩

theorem info_Point : (Tryd.prog.info? 47).map (fun i => (i.zero, i.size, i.bytes)) = some (some (.agg #[.int .i64 0, .int .i64 0, .int .i64 0, .int .i64 0, .int .i64 0, .int .i64 0, .int .i64 0]), 7, 56) := by kernel_rfl

set_option maxHeartbeats 1000000 in
theorem toPointS_any (u : Value) (g : List Pt) (w : World) (hu : Sl w 7 u (g.map Pt.cells)) (hn : g.length ≤ 1048576) :
    Calls Tryd.prog 8 #[u] w fun e w' => ∃ v, e = .returned v ∧ Sl w' 7 v (g.map Pt.cells) ∧ Below w.heap.size w w' := by
  obtain ⟨A, n, c, rfl, hA⟩ := hu
  have hl : g.length = n := by have := hA.len; simpa using this
  have hc := hA.cap
  have hm := hA.max
  unfold maxLen at hm
  rw [hl] at hn
  have hmk := fun W => run_make_rowN (P := Tryd.prog) 27 47 _ 7 56 Tryd.underlying27 info_Point .i64 n (by omega) (by omega) W
  have HL := Lib.hid hl; clear hl
  go_enter Tryd.func8, Tryd.ntmps8
  go_wp2
  go_loopw [4] (fun i wr => ∃ (k : Nat) (cur : Array Value), k ≤ n ∧ i = .int .i64 k ∧ Blk wr w.heap.size 47 cur ∧ cur.size = n * 7 ∧ FilledTo cur 7 (g.map Pt.cells) k ∧ Below w.heap.size w wr) (fun i _ => n - (intOf i).toNat)
  case atStart => exact ⟨0, _, Nat.zero_le _, rfl, Blk.new _ _ _, by simp [size_madeCells], FilledTo.zero _ _ _, by go_grown⟩
  case round =>
    obtain ⟨k, cur, hk, rfl, hbk, hcs, hf, hb⟩ := hrel
    have hsz := hb.size
    have hblt := hbk.lt
    by_cases hlt : k < n
    · obtain ⟨b, off, p, rfl, hab, hgp, hcell⟩ := pts_get hA hlt
      obtain ⟨c0, c1, c2, c3, c4, c5, c6⟩ := hcell wr _ hb hab
      have HP := Lib.hid hgp; have HB := Lib.hid hbk; clear hgp hcell hbk
      go_wp2_with (go_at_call 27; refine (toPoint_any p _).mono ?_; rintro e w1 ⟨rfl, hb1⟩; have hbk1 := HB.out.below hb1 hblt; obtain ⟨x0, e0⟩ := hbk1.some_ (i := k * 7) (by omega); obtain ⟨x1, e1⟩ := hbk1.some_ (i := k * 7 + 1) (by omega); obtain ⟨x2, e2⟩ := hbk1.some_ (i := k * 7 + 2) (by omega); obtain ⟨x3, e3⟩ := hbk1.some_ (i := k * 7 + 3) (by omega); obtain ⟨x4, e4⟩ := hbk1.some_ (i := k * 7 + 4) (by omega); obtain ⟨x5, e5⟩ := hbk1.some_ (i := k * 7 + 5) (by omega); obtain ⟨x6, e6⟩ := hbk1.some_ (i := k * 7 + 6) (by omega); have f0 := hbk1.frozen (k * 7); have f1 := hbk1.frozen (k * 7 + 1); have f2 := hbk1.frozen (k * 7 + 2); have f3 := hbk1.frozen (k * 7 + 3); have f4 := hbk1.frozen (k * 7 + 4); have f5 := hbk1.frozen (k * 7 + 5); have f6 := hbk1.frozen (k * 7 + 6); have HB1 := Lib.hid hbk1; clear hbk1)
      refine ⟨⟨k + 1, setArr cur (k * 7) p.cells, by omega, by go_num, HB1.out.run p.cells _ _ (k * 7), (setArr_size _ _ _).trans hcs, hf.next (by simp [HP.out]) (Pt.rows g) hcs hlt, ?_⟩, by simp [intOf]; omega⟩
      exact below_run (Nat.le_refl _) p.cells w1 _ (below_step hb hsz hb1)
    · obtain rfl : k = n := by omega
      go_wp2
      go_ret
      exact ⟨_, rfl, ⟨_, _, _, rfl, SlA.of_filled hbk (by simpa using HL.out) (by unfold maxLen; omega) hf⟩, hb⟩
end Go.Proofs.YtoibocaaeimplaaDoor
