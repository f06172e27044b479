/- The laws' helpers on programs: toIns, toInsS, szInsS, eqIns, eqInsS, markInsS, heldInsS. -/
import Derived.Test.YtbbhilhckbdgjaaDoorCodeT
import Derived.Test.YtbbhilhckbdgjaaDoorLawInts
namespace Go.Proofs.YtbbhilhckbdgjaaDoor
open Go.RowKit Go.Sort
set_option linter.unusedSimpArgs false
set_option linter.unusedVariables false

/-- Marks as cells. -/
def marksV (m : Int) (n : Nat) : List Value := (marks m n).map (Value.int .i64)
theorem marksV_len (m : Int) (n : Nat) : (marksV m n).length = n := by simp [marksV, marks_len]
theorem marksV_get {m : Int} {n k : Nat} (h : k < n) : (marksV m n)[k]? = some (.int .i64 (m + k)) := by simp [marksV, marks_get n m k h]
theorem marksV_set {m : Int} {j : Nat} {ys : List Value} (hj : j < ys.length) (q : Int) (hq : q = m + j) : (marksV m j ++ ys.drop j).set j (.int .i64 q) = marksV m (j + 1) ++ ys.drop (j + 1) := by
  subst hq
  unfold marksV
  rw [marks_snoc, List.drop_eq_getElem_cons hj, List.map_append, List.set_append_right _ _ (by simp [marks_len])]
  simp only [List.map_cons, List.length_map, marks_len, Nat.sub_self, List.set_cons_zero, List.map_append, List.append_assoc, List.map_nil, List.cons_append, List.nil_append]

theorem szInsS_ok (A : Option Addr) (n c : Nat) (left : Int) (w : World) (h : n ≤ left) (h1 : left ≤ 9223372036854775807) :
    Calls Tryd.prog 4 #[.slice A n c, .int .i64 left] w fun e w' => e = .returned (.int .i64 (left - n)) ∧ w = w' := by
  go_enter Tryd.func4, Tryd.ntmps4
  have hd : ¬ left - n < 0 := by omega
  go_wp2
  go_ret
  exact ⟨rfl, rfl⟩
theorem szInsS_no (A : Option Addr) (n c : Nat) (left : Int) (w : World) (hn : n ≤ 9223372036854775807) (h0 : 0 ≤ left) (h : left < n) :
    Calls Tryd.prog 4 #[.slice A n c, .int .i64 left] w fun e w' => e = .returned (.int .i64 (-1)) ∧ w = w' := by
  go_enter Tryd.func4, Tryd.ntmps4
  have hd : left - n < 0 := by omega
  go_wp2
  go_ret
  exact ⟨rfl, rfl⟩

theorem toIns_any (x : In4) (w : World) :
    Calls Tryd.prog 16 #[.agg #[.int .i64 x.op, .int .i64 x.k, .int .i64 x.yes, .int .i64 x.no]] w fun e w' =>
      e = .returned (.agg #[.int .i64 x.op, .int .i64 x.k, .int .i64 x.yes, .int .i64 x.no]) ∧ Below w.heap.size w w' := by
  go_enter Tryd.func16, Tryd.ntmps16
  go_wp2
  go_returns
  exact ⟨rfl, by go_grown⟩

noncomputable def in4Eq (x y : In4) : Bool := @decide (x = y) (Classical.propDecidable _)
theorem in4Eq_iff {x y : In4} : in4Eq x y = true ↔ x = y := by simp [in4Eq]
theorem in4Eq_of {x y : In4} {b : Bool} (e : b = true ↔ x = y) : b = in4Eq x y := by rw [Bool.eq_iff_iff, e, in4Eq_iff]
theorem In4.iff {x y : In4} : x = y ↔ x.op = y.op ∧ x.k = y.k ∧ x.yes = y.yes ∧ x.no = y.no := by
  constructor
  · rintro rfl; exact ⟨rfl, rfl, rfl, rfl⟩
  · rintro ⟨a, b, c, d⟩; exact In4.ext' a b c d
noncomputable def codeEq (g h : List In4) : Bool := @decide (g = h) (Classical.propDecidable _)
theorem codeEq_iff {g h : List In4} : codeEq g h = true ↔ g = h := by simp [codeEq]
theorem codeEq_of {g h : List In4} {b : Bool} (e : b = true ↔ g = h) : b = codeEq g h := by rw [Bool.eq_iff_iff, e, codeEq_iff]

theorem eqIns_any (p q : In4) (w : World) :
    Calls Tryd.prog 21 #[.agg #[.int .i64 p.op, .int .i64 p.k, .int .i64 p.yes, .int .i64 p.no], .agg #[.int .i64 q.op, .int .i64 q.k, .int .i64 q.yes, .int .i64 q.no]] w fun e w' =>
      e = .returned (.bool (in4Eq p q)) ∧ Below w.heap.size w w' := by
  go_enter Tryd.func21, Tryd.ntmps21
  go_wp2
  all_goals (go_ret; refine ⟨ret_bool (in4Eq_of ?_), by go_grown⟩)
  all_goals (rw [In4.iff]; simp_all)

set_option maxHeartbeats 1000000 in
theorem eqInsS_any (u v : Value) (g h : List In4) (w : World) (hu : Sl w 4 u (insR g)) (hv : Sl w 4 v (insR h)) :
    Calls Tryd.prog 10 #[u, v] w fun e w' => e = .returned (.bool (codeEq g h)) ∧ Below w.heap.size w w' := by
  obtain ⟨A, n, c, rfl, hA⟩ := hu
  obtain ⟨A', n', c', rfl, hA'⟩ := hv
  have hl : g.length = n := by have := hA.len; rwa [insR_len] at this
  have hl' : h.length = n' := by have := hA'.len; rwa [insR_len] at this
  have hc := hA.cap
  have hm := hA.max
  have hc' := hA'.cap
  have hm' := hA'.max
  unfold maxLen at hm hm'
  have HL := Lib.hid hl; have HL' := Lib.hid hl'; clear hl hl'
  by_cases hn : n = n'
  · subst hn
    go_enter Tryd.func10, Tryd.ntmps10
    go_wp2
    go_loopw [5] (fun i wr => ∃ k : Nat, k ≤ n ∧ i = .int .i64 k ∧ sameTo g h k ∧ Below w.heap.size w wr) (fun i _ => n - natOf i)
    case atStart => exact ⟨0, Nat.zero_le _, rfl, sameTo_zero g h, Below.refl _ _⟩
    case round =>
      obtain ⟨k, hk, rfl, hto, hb⟩ := hrel
      have hsz := hb.size
      by_cases hlt : k < n
      · obtain ⟨b, off, p, rfl, hab, hgp, hcell⟩ := ins_get hA hlt
        obtain ⟨b', off', q, rfl, hab', hgq, hcell'⟩ := ins_get hA' hlt
        obtain ⟨c0, c1, c2, c3⟩ := hcell wr _ hb hab
        obtain ⟨d0, d1, d2, d3⟩ := hcell' wr _ hb hab'
        have HP := Lib.hid hgp; have HQ := Lib.hid hgq; clear hgp hcell hgq hcell'
        go_wp2
        refine wp_region_quiet_below (by kernel_rfl) (by kernel_rfl) ?_
        have r0 := cell_regrown c0; have r1 := cell_regrown c1; have r2 := cell_regrown c2; have r3 := cell_regrown c3
        have s0 := cell_regrown d0; have s1 := cell_regrown d1; have s2 := cell_regrown d2; have s3 := cell_regrown d3
        repeat (quiet_step (exact Calls.regrown_of (eqIns_any p q _)))
        refine wpQuiet_nil ?_
        intro _ hw'
        obtain ⟨⟨dq, osq⟩, hw''⟩ := hw'
        subst hw''
        go_wp2
        · go_ret
          refine ⟨ret_bool (codeEq_of ?_), below_step hb hsz (below_regrown _ _ _)⟩
          have hne : ¬ p = q := by rw [← in4Eq_iff]; simp_all
          simp only [Bool.false_eq_true, false_iff]
          intro e
          have h1 := HP.out
          rw [e, HQ.out] at h1
          exact hne (Option.some.inj h1).symm
        · have he : p = q := by rw [← in4Eq_iff]; simp_all
          exact ⟨⟨k + 1, by omega, by go_num, sameTo_succ hto HP.out HQ.out he, below_step hb hsz (below_regrown _ _ _)⟩, by simp [natOf]; omega⟩
      · obtain rfl : k = n := by omega
        go_wp2
        go_ret
        exact ⟨ret_bool (codeEq_of (by simpa using sameTo_all hto HL.out HL'.out)), hb⟩
  · go_enter Tryd.func10, Tryd.ntmps10
    have hd : ((n : Int) != (n' : Int)) = true := by simp; omega
    go_wp2
    go_ret
    exact ⟨ret_bool (codeEq_of (by simp; intro e; rw [e] at HL; exact hn (HL.out.symm.trans HL'.out))), Below.refl _ _⟩

end Go.Proofs.YtbbhilhckbdgjaaDoor
