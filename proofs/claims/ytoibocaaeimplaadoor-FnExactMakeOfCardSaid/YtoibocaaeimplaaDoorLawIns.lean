/- The laws' helpers on programs: toIns, toInsS, szInsS, eqIns, eqInsS, markInsS, heldInsS. -/
import Derived.Test.YtoibocaaeimplaaDoorCodeT
import Derived.Test.YtoibocaaeimplaaDoorLawInts
namespace Go.Proofs.YtoibocaaeimplaaDoor
open Go.RowKit Go.Sort
set_option linter.unusedSimpArgs false
set_option linter.unusedVariables false

/-- Marks as cells. -/
def marksV (m : Int) (n : Nat) : List Value := (marks m n).map (Value.int .i64)
theorem marksV_len (m : Int) (n : Nat) : (marksV m n).length = n := by simp [marksV, marks_len]
theorem marksV_get {m : Int} {n k : Nat} (h : k < n) : (marksV m n)[k]? = some (.int .i64 (m + k)) := by simp [marksV, marks_get n m k h]
theorem marksV_set {m : Int} {j : Nat} {ys : List Value} (hj : j < ys.length) (q : Int) (hq : q = m + j) : (marksV m j ++ ys.drop j).set j (.int .i64 q) = marksV m (j + 1) ++ ys.drop (j + 1) := by
  subst hq
  unfold marksV
  rw [marks_snoc, List.drop_eq_getElem_cons hj, List.map_append, List.set_append_right _ _ (by simp [marks_len])]
  simp only [List.map_cons, List.length_map, marks_len, Nat.sub_self, List.set_cons_zero, List.map_append, List.append_assoc, List.map_nil, List.cons_append, List.nil_append]

noncomputable def in4Eq (x y : In4) : Bool := @decide (x = y) (Classical.propDecidable _)
theorem in4Eq_iff {x y : In4} : in4Eq x y = true ↔ x = y := by simp [in4Eq]
theorem in4Eq_of {x y : In4} {b : Bool} (e : b = true ↔ x = y) : b = in4Eq x y := by rw [Bool.eq_iff_iff, e, in4Eq_iff]
theorem In4.iff {x y : In4} : x = y ↔ x.op = y.op ∧ x.k = y.k ∧ x.yes = y.yes ∧ x.no = y.no := by
  constructor
  · rintro rfl; exact ⟨rfl, rfl, rfl, rfl⟩
  · rintro ⟨a, b, c, d⟩; exact In4.ext' a b c d
noncomputable def codeEq (g h : List In4) : Bool := @decide (g = h) (Classical.propDecidable _)
theorem codeEq_iff {g h : List In4} : codeEq g h = true ↔ g = h := by simp [codeEq]
theorem codeEq_of {g h : List In4} {b : Bool} (e : b = true ↔ g = h) : b = codeEq g h := by rw [Bool.eq_iff_iff, e, codeEq_iff]

theorem eqIns_any (p q : In4) (w : World) :
    Calls Tryd.prog 32 #[.agg #[.int .i64 p.op, .int .i64 p.k, .int .i64 p.yes, .int .i64 p.no], .agg #[.int .i64 q.op, .int .i64 q.k, .int .i64 q.yes, .int .i64 q.no]] w fun e w' =>
      e = .returned (.bool (in4Eq p q)) ∧ Below w.heap.size w w' := by
  go_enter Tryd.func32, Tryd.ntmps32
  go_wp2
  all_goals (go_ret; refine ⟨ret_bool (in4Eq_of ?_), by go_grown⟩)
  all_goals (rw [In4.iff]; simp_all)

set_option maxHeartbeats 1000000 in
theorem eqInsS_any (u v : Value) (g h : List In4) (w : World) (hu : Sl w 4 u (insR g)) (hv : Sl w 4 v (insR h)) :
    Calls Tryd.prog 10 #[u, v] w fun e w' => e = .returned (.bool (codeEq g h)) ∧ Below w.heap.size w w' := by
  obtain ⟨A, n, c, rfl, hA⟩ := hu
  obtain ⟨A', n', c', rfl, hA'⟩ := hv
  have hl : g.length = n := by have := hA.len; rwa [insR_len] at this
  have hl' : h.length = n' := by have := hA'.len; rwa [insR_len] at this
  have hc := hA.cap
  have hm := hA.max
  have hc' := hA'.cap
  have hm' := hA'.max
  unfold maxLen at hm hm'
  have HL := Lib.hid hl; have HL' := Lib.hid hl'; clear hl hl'
  by_cases hn : n = n'
  · subst hn
    go_enter Tryd.func10, Tryd.ntmps10
    go_wp2
    go_loopw [5] (fun i wr => ∃ k : Nat, k ≤ n ∧ i = .int .i64 k ∧ sameTo g h k ∧ Below w.heap.size w wr) (fun i _ => n - natOf i)
    case atStart => exact ⟨0, Nat.zero_le _, rfl, sameTo_zero g h, Below.refl _ _⟩
    case round =>
      obtain ⟨k, hk, rfl, hto, hb⟩ := hrel
      have hsz := hb.size
      by_cases hlt : k < n
      · obtain ⟨b, off, p, rfl, hab, hgp, hcell⟩ := ins_get hA hlt
        obtain ⟨b', off', q, rfl, hab', hgq, hcell'⟩ := ins_get hA' hlt
        obtain ⟨c0, c1, c2, c3⟩ := hcell wr _ hb hab
        obtain ⟨d0, d1, d2, d3⟩ := hcell' wr _ hb hab'
        have HP := Lib.hid hgp; have HQ := Lib.hid hgq; clear hgp hcell hgq hcell'
        go_wp2
        refine wp_region_quiet_below (by kernel_rfl) (by kernel_rfl) ?_
        have r0 := cell_regrown c0; have r1 := cell_regrown c1; have r2 := cell_regrown c2; have r3 := cell_regrown c3
        have s0 := cell_regrown d0; have s1 := cell_regrown d1; have s2 := cell_regrown d2; have s3 := cell_regrown d3
        repeat (quiet_step (exact Calls.regrown_of (eqIns_any p q _)))
        refine wpQuiet_nil ?_
        intro _ hw'
        obtain ⟨⟨dq, osq⟩, hw''⟩ := hw'
        subst hw''
        go_wp2
        · go_ret
          refine ⟨ret_bool (codeEq_of ?_), below_step hb hsz (below_regrown _ _ _)⟩
          have hne : ¬ p = q := by rw [← in4Eq_iff]; simp_all
          simp only [Bool.false_eq_true, false_iff]
          intro e
          have h1 := HP.out
          rw [e, HQ.out] at h1
          exact hne (Option.some.inj h1).symm
        · have he : p = q := by rw [← in4Eq_iff]; simp_all
          exact ⟨⟨k + 1, by omega, by go_num, sameTo_succ hto HP.out HQ.out he, below_step hb hsz (below_regrown _ _ _)⟩, by simp [natOf]; omega⟩
      · obtain rfl : k = n := by omega
        go_wp2
        go_ret
        exact ⟨ret_bool (codeEq_of (by simpa using sameTo_all hto HL.out HL'.out)), hb⟩
  · go_enter Tryd.func10, Tryd.ntmps10
    have hd : ((n : Int) != (n' : Int)) = true := by simp; omega
    go_wp2
    go_ret
    exact ⟨ret_bool (codeEq_of (by simp; intro e; rw [e] at HL; exact hn (HL.out.symm.trans HL'.out))), Below.refl _ _⟩

set_option maxHeartbeats 2000000 in
theorem markInsS_own (base : Nat) (v : Value) (ys : List Value) (n : Nat) (m : Int) (w : World) (h : w.ownsRow base 39 4 v n ys) (hn2 : n ≤ 1048576) (hm : 0 ≤ m) (hm2 : m ≤ 4611686018427387904) :
    Calls Tryd.prog 13 #[v, .int .i64 m] w fun e w' =>
      e = .returned (.int .i64 (m + (n * 4 : Nat))) ∧ w.grownBy w' v.ownBlock ∧ w'.ownsRow base 39 4 v n (marksV m (n * 4)) := by
  obtain ⟨A, c, rfl, hcn, hcm⟩ : ∃ A c, v = .slice A n c ∧ n ≤ c ∧ c ≤ maxLen := by
    rcases h.2 with ⟨rfl, h0⟩ | ⟨g, cap, cur, rfl, _, hg, hnc, hm, _, htake⟩
    · exact ⟨none, 0, by rw [h0], by omega, by simp⟩
    · exact ⟨_, _, rfl, hnc, hm⟩
  unfold maxLen at hcm
  have hy := h.1
  go_enter Tryd.func13, Tryd.ntmps13
  go_wp2
  go_loopw [1, 5] (fun j i wr => ∃ k : Nat, k ≤ n ∧ i = .int .i64 k ∧ j = .int .i64 (m + (k * 4 : Nat)) ∧ w.grownBy wr (Value.slice A n c).ownBlock ∧ wr.ownsRow base 39 4 (.slice A n c) n (marksV m (k * 4) ++ ys.drop (k * 4))) (fun _ i _ => n - natOf i)
  case atStart => exact ⟨0, Nat.zero_le _, rfl, by simp, World.grownBy.refl _ _, by simpa [marksV, marks] using h⟩
  case round =>
    obtain ⟨k, hk, rfl, rfl, hg, ho⟩ := hrel
    by_cases hlt : k < n
    · obtain ⟨g, cap, hform, _, _⟩ := ho.form (by omega)
      obtain ⟨rfl, rfl⟩ : A = some ⟨g, 0, none⟩ ∧ c = cap := by simpa using hform
      have hcl : ∀ j : Nat, j < n * 4 → ∃ u, wr.cell? ⟨g, j, none⟩ = some u := fun j hj => ⟨_, (ho.cellAt j hj).trans (List.getElem?_eq_getElem (by rw [ho.1]; omega))⟩
      obtain ⟨u0, e0⟩ := hcl (k * 4) (by omega)
      obtain ⟨u1, e1⟩ := hcl (k * 4 + 1) (by omega)
      obtain ⟨u2, e2⟩ := hcl (k * 4 + 2) (by omega)
      obtain ⟨u3, e3⟩ := hcl (k * 4 + 3) (by omega)
      have f0 := ho.frozenAt (k * 4); have f1 := ho.frozenAt (k * 4 + 1); have f2 := ho.frozenAt (k * 4 + 2); have f3 := ho.frozenAt (k * 4 + 3)
      obtain ⟨o1, g1⟩ := ho.stored (k * 4) (.int .i64 (m + (k * 4 : Nat)))
      rw [marksV_set (by omega) _ rfl] at o1
      obtain ⟨o2, g2⟩ := o1.stored (k * 4 + 1) (.int .i64 (m + (k * 4 : Nat) + 1))
      rw [marksV_set (by omega) _ (by omega)] at o2
      obtain ⟨o3, g3⟩ := o2.stored (k * 4 + 2) (.int .i64 (m + (k * 4 : Nat) + 1 + 1))
      rw [marksV_set (by omega) _ (by omega)] at o3
      obtain ⟨o4, g4⟩ := o3.stored (k * 4 + 3) (.int .i64 (m + (k * 4 : Nat) + 1 + 1 + 1))
      rw [marksV_set (by omega) _ (by omega)] at o4
      have HO := Lib.hid o4; have HG := Lib.hid (((hg.trans g1).trans g2).trans g3 |>.trans g4); clear ho o1 o2 o3 o4 g1 g2 g3 g4 hcl hg
      go_wp2
      exact ⟨⟨k + 1, by omega, by go_num, by go_num, HG.out, by rw [show (k + 1) * 4 = k * 4 + 1 + 1 + 1 + 1 by omega]; exact HO.out⟩, by simp [natOf]; omega⟩
    · obtain rfl : k = n := by omega
      go_wp2
      go_ret
      refine ⟨rfl, hg, ?_⟩
      rwa [List.drop_of_length_le (by omega), List.append_nil] at ho

set_option maxHeartbeats 2000000 in
theorem heldInsS_marks (base : Nat) (v : Value) (n : Nat) (m : Int) (w : World) (h : w.ownsRow base 39 4 v n (marksV m (n * 4))) (hn2 : n ≤ 1048576) (hm : 0 ≤ m) (hm2 : m ≤ 4611686018427387904) :
    Calls Tryd.prog 14 #[v, .int .i64 m] w fun e w' => e = .returned (.int .i64 (m + (n * 4 : Nat))) ∧ w = w' := by
  obtain ⟨A, c, rfl, hcn, hcm⟩ : ∃ A c, v = .slice A n c ∧ n ≤ c ∧ c ≤ maxLen := by
    rcases h.2 with ⟨rfl, h0⟩ | ⟨g, cap, cur, rfl, _, hg, hnc, hm, _, htake⟩
    · exact ⟨none, 0, by rw [h0], by omega, by simp⟩
    · exact ⟨_, _, rfl, hnc, hm⟩
  unfold maxLen at hcm
  go_enter Tryd.func14, Tryd.ntmps14
  go_wp2
  go_loopw [1, 5] (fun j i wr => ∃ k : Nat, k ≤ n ∧ i = .int .i64 k ∧ j = .int .i64 (m + (k * 4 : Nat)) ∧ w = wr) (fun _ i _ => n - natOf i)
  case atStart => exact ⟨0, Nat.zero_le _, rfl, by simp, rfl⟩
  case round =>
    obtain ⟨k, hk, rfl, rfl, rfl⟩ := hrel
    by_cases hlt : k < n
    · obtain ⟨g, cap, hform, _, _⟩ := h.form (by omega)
      obtain ⟨rfl, rfl⟩ : A = some ⟨g, 0, none⟩ ∧ c = cap := by simpa using hform
      have e0 := (h.cellAt (k * 4) (by omega)).trans (marksV_get (by omega))
      have e1 := (h.cellAt (k * 4 + 1) (by omega)).trans (marksV_get (by omega))
      have e2 := (h.cellAt (k * 4 + 2) (by omega)).trans (marksV_get (by omega))
      have e3 := (h.cellAt (k * 4 + 3) (by omega)).trans (marksV_get (by omega))
      rw [show m + ((k * 4 + 1 : Nat) : Int) = m + (k * 4 : Nat) + 1 by omega] at e1
      rw [show m + ((k * 4 + 2 : Nat) : Int) = m + (k * 4 : Nat) + 1 + 1 by omega] at e2
      rw [show m + ((k * 4 + 3 : Nat) : Int) = m + (k * 4 : Nat) + 1 + 1 + 1 by omega] at e3
      go_wp2
      exact ⟨⟨k + 1, by omega, by go_num, by go_num, by first | trivial | rfl⟩, by simp [natOf]; omega⟩
    · obtain rfl : k = n := by omega
      go_wp2
      go_ret
      exact ⟨rfl, rfl⟩
end Go.Proofs.YtoibocaaeimplaaDoor
