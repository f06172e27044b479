/- The laws' helper wgCode: two programs are the same. -/
import Derived.Test.YtccklepidlddcaaLawA
import Derived.Deep.QuietTactic
import Derived.BigQuiet
namespace Go.Proofs.Ytccklepidlddcaa
open Go.RowKit
set_option linter.unusedSimpArgs false
set_option linter.unusedVariables false

theorem wgDrewN (w : World) (m : Nat) : Below w.heap.size w (w.drewN m) := ⟨rfl, rfl, rfl, Nat.le_refl _, fun _ _ => rfl⟩
theorem in4_cases {p q : In4} (e : p ≠ q) : (p.op == q.op) = false ∨ ((p.op == q.op) = true ∧ (p.k == q.k) = false) ∨ ((p.op == q.op) = true ∧ (p.k == q.k) = true ∧ (p.yes == q.yes) = false) ∨ ((p.op == q.op) = true ∧ (p.k == q.k) = true ∧ (p.yes == q.yes) = true ∧ (p.no == q.no) = false) := by
  have hne : ¬ (p.op = q.op ∧ p.k = q.k ∧ p.yes = q.yes ∧ p.no = q.no) := fun e2 => e (In4.ext' e2.1 e2.2.1 e2.2.2.1 e2.2.2.2)
  simp only [beq_iff_eq, beq_eq_false_iff_ne]
  omega
set_option maxHeartbeats 1000000 in
theorem wgInts_any (u v : Value) (g h : List Int) (w : World) (hu : Sl w 1 u (ints g)) (hv : Sl w 1 v (ints h)) :
    Calls Try.prog 6 #[u, v] w fun e w' => e = .returned (.bool (intsEq g h)) ∧ Below w.heap.size w w' := by
  obtain ⟨A, n, c, rfl, hA⟩ := hu
  obtain ⟨A', n', c', rfl, hA'⟩ := hv
  have hl : g.length = n := by have := hA.len; rwa [ints_len] at this
  have hl' : h.length = n' := by have := hA'.len; rwa [ints_len] at this
  have hc := hA.cap
  have hm := hA.max
  have hc' := hA'.cap
  have hm' := hA'.max
  unfold maxLen at hm hm'
  have HL := Lib.hid hl; have HL' := Lib.hid hl'; clear hl hl'
  by_cases hn : n = n'
  · subst hn
    go_enter Try.func6, Try.ntmps6
    go_wp2
    go_loopw [5] (fun i wr => ∃ k : Nat, k ≤ n ∧ i = .int .i64 k ∧ sameTo g h k ∧ Below w.heap.size w wr) (fun i _ => n - natOf i)
    case atStart => exact ⟨0, Nat.zero_le _, rfl, sameTo_zero g h, Below.refl _ _⟩
    case round =>
      obtain ⟨k, hk, rfl, hto, hb⟩ := hrel
      have hsz := hb.size
      by_cases hlt : k < n
      · obtain ⟨b, off, p, rfl, hab, hgp, hcell⟩ := intsGet hA hlt
        obtain ⟨b', off', q, rfl, hab', hgq, hcell'⟩ := intsGet hA' hlt
        have c0 := hcell wr _ hb hab
        have d0 := hcell' wr _ hb hab'
        have HP := Lib.hid hgp; have HQ := Lib.hid hgq; clear hgp hcell hgq hcell'
        by_cases e : p = q
        · have hd : (p != q) = false := by simp [e]
          go_wp2
          go_region
          all_goals go_wp2
          all_goals exact ⟨⟨k + 1, by omega, by go_num, sameTo_succ hto HP.out HQ.out e, by go_grown⟩, by simp [natOf]; omega⟩
        · have hd : (p != q) = true := by simp [e]
          go_wp2
          go_region
          all_goals go_wp2
          all_goals
            go_ret
            refine ⟨ret_bool (intsEq_of ?_), by go_grown⟩
            simp only [Bool.false_eq_true, false_iff]
            intro e2
            have h1 := HP.out
            rw [e2, HQ.out] at h1
            exact e (Option.some.inj h1).symm
      · obtain rfl : k = n := by omega
        go_wp2
        go_ret
        exact ⟨ret_bool (intsEq_of (by simpa using sameTo_all hto HL.out HL'.out)), hb⟩
  · go_enter Try.func6, Try.ntmps6
    have hd : ((n : Int) != (n' : Int)) = true := by simp; omega
    go_wp2
    go_ret
    exact ⟨ret_bool (intsEq_of (by simp; intro e; rw [e] at HL; exact hn (HL.out.symm.trans HL'.out))), Below.refl _ _⟩
end Go.Proofs.Ytccklepidlddcaa
