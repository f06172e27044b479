/- The laws' helper wgCode: two programs are the same. -/
import Derived.Test.YtgdelnpielfhkaaGreatDoorLawA
import Derived.Deep.QuietTactic
import Derived.BigQuiet
namespace Go.Proofs.YtgdelnpielfhkaaGreatDoor
open Go.RowKit
set_option linter.unusedSimpArgs false
set_option linter.unusedVariables false

theorem wgDrewN (w : World) (m : Nat) : Below w.heap.size w (w.drewN m) := ⟨rfl, rfl, rfl, Nat.le_refl _, fun _ _ => rfl⟩
theorem in4_cases {p q : In4} (e : p ≠ q) : (p.op == q.op) = false ∨ ((p.op == q.op) = true ∧ (p.k == q.k) = false) ∨ ((p.op == q.op) = true ∧ (p.k == q.k) = true ∧ (p.yes == q.yes) = false) ∨ ((p.op == q.op) = true ∧ (p.k == q.k) = true ∧ (p.yes == q.yes) = true ∧ (p.no == q.no) = false) := by
  have hne : ¬ (p.op = q.op ∧ p.k = q.k ∧ p.yes = q.yes ∧ p.no = q.no) := fun e2 => e (In4.ext' e2.1 e2.2.1 e2.2.2.1 e2.2.2.2)
  simp only [beq_iff_eq, beq_eq_false_iff_ne]
  omega
set_option maxHeartbeats 1000000 in
theorem wgCode_any (u v : Value) (g h : List In4) (w : World) (hu : Sl w 4 u (insR g)) (hv : Sl w 4 v (insR h)) :
    Calls Tryz.prog 7 #[u, v] w fun e w' => e = .returned (.bool (codeEq g h)) ∧ Below w.heap.size w w' := by
  obtain ⟨A, n, c, rfl, hA⟩ := hu
  obtain ⟨A', n', c', rfl, hA'⟩ := hv
  have hl : g.length = n := by have := hA.len; rwa [insR_len] at this
  have hl' : h.length = n' := by have := hA'.len; rwa [insR_len] at this
  have hc := hA.cap
  have hm := hA.max
  have hc' := hA'.cap
  have hm' := hA'.max
  unfold maxLen at hm hm'
  have HL := Lib.hid hl; have HL' := Lib.hid hl'; clear hl hl'
  by_cases hn : n = n'
  · subst hn
    go_enter Tryz.func7, Tryz.ntmps7
    go_wp2
    go_loopw [5] (fun i wr => ∃ k : Nat, k ≤ n ∧ i = .int .i64 k ∧ sameTo g h k ∧ Below w.heap.size w wr) (fun i _ => n - natOf i)
    case atStart => exact ⟨0, Nat.zero_le _, rfl, sameTo_zero g h, Below.refl _ _⟩
    case round =>
      obtain ⟨k, hk, rfl, hto, hb⟩ := hrel
      have hsz := hb.size
      by_cases hlt : k < n
      · obtain ⟨b, off, p, rfl, hab, hgp, hcell⟩ := ins_get hA hlt
        obtain ⟨b', off', q, rfl, hab', hgq, hcell'⟩ := ins_get hA' hlt
        obtain ⟨c0, c1, c2, c3⟩ := hcell wr _ hb hab
        obtain ⟨d0, d1, d2, d3⟩ := hcell' wr _ hb hab'
        have HP := Lib.hid hgp; have HQ := Lib.hid hgq; clear hgp hcell hgq hcell'
        have hki : (k : Int) < n := by omega
        by_cases e : p = q
        · subst e
          go_wp2
          go_quiet (fail)
          go_wp2
          exact ⟨⟨k + 1, by omega, by go_num, sameTo_succ hto HP.out HQ.out rfl, below_step hb hsz (wgDrewN _ _)⟩, by simp [natOf]; omega⟩
        · have HE := Lib.hid e
          rcases in4_cases e with h1 | ⟨h1, h2⟩ | ⟨h1, h2, h3⟩ | ⟨h1, h2, h3, h4⟩
          all_goals
            clear e
            go_wp2
            go_quiet (fail)
            go_wp2
            go_ret
            refine ⟨ret_bool (codeEq_of ?_), below_step hb hsz (wgDrewN _ _)⟩
            simp only [Bool.false_eq_true, false_iff]
            intro e2
            have h1 := HP.out
            rw [e2, HQ.out] at h1
            exact HE.out (Option.some.inj h1).symm
      · obtain rfl : k = n := by omega
        go_wp2
        go_ret
        exact ⟨ret_bool (codeEq_of (by simpa using sameTo_all hto HL.out HL'.out)), hb⟩
  · go_enter Tryz.func7, Tryz.ntmps7
    have hd : ((n : Int) != (n' : Int)) = true := by simp; omega
    go_wp2
    go_ret
    exact ⟨ret_bool (codeEq_of (by simp; intro e; rw [e] at HL; exact hn (HL.out.symm.trans HL'.out))), Below.refl _ _⟩

end Go.Proofs.YtgdelnpielfhkaaGreatDoor
