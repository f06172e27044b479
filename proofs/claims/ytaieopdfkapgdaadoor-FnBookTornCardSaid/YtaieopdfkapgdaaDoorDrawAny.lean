/- How the laws draw a call of whatever make. -/
import Derived.Test.YtaieopdfkapgdaaDoorDrawCallT
import Derived.Test.YtaieopdfkapgdaaDoorLawCall
namespace Go.Proofs.YtaieopdfkapgdaaDoor
open Go.RowKit
set_option linter.unusedSimpArgs false
set_option linter.unusedVariables false

/-- A slice without its first element. -/
theorem SlA.tail {w : World} {b off n c : Nat} {x : Int} {xs : List Int} (h : SlA w 1 (some ⟨b, off, none⟩) (n + 1) c (ints (x :: xs))) : SlA w 1 (some ⟨b, off + 1, none⟩) n (c - 1) (ints xs) := by
  have hl := h.len
  have hc := h.cap
  have hm := h.max
  refine ⟨by simp [ints] at hl ⊢; omega, by omega, by omega, fun hn => ?_⟩
  obtain ⟨b', off', e, hb, he⟩ := h.at_ (by omega)
  simp only [Option.some.injEq, Addr.mk.injEq] at e
  obtain ⟨rfl, rfl, _⟩ := e
  refine ⟨b, off + 1, rfl, hb, fun k r hr j v hv => ?_⟩
  have := he (k + 1) r (by simpa [ints] using hr) j v hv
  rw [show off + (k + 1) * 1 + j = off + 1 + k * 1 + j by omega] at this
  exact this

set_option maxHeartbeats 1000000 in
theorem wgInts_any (u v : Value) (g h : List Int) (w : World) (hu : Sl w 1 u (ints g)) (hv : Sl w 1 v (ints h)) :
    Calls Tryd.prog 65 #[u, v] w fun e w' => e = .returned (.bool (intsEq g h)) ∧ Below w.heap.size w w' := by
  obtain ⟨A, n, c, rfl, hA⟩ := hu
  obtain ⟨A', n', c', rfl, hA'⟩ := hv
  have hl : g.length = n := by have := hA.len; rwa [ints_len] at this
  have hl' : h.length = n' := by have := hA'.len; rwa [ints_len] at this
  have hc := hA.cap
  have hm := hA.max
  have hc' := hA'.cap
  have hm' := hA'.max
  unfold maxLen at hm hm'
  have HL := Lib.hid hl; have HL' := Lib.hid hl'; clear hl hl'
  by_cases hn : n = n'
  · subst hn
    go_enter Tryd.func65, Tryd.ntmps65
    go_wp2
    go_loopw [5] (fun i wr => ∃ k : Nat, k ≤ n ∧ i = .int .i64 k ∧ sameTo g h k ∧ Below w.heap.size w wr) (fun i _ => n - natOf i)
    case atStart => exact ⟨0, Nat.zero_le _, rfl, sameTo_zero g h, Below.refl _ _⟩
    case round =>
      obtain ⟨k, hk, rfl, hto, hb⟩ := hrel
      have hsz := hb.size
      by_cases hlt : k < n
      · obtain ⟨b, off, p, rfl, hab, hgp, hcell⟩ := intsGet hA hlt
        obtain ⟨b', off', q, rfl, hab', hgq, hcell'⟩ := intsGet hA' hlt
        have c0 := hcell wr _ hb hab
        have d0 := hcell' wr _ hb hab'
        have HP := Lib.hid hgp; have HQ := Lib.hid hgq; clear hgp hcell hgq hcell'
        by_cases e : p = q
        · have hd : (p != q) = false := by simp [e]
          go_wp2
          go_region
          all_goals go_wp2
          all_goals exact ⟨⟨k + 1, by omega, by go_num, sameTo_succ hto HP.out HQ.out e, by go_grown⟩, by simp [natOf]; omega⟩
        · have hd : (p != q) = true := by simp [e]
          go_wp2
          go_region
          all_goals go_wp2
          all_goals
            go_ret
            refine ⟨ret_bool (intsEq_of ?_), by go_grown⟩
            simp only [Bool.false_eq_true, false_iff]
            intro e2
            have h1 := HP.out
            rw [e2, HQ.out] at h1
            exact e (Option.some.inj h1).symm
      · obtain rfl : k = n := by omega
        go_wp2
        go_ret
        exact ⟨ret_bool (intsEq_of (by simpa using sameTo_all hto HL.out HL'.out)), hb⟩
  · go_enter Tryd.func65, Tryd.ntmps65
    have hd : ((n : Int) != (n' : Int)) = true := by simp; omega
    go_wp2
    go_ret
    exact ⟨ret_bool (intsEq_of (by simp; intro e; rw [e] at HL; exact hn (HL.out.symm.trans HL'.out))), Below.refl _ _⟩

theorem wgCall_any (n n' : Int) (u v : Value) (g h : List Int) (w : World) (hu : Sl w 1 u (ints g)) (hv : Sl w 1 v (ints h)) :
    Calls Tryd.prog 46 #[.agg #[.int .i64 n, u], .agg #[.int .i64 n', v]] w fun e w' => e = .returned (.bool (callEq n n' g h)) ∧ Below w.heap.size w w' := by
  have hu0 := hu; have hv0 := hv
  obtain ⟨A, k, c, rfl, hA⟩ := hu
  obtain ⟨A', k', c', rfl, hA'⟩ := hv
  clear hA hA'
  by_cases e : n = n'
  · have hd : (n == n') = true := by simp [e]
    go_enter Tryd.func46, Tryd.ntmps46
    go_wp2_with (go_at_call 65; refine (wgInts_any _ _ g h _ (hu0.below (by go_grown)) (hv0.below (by go_grown))).mono ?_; rintro e1 w1 ⟨rfl, hb1⟩)
    all_goals
      go_ret
      refine ⟨ret_bool (callEq_of ?_), below_then (by go_grown) hb1⟩
      have := @intsEq_iff g h
      cases hx : intsEq g h <;> simp_all
  · have hd : (n == n') = false := by simp [e]
    go_enter Tryd.func46, Tryd.ntmps46
    go_wp2
    all_goals
      go_ret
      exact ⟨ret_bool (callEq_of (by simp [e])), by go_grown⟩
end Go.Proofs.YtaieopdfkapgdaaDoor
