/- The laws' helpers on rows of bools: eqBoolS, markBoolS, heldBoolS. -/
import Derived.Test.YtbcbbemkjaabjaaDoorLawInts
import Derived.Deep.OwnRows
namespace Go.Proofs.YtbcbbemkjaabjaaDoor
open Go.RowKit
set_option linter.unusedSimpArgs false
set_option linter.unusedVariables false

/-- The cells of bools. -/
def bools (xs : List Bool) : List (List Value) := xs.map fun x => [.bool x]
theorem bools_rows (xs : List Bool) : ∀ r ∈ bools xs, r.length = 1 := fun r hr => by
  obtain ⟨x, _, rfl⟩ := List.mem_map.1 hr
  rfl
theorem bools_len (xs : List Bool) : (bools xs).length = xs.length := by simp [bools]
theorem bools_flat (xs : List Bool) : (bools xs).flatten = xs.map Value.bool := by
  induction xs with
  | nil => rfl
  | cons x xs ih => simp [bools] at ih ⊢; exact ih
theorem boolsGet {w : World} {A : Option Addr} {n c : Nat} {xs : List Bool} (h : SlA w 1 A n c (bools xs)) {k : Nat} (hk : k < n) :
    ∃ b off x, A = some ⟨b, off, none⟩ ∧ b < w.heap.size ∧ xs[k]? = some x ∧ (∀ (w' : World) (B : Nat), Below B w w' → b < B → w'.cell? ⟨b, off + k, none⟩ = some (.bool x)) := by
  have hl := h.len
  rw [bools_len] at hl
  obtain ⟨b, o, e, hb, hc⟩ := h.get hk
  have hk' : k < xs.length := by omega
  refine ⟨b, o, xs[k], e, hb, List.getElem?_eq_getElem hk', fun w' B hw hB => ?_⟩
  have hr : (bools xs)[k]? = some [.bool xs[k]] := by simp [bools, hk']
  have f := hc _ hr 0 _ rfl
  rw [Nat.mul_one, Nat.add_zero] at f
  exact cellAt hw hB f
def boolsEq (g h : List Bool) : Bool := decide (g = h)
theorem boolsEq_iff {g h : List Bool} : boolsEq g h = true ↔ g = h := by simp [boolsEq]
theorem boolsEq_of {g h : List Bool} {b : Bool} (e : b = true ↔ g = h) : b = boolsEq g h := by rw [Bool.eq_iff_iff, e, boolsEq_iff]

set_option maxHeartbeats 1000000 in
theorem eqBoolS_any (u v : Value) (g h : List Bool) (w : World) (hu : Sl w 1 u (bools g)) (hv : Sl w 1 v (bools h)) :
    Calls Tryd.prog 14 #[u, v] w fun e w' => e = .returned (.bool (boolsEq g h)) ∧ Below w.heap.size w w' := by
  obtain ⟨A, n, c, rfl, hA⟩ := hu
  obtain ⟨A', n', c', rfl, hA'⟩ := hv
  have hl : g.length = n := by have := hA.len; rwa [bools_len] at this
  have hl' : h.length = n' := by have := hA'.len; rwa [bools_len] at this
  have hc := hA.cap
  have hm := hA.max
  have hc' := hA'.cap
  have hm' := hA'.max
  unfold maxLen at hm hm'
  have HL := Lib.hid hl; have HL' := Lib.hid hl'; clear hl hl'
  by_cases hn : n = n'
  · subst hn
    go_enter Tryd.func14, Tryd.ntmps14
    go_wp2
    go_loopw [5] (fun i wr => ∃ k : Nat, k ≤ n ∧ i = .int .i64 k ∧ sameTo g h k ∧ Below w.heap.size w wr) (fun i _ => n - natOf i)
    case atStart => exact ⟨0, Nat.zero_le _, rfl, sameTo_zero g h, Below.refl _ _⟩
    case round =>
      obtain ⟨k, hk, rfl, hto, hb⟩ := hrel
      have hsz := hb.size
      by_cases hlt : k < n
      · obtain ⟨b, off, p, rfl, hab, hgp, hcell⟩ := boolsGet hA hlt
        obtain ⟨b', off', q, rfl, hab', hgq, hcell'⟩ := boolsGet hA' hlt
        have c0 := hcell wr _ hb hab
        have d0 := hcell' wr _ hb hab'
        have HP := Lib.hid hgp; have HQ := Lib.hid hgq; clear hgp hcell hgq hcell'
        have hyes : p = q → sameTo g h (k + 1) := fun e => sameTo_succ hto HP.out HQ.out e
        have hno : p ≠ q → false = boolsEq g h := fun e => boolsEq_of (by
          simp only [Bool.false_eq_true, false_iff]
          intro e2
          have h1 := HP.out
          rw [e2, HQ.out] at h1
          exact e (Option.some.inj h1).symm)
        have HY := Lib.hid hyes; have HN := Lib.hid hno; clear hyes hno
        cases p <;> cases q
        all_goals
          go_wp2
          go_region
          all_goals go_wp2
        · exact ⟨⟨k + 1, by omega, by go_num, HY.out (by trivial), by go_grown⟩, by simp [natOf]; omega⟩
        · go_ret; exact ⟨ret_bool (HN.out (by simp)), by go_grown⟩
        · go_ret; exact ⟨ret_bool (HN.out (by simp)), by go_grown⟩
        · exact ⟨⟨k + 1, by omega, by go_num, HY.out (by trivial), by go_grown⟩, by simp [natOf]; omega⟩
      · obtain rfl : k = n := by omega
        go_wp2
        go_ret
        exact ⟨ret_bool (boolsEq_of (by simpa using sameTo_all hto HL.out HL'.out)), hb⟩
  · go_enter Tryd.func14, Tryd.ntmps14
    have hd : ((n : Int) != (n' : Int)) = true := by simp; omega
    go_wp2
    go_ret
    exact ⟨ret_bool (boolsEq_of (by simp; intro e; rw [e] at HL; exact hn (HL.out.symm.trans HL'.out))), Below.refl _ _⟩

/-- What markBoolS writes: whether the running number is divided by three. -/
def marksB (m : Int) : Nat → List Bool
  | 0 => []
  | n + 1 => (m % 3 == 0) :: marksB (m + 1) n
theorem marksB_len : ∀ (n : Nat) (m : Int), (marksB m n).length = n
  | 0, _ => rfl
  | n + 1, m => by simp [marksB, marksB_len n]
theorem marksB_get : ∀ (n : Nat) (m : Int) (k : Nat), k < n → (marksB m n)[k]? = some ((m + k) % 3 == 0)
  | 0, _, _, h => absurd h (by omega)
  | n + 1, m, 0, _ => by simp [marksB]
  | n + 1, m, k + 1, h => by
    simp only [marksB, List.getElem?_cons_succ]
    rw [marksB_get n (m + 1) k (by omega), show m + 1 + (k : Int) = m + ((k + 1 : Nat) : Int) by omega]
theorem marksB_set {m : Int} {k n : Nat} {ys : List Bool} (hy : ys.length = n) (hk : k < n) : (marksB m k ++ ys.drop k).set k ((m + k) % 3 == 0) = marksB m (k + 1) ++ ys.drop (k + 1) := by
  apply List.ext_getElem?
  intro j
  rw [List.getElem?_set]
  have hl := marksB_len k m
  have hl1 := marksB_len (k + 1) m
  by_cases e : k = j
  · subst e
    rw [if_pos rfl, if_pos (by simp; omega), List.getElem?_append_left (by omega), marksB_get _ _ _ (by omega)]
  · rw [if_neg e]
    by_cases hj : j < k
    · rw [List.getElem?_append_left (by omega), List.getElem?_append_left (by omega), marksB_get _ _ _ hj, marksB_get _ _ _ (by omega)]
    · rw [List.getElem?_append_right (by omega), List.getElem?_append_right (by omega), List.getElem?_drop, List.getElem?_drop, hl, hl1]
      congr 1
      omega

set_option maxHeartbeats 1000000 in
theorem markBoolS_own (base : Nat) (v : Value) (ys : List Bool) (n : Nat) (m : Int) (w : World) (hn : ys.length = n) (h : w.ownsRow base 4 1 v n (bools ys).flatten) (hn2 : n ≤ 1048576) (hm : 0 ≤ m) (hm2 : m ≤ 4611686018427387904) :
    Calls Tryd.prog 16 #[v, .int .i64 m] w fun e w' =>
      e = .returned (.int .i64 (m + n)) ∧ w.grownBy w' v.ownBlock ∧ w'.ownsRow base 4 1 v n (bools (marksB m n)).flatten := by
  obtain ⟨A, n', c, rfl, hA⟩ := SlA.of_own h ((bools_len ys).trans hn) (bools_rows ys)
  obtain rfl : n = n' := by have := hA.len; rw [bools_len] at this; omega
  have hc := hA.cap
  have hmx := hA.max
  unfold maxLen at hmx
  have HL := Lib.hid hn; clear hn hA
  go_enter Tryd.func16, Tryd.ntmps16
  go_wp2
  go_loopw [1, 5] (fun j i wr => ∃ k : Nat, k ≤ n ∧ i = .int .i64 k ∧ j = .int .i64 (m + k) ∧ w.grownBy wr (Value.slice A n c).ownBlock ∧ wr.ownsRow base 4 1 (.slice A n c) n (bools (marksB m k ++ ys.drop k)).flatten) (fun _ i _ => n - natOf i)
  case atStart => exact ⟨0, Nat.zero_le _, rfl, by simp, World.grownBy.refl _ _, by simpa [marksB] using h⟩
  case round =>
    obtain ⟨k, hk, rfl, rfl, hg, ho⟩ := hrel
    by_cases hlt : k < n
    · obtain ⟨g, cap, hform, _, _⟩ := ho.form (by omega)
      obtain ⟨rfl, rfl⟩ : A = some ⟨g, 0, none⟩ ∧ c = cap := by simpa using hform
      obtain ⟨u, hu⟩ : ∃ u, wr.cell? ⟨g, k, none⟩ = some u := ⟨_, (ho.cellAt k (by omega)).trans (List.getElem?_eq_getElem (by rw [ho.1]; omega))⟩
      have hf := ho.frozenAt k
      obtain ⟨ho2, hg2⟩ := ho.stored k (.bool ((m + k) % 3 == 0))
      rw [bools_flat, ← List.map_set, marksB_set HL.out hlt, ← bools_flat] at ho2
      have HO := Lib.hid ho; clear ho
      go_wp2
      exact ⟨⟨k + 1, by omega, by go_num, by go_num, hg.trans hg2, ho2⟩, by simp [natOf]; omega⟩
    · obtain rfl : k = n := by omega
      go_wp2
      go_ret
      refine ⟨rfl, hg, ?_⟩
      have hl := HL.out
      rwa [List.drop_of_length_le (by omega), List.append_nil] at ho

set_option maxHeartbeats 1000000 in
theorem heldBoolS_marks (v : Value) (n : Nat) (m : Int) (w : World) (h : Sl w 1 v (bools (marksB m n))) (hn2 : n ≤ 1048576) (hm : 0 ≤ m) (hm2 : m ≤ 4611686018427387904) :
    Calls Tryd.prog 17 #[v, .int .i64 m] w fun e w' => e = .returned (.int .i64 (m + n)) ∧ w = w' := by
  obtain ⟨A, n', c, rfl, hA⟩ := h
  obtain rfl : n = n' := by have := hA.len; rwa [bools_len, marksB_len] at this
  have hc := hA.cap
  have hmx := hA.max
  unfold maxLen at hmx
  go_enter Tryd.func17, Tryd.ntmps17
  go_wp2
  go_loopw [1, 5] (fun j i wr => ∃ k : Nat, k ≤ n ∧ i = .int .i64 k ∧ j = .int .i64 (m + k) ∧ w = wr) (fun _ i _ => n - natOf i)
  case atStart => exact ⟨0, Nat.zero_le _, rfl, by simp, rfl⟩
  case round =>
    obtain ⟨k, hk, rfl, rfl, rfl⟩ := hrel
    by_cases hlt : k < n
    · obtain ⟨b, off, x, rfl, hab, hgx, hcell⟩ := boolsGet hA hlt
      rw [marksB_get _ _ _ hlt] at hgx
      cases hgx
      have c0 := hcell w _ (Below.refl _ _) hab
      clear hcell
      go_wp2
      all_goals exact ⟨⟨k + 1, by omega, by go_num, by go_num, by first | trivial | rfl⟩, by simp [natOf]; omega⟩
    · obtain rfl : k = n := by omega
      go_wp2
      go_ret
      exact ⟨rfl, rfl⟩
end Go.Proofs.YtbcbbemkjaabjaaDoor
