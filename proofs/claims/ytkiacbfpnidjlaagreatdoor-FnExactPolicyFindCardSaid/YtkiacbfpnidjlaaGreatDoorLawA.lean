/- Joined texts: LawInts LawIns LawTest LawRule LawRuleM LawMark. -/
import Derived.Test.YtkiacbfpnidjlaaGreatDoorKit
import Derived.BigRegion
import Derived.Deep.OwnRows
import Derived.Test.YtkiacbfpnidjlaaGreatDoorTxt
import Derived.Test.YtkiacbfpnidjlaaGreatDoorMak
import Derived.Deep.Onto
import Derived.Test.YtkiacbfpnidjlaaGreatDoorBlkWrite
-- The laws' helpers on rows of ints: eqIntS, markIntS, heldIntS.
namespace Go.Proofs.YtkiacbfpnidjlaaGreatDoor
open Go.RowKit
set_option linter.unusedSimpArgs false
set_option linter.unusedVariables false

theorem intsGet {w : World} {A : Option Addr} {n c : Nat} {xs : List Int} (h : SlA w 1 A n c (ints xs)) {k : Nat} (hk : k < n) :
    ∃ b off x, A = some ⟨b, off, none⟩ ∧ b < w.heap.size ∧ xs[k]? = some x ∧ (∀ (w' : World) (B : Nat), Below B w w' → b < B → w'.cell? ⟨b, off + k, none⟩ = some (.int .i64 x)) := by
  have hl := h.len
  rw [ints_len] at hl
  obtain ⟨b, o, e, hb, hc⟩ := h.get hk
  have hk' : k < xs.length := by omega
  refine ⟨b, o, xs[k], e, hb, List.getElem?_eq_getElem hk', fun w' B hw hB => ?_⟩
  have hr : (ints xs)[k]? = some [.int .i64 xs[k]] := by simp [ints, hk']
  have f := hc _ hr 0 _ rfl
  rw [Nat.mul_one, Nat.add_zero] at f
  exact cellAt hw hB f

/-- Two lists are the same, up to a place. -/
def sameTo {α : Type} (g h : List α) (k : Nat) : Prop := ∀ j : Nat, j < k → g[j]? = h[j]?
theorem sameTo_zero {α : Type} (g h : List α) : sameTo g h 0 := fun j hj => absurd hj (by omega)
theorem sameTo_succ {α : Type} {g h : List α} {k : Nat} {p q : α} (h0 : sameTo g h k) (hg : g[k]? = some p) (hh : h[k]? = some q) (e : p = q) : sameTo g h (k + 1) := fun j hj => by
  by_cases hjk : j = k
  · subst hjk; rw [hg, hh, e]
  · exact h0 j (by omega)
theorem sameTo_all {α : Type} {g h : List α} {n : Nat} (h0 : sameTo g h n) (hg : g.length = n) (hh : h.length = n) : g = h := by
  apply List.ext_getElem?
  intro j
  by_cases hj : j < n
  · exact h0 j hj
  · rw [List.getElem?_eq_none (by omega), List.getElem?_eq_none (by omega)]

def intsEq (g h : List Int) : Bool := decide (g = h)
theorem intsEq_iff {g h : List Int} : intsEq g h = true ↔ g = h := by simp [intsEq]
theorem intsEq_of {g h : List Int} {b : Bool} (e : b = true ↔ g = h) : b = intsEq g h := by rw [Bool.eq_iff_iff, e, intsEq_iff]

def natOf : Value → Nat
  | .int _ n => n.toNat
  | _ => 0
theorem natOf_int (k : IntKind) (n : Int) : natOf (.int k n) = n.toNat := rfl

set_option maxHeartbeats 1000000 in
theorem eqIntS_any (u v : Value) (g h : List Int) (w : World) (hu : Sl w 1 u (ints g)) (hv : Sl w 1 v (ints h)) :
    Calls Tryz.prog 21 #[u, v] w fun e w' => e = .returned (.bool (intsEq g h)) ∧ Below w.heap.size w w' := by
  obtain ⟨A, n, c, rfl, hA⟩ := hu
  obtain ⟨A', n', c', rfl, hA'⟩ := hv
  have hl : g.length = n := by have := hA.len; rwa [ints_len] at this
  have hl' : h.length = n' := by have := hA'.len; rwa [ints_len] at this
  have hc := hA.cap
  have hm := hA.max
  have hc' := hA'.cap
  have hm' := hA'.max
  unfold maxLen at hm hm'
  have HL := Lib.hid hl; have HL' := Lib.hid hl'; clear hl hl'
  by_cases hn : n = n'
  · subst hn
    go_enter Tryz.func21, Tryz.ntmps21
    go_wp2
    go_loopw [5] (fun i wr => ∃ k : Nat, k ≤ n ∧ i = .int .i64 k ∧ sameTo g h k ∧ Below w.heap.size w wr) (fun i _ => n - natOf i)
    case atStart => exact ⟨0, Nat.zero_le _, rfl, sameTo_zero g h, Below.refl _ _⟩
    case round =>
      obtain ⟨k, hk, rfl, hto, hb⟩ := hrel
      have hsz := hb.size
      by_cases hlt : k < n
      · obtain ⟨b, off, p, rfl, hab, hgp, hcell⟩ := intsGet hA hlt
        obtain ⟨b', off', q, rfl, hab', hgq, hcell'⟩ := intsGet hA' hlt
        have c0 := hcell wr _ hb hab
        have d0 := hcell' wr _ hb hab'
        have HP := Lib.hid hgp; have HQ := Lib.hid hgq; clear hgp hcell hgq hcell'
        by_cases e : p = q
        · have hd : (p != q) = false := by simp [e]
          go_wp2
          go_region
          all_goals go_wp2
          all_goals exact ⟨⟨k + 1, by omega, by go_num, sameTo_succ hto HP.out HQ.out e, by go_grown⟩, by simp [natOf]; omega⟩
        · have hd : (p != q) = true := by simp [e]
          go_wp2
          go_region
          all_goals go_wp2
          all_goals
            go_ret
            refine ⟨ret_bool (intsEq_of ?_), by go_grown⟩
            simp only [Bool.false_eq_true, false_iff]
            intro e2
            have h1 := HP.out
            rw [e2, HQ.out] at h1
            exact e (Option.some.inj h1).symm
      · obtain rfl : k = n := by omega
        go_wp2
        go_ret
        exact ⟨ret_bool (intsEq_of (by simpa using sameTo_all hto HL.out HL'.out)), hb⟩
  · go_enter Tryz.func21, Tryz.ntmps21
    have hd : ((n : Int) != (n' : Int)) = true := by simp; omega
    go_wp2
    go_ret
    exact ⟨ret_bool (intsEq_of (by simp; intro e; rw [e] at HL; exact hn (HL.out.symm.trans HL'.out))), Below.refl _ _⟩

/-- What marks are set: m, m + 1, and so on. -/
def marks (m : Int) : Nat → List Int
  | 0 => []
  | n + 1 => m :: marks (m + 1) n
theorem marks_len : ∀ (n : Nat) (m : Int), (marks m n).length = n
  | 0, _ => rfl
  | n + 1, m => by simp [marks, marks_len n]
theorem marks_get : ∀ (n : Nat) (m : Int) (k : Nat), k < n → (marks m n)[k]? = some (m + k)
  | n + 1, m, 0, _ => by simp [marks]
  | n + 1, m, k + 1, h => by
    rw [marks, List.getElem?_cons_succ, marks_get n (m + 1) k (by omega)]
    congr 1; omega
theorem marks_snoc : ∀ (n : Nat) (m : Int), marks m (n + 1) = marks m n ++ [m + n]
  | 0, m => by simp [marks]
  | n + 1, m => by
    rw [marks, marks_snoc n (m + 1), marks]
    simp; omega

theorem Only.size {w w' : World} {r : Option Nat} (h : w.grownBy w' r) : w.heap.size ≤ w'.heap.size := h.size
/-- Marks fill a row step by step. -/
theorem marks_set {m : Int} {k : Nat} {xs : List Int} (hk : k < xs.length) :
    (ints (marks m k ++ xs.drop k)).flatten.set k (.int .i64 (m + k)) = (ints (marks m (k + 1) ++ xs.drop (k + 1))).flatten := by
  rw [ints_flat, ints_flat, marks_snoc, List.drop_eq_getElem_cons hk, List.map_append, List.set_append_right _ _ (by simp [marks_len])]
  simp only [List.map_cons, List.length_map, marks_len, Nat.sub_self, List.set_cons_zero, List.map_append, List.append_assoc, List.map_nil, List.cons_append, List.nil_append]

set_option maxHeartbeats 1000000 in
theorem markIntS_own (base : Nat) (v : Value) (xs : List Int) (n : Nat) (m : Int) (w : World) (hn : xs.length = n) (h : w.ownsRow base 3 1 v n (ints xs).flatten) (hn2 : n ≤ 2305843009213693952) (hm : -4611686018427387904 ≤ m) (hm2 : m ≤ 4611686018427387904) :
    Calls Tryz.prog 24 #[v, .int .i64 m] w fun e w' =>
      e = .returned (.int .i64 (m + n)) ∧ w.grownBy w' v.ownBlock ∧ w'.ownsRow base 3 1 v n (ints (marks m n)).flatten := by
  obtain ⟨A, n', c, rfl, hA⟩ := SlA.of_own h ((ints_len xs).trans hn) (ints_rows xs)
  obtain rfl : n = n' := by have := hA.len; rw [ints_len] at this; omega
  have hc := hA.cap
  have hmx := hA.max
  unfold maxLen at hmx
  have HL := Lib.hid hn; clear hn hA
  go_enter Tryz.func24, Tryz.ntmps24
  go_wp2
  go_loopw [1, 5] (fun j i wr => ∃ k : Nat, k ≤ n ∧ i = .int .i64 k ∧ j = .int .i64 (m + k) ∧ w.grownBy wr (Value.slice A n c).ownBlock ∧ wr.ownsRow base 3 1 (.slice A n c) n (ints (marks m k ++ xs.drop k)).flatten) (fun _ i _ => n - natOf i)
  case atStart => exact ⟨0, Nat.zero_le _, rfl, by simp, World.grownBy.refl _ _, by simpa [marks] using h⟩
  case round =>
    obtain ⟨k, hk, rfl, rfl, hg, ho⟩ := hrel
    by_cases hlt : k < n
    · obtain ⟨g, cap, hform, _, _⟩ := ho.form (by omega)
      obtain ⟨rfl, rfl⟩ : A = some ⟨g, 0, none⟩ ∧ c = cap := by simpa using hform
      obtain ⟨u, hu⟩ : ∃ u, wr.cell? ⟨g, k, none⟩ = some u := ⟨_, (ho.cellAt k (by omega)).trans (List.getElem?_eq_getElem (by rw [ho.1]; omega))⟩
      have hf := ho.frozenAt k
      obtain ⟨ho2, hg2⟩ := ho.stored k (.int .i64 (m + k))
      rw [marks_set (by rw [HL.out]; exact hlt)] at ho2
      have HO := Lib.hid ho; clear ho
      go_wp2
      exact ⟨⟨k + 1, by omega, by go_num, by go_num, hg.trans hg2, ho2⟩, by simp [natOf]; omega⟩
    · obtain rfl : k = n := by omega
      go_wp2
      go_ret
      refine ⟨rfl, hg, ?_⟩
      have hl := HL.out
      rwa [List.drop_of_length_le (by omega), List.append_nil] at ho

set_option maxHeartbeats 1000000 in
theorem heldIntS_marks (v : Value) (n : Nat) (m : Int) (w : World) (h : Sl w 1 v (ints (marks m n))) (hn2 : n ≤ 2305843009213693952) (hm : -4611686018427387904 ≤ m) (hm2 : m ≤ 4611686018427387904) :
    Calls Tryz.prog 25 #[v, .int .i64 m] w fun e w' => e = .returned (.int .i64 (m + n)) ∧ w = w' := by
  obtain ⟨A, n', c, rfl, hA⟩ := h
  obtain rfl : n = n' := by have := hA.len; rwa [ints_len, marks_len] at this
  have hc := hA.cap
  have hmx := hA.max
  unfold maxLen at hmx
  go_enter Tryz.func25, Tryz.ntmps25
  go_wp2
  go_loopw [1, 5] (fun j i wr => ∃ k : Nat, k ≤ n ∧ i = .int .i64 k ∧ j = .int .i64 (m + k) ∧ w = wr) (fun _ i _ => n - natOf i)
  case atStart => exact ⟨0, Nat.zero_le _, rfl, by simp, rfl⟩
  case round =>
    obtain ⟨k, hk, rfl, rfl, rfl⟩ := hrel
    by_cases hlt : k < n
    · obtain ⟨b, off, p, rfl, hab, hgp, hcell⟩ := intsGet hA hlt
      have c0 := hcell w _ (Below.refl _ _) hab
      rw [marks_get n m k hlt] at hgp
      obtain rfl := Option.some.inj hgp
      clear hcell
      go_wp2
      exact ⟨⟨k + 1, by omega, by go_num, by go_num, by first | trivial | rfl⟩, by simp [natOf]; omega⟩
    · obtain rfl : k = n := by omega
      go_wp2
      go_ret
      exact ⟨rfl, rfl⟩
end Go.Proofs.YtkiacbfpnidjlaaGreatDoor

-- The laws' helpers on programs: toIns, toInsS, szInsS, eqIns, eqInsS, markInsS, heldInsS.
namespace Go.Proofs.YtkiacbfpnidjlaaGreatDoor
open Go.RowKit Go.Sort
set_option linter.unusedSimpArgs false
set_option linter.unusedVariables false

/-- Marks as cells. -/
def marksV (m : Int) (n : Nat) : List Value := (marks m n).map (Value.int .i64)
theorem marksV_len (m : Int) (n : Nat) : (marksV m n).length = n := by simp [marksV, marks_len]
theorem marksV_get {m : Int} {n k : Nat} (h : k < n) : (marksV m n)[k]? = some (.int .i64 (m + k)) := by simp [marksV, marks_get n m k h]
theorem marksV_set {m : Int} {j : Nat} {ys : List Value} (hj : j < ys.length) (q : Int) (hq : q = m + j) : (marksV m j ++ ys.drop j).set j (.int .i64 q) = marksV m (j + 1) ++ ys.drop (j + 1) := by
  subst hq
  unfold marksV
  rw [marks_snoc, List.drop_eq_getElem_cons hj, List.map_append, List.set_append_right _ _ (by simp [marks_len])]
  simp only [List.map_cons, List.length_map, marks_len, Nat.sub_self, List.set_cons_zero, List.map_append, List.append_assoc, List.map_nil, List.cons_append, List.nil_append]

noncomputable def in4Eq (x y : In4) : Bool := @decide (x = y) (Classical.propDecidable _)
theorem in4Eq_iff {x y : In4} : in4Eq x y = true ↔ x = y := by simp [in4Eq]
theorem in4Eq_of {x y : In4} {b : Bool} (e : b = true ↔ x = y) : b = in4Eq x y := by rw [Bool.eq_iff_iff, e, in4Eq_iff]
theorem In4.iff {x y : In4} : x = y ↔ x.op = y.op ∧ x.k = y.k ∧ x.yes = y.yes ∧ x.no = y.no := by
  constructor
  · rintro rfl; exact ⟨rfl, rfl, rfl, rfl⟩
  · rintro ⟨a, b, c, d⟩; exact In4.ext' a b c d
noncomputable def codeEq (g h : List In4) : Bool := @decide (g = h) (Classical.propDecidable _)
theorem codeEq_iff {g h : List In4} : codeEq g h = true ↔ g = h := by simp [codeEq]
theorem codeEq_of {g h : List In4} {b : Bool} (e : b = true ↔ g = h) : b = codeEq g h := by rw [Bool.eq_iff_iff, e, codeEq_iff]

end Go.Proofs.YtkiacbfpnidjlaaGreatDoor

-- The laws' helpers on tests: szTestS, toTest, toTestS, eqTest, eqTestS (of one list), markTestS.
namespace Go.Proofs.YtkiacbfpnidjlaaGreatDoor
open Go.RowKit Go.Sort
set_option linter.unusedSimpArgs false
set_option linter.unusedVariables false

theorem szTestS_any (A : Option Addr) (n c : Nat) (left : Int) (w : World) (hn : n ≤ 9223372036854775807) (h0 : 0 ≤ left) (h1 : left ≤ 9223372036854775807) :
    Calls Tryz.prog 40 #[.slice A n c, .int .i64 left] w fun e w' => ∃ x : Int, e = .returned (.int .i64 x) ∧ (x = -1 ∨ (0 ≤ x ∧ x + n = left)) ∧ w = w' := by
  by_cases h : (n : Int) ≤ left
  · go_enter Tryz.func40, Tryz.ntmps40
    have hd : ¬ left - n < 0 := by omega
    go_wp2
    go_ret
    exact ⟨left - n, rfl, .inr ⟨by omega, by omega⟩, rfl⟩
  · go_enter Tryz.func40, Tryz.ntmps40
    have hd : left - n < 0 := by omega
    go_wp2
    go_ret
    exact ⟨-1, rfl, .inl rfl, rfl⟩

theorem toTest_any (p : Ts) (w : World) :
    Calls Tryz.prog 56 #[.agg #[.int .i64 p.field, .int .i64 p.mask, .int .i64 p.op, .int .i64 p.value]] w fun e w' =>
      e = .returned (.agg #[.int .i64 p.field, .int .i64 p.mask, .int .i64 p.op, .int .i64 p.value]) ∧ Below w.heap.size w w' := by
  go_enter Tryz.func56, Tryz.ntmps56
  go_wp2
  go_returns
  exact ⟨rfl, by go_grown⟩

theorem eqTest_same (p : Ts) (w : World) :
    Calls Tryz.prog 68 #[.agg #[.int .i64 p.field, .int .i64 p.mask, .int .i64 p.op, .int .i64 p.value], .agg #[.int .i64 p.field, .int .i64 p.mask, .int .i64 p.op, .int .i64 p.value]] w fun e w' =>
      e = .returned (.bool true) ∧ Below w.heap.size w w' := by
  have n1 : (p.field != p.field) = false := by simp
  have n2 : (p.mask != p.mask) = false := by simp
  have n3 : (p.op != p.op) = false := by simp
  have n4 : (p.value != p.value) = false := by simp
  go_enter Tryz.func68, Tryz.ntmps68
  go_wp2
  all_goals (go_ret; exact ⟨rfl, by go_grown⟩)

set_option maxHeartbeats 1000000 in
theorem eqTestS_same (u v : Value) (g : List Ts) (w : World) (hu : Sl w 4 u (tsR g)) (hv : Sl w 4 v (tsR g)) :
    Calls Tryz.prog 53 #[u, v] w fun e w' => e = .returned (.bool true) ∧ Below w.heap.size w w' := by
  obtain ⟨A, n, c, rfl, hA⟩ := hu
  obtain ⟨A', n', c', rfl, hA'⟩ := hv
  have hl : g.length = n := by have := hA.len; rwa [tsR_len] at this
  have hl' : g.length = n' := by have := hA'.len; rwa [tsR_len] at this
  have hc := hA.cap
  have hm := hA.max
  have hc' := hA'.cap
  have hm' := hA'.max
  unfold maxLen at hm hm'
  obtain rfl : n = n' := by omega
  clear hl'
  have HL := Lib.hid hl; clear hl
  have hnn : ((n : Int) != (n : Int)) = false := by simp
  go_enter Tryz.func53, Tryz.ntmps53
  go_wp2
  go_loopw [5] (fun i wr => ∃ k : Nat, k ≤ n ∧ i = .int .i64 k ∧ Below w.heap.size w wr) (fun i _ => n - (intOf i).toNat)
  case atStart => exact ⟨0, Nat.zero_le _, rfl, Below.refl _ _⟩
  case round =>
    obtain ⟨k, hk, rfl, hb⟩ := hrel
    have hsz := hb.size
    by_cases hlt : k < n
    · obtain ⟨b, off, p, rfl, hab, hgp, hcell⟩ := ts_get hA hlt
      obtain ⟨b', off', q, rfl, hab', hgq, hcell'⟩ := ts_get hA' hlt
      obtain rfl : p = q := by rw [hgp] at hgq; exact Option.some.inj hgq
      obtain ⟨c0, c1, c2, c3⟩ := hcell wr _ hb hab
      obtain ⟨d0, d1, d2, d3⟩ := hcell' wr _ hb hab'
      clear hgp hcell hgq hcell'
      go_wp2
      refine wp_region_quiet_below (by kernel_rfl) (by kernel_rfl) ?_
      have r0 := cell_regrown c0; have r1 := cell_regrown c1; have r2 := cell_regrown c2; have r3 := cell_regrown c3
      have s0 := cell_regrown d0; have s1 := cell_regrown d1; have s2 := cell_regrown d2; have s3 := cell_regrown d3
      repeat (quiet_step (exact Calls.regrown_of (eqTest_same p _)))
      refine wpQuiet_nil ?_
      intro _ hw'
      obtain ⟨⟨dq, osq⟩, hw''⟩ := hw'
      subst hw''
      go_wp2
      exact ⟨⟨k + 1, by omega, by go_num, below_step hb hsz (below_regrown _ _ _)⟩, by simp [intOf]; omega⟩
    · obtain rfl : k = n := by omega
      go_wp2
      go_ret
      exact ⟨rfl, hb⟩

theorem info_Test : (Tryz.prog.info? 64).map (fun i => (i.zero, i.size, i.bytes)) = some (some (.agg #[.int .i64 0, .int .i64 0, .int .i64 0, .int .i64 0]), 4, 32) := by kernel_rfl

set_option maxHeartbeats 1000000 in
theorem toTestS_own (u : Value) (g : List Ts) (w : World) (hu : Sl w 4 u (tsR g)) (hn : g.length ≤ 1048576) :
    Calls Tryz.prog 45 #[u] w fun e w' => ∃ v, e = .returned v ∧ w'.ownsRow w.heap.size 64 4 v g.length (tsR g).flatten ∧ Below w.heap.size w w' := by
  obtain ⟨A, n, c, rfl, hA⟩ := hu
  have hl : g.length = n := by have := hA.len; rwa [tsR_len] at this
  have hc := hA.cap
  have hm := hA.max
  unfold maxLen at hm
  rw [hl] at hn
  have hmk := fun W => run_make_rowN (P := Tryz.prog) 59 64 _ 4 32 Tryz.underlying59 info_Test .i64 n (by omega) (by omega) W
  have HL := Lib.hid hl; clear hl
  go_enter Tryz.func45, Tryz.ntmps45
  go_wp2
  go_loopw [4] (fun i wr => ∃ (k : Nat) (cur : Array Value), k ≤ n ∧ i = .int .i64 k ∧ Blk wr w.heap.size 64 cur ∧ cur.size = n * 4 ∧ FilledTo cur 4 (tsR g) k ∧ Below w.heap.size w wr) (fun i _ => n - (intOf i).toNat)
  case atStart => exact ⟨0, _, Nat.zero_le _, rfl, Blk.new _ _ _, by simp [size_madeCells], FilledTo.zero _ _ _, by go_grown⟩
  case round =>
    obtain ⟨k, cur, hk, rfl, hbk, hcs, hf, hb⟩ := hrel
    have hsz := hb.size
    have hblt := hbk.lt
    by_cases hlt : k < n
    · obtain ⟨b, off, p, rfl, hab, hgp, hcell⟩ := ts_get hA hlt
      obtain ⟨c0, c1, c2, c3⟩ := hcell wr _ hb hab
      have HP := Lib.hid hgp; have HB := Lib.hid hbk; clear hgp hcell hbk
      go_wp2_with (go_at_call 56; refine (toTest_any p _).mono ?_; rintro e w1 ⟨rfl, hb1⟩; have hbk1 := HB.out.below hb1 hblt; obtain ⟨x0, e0⟩ := hbk1.some_ (i := k * 4) (by omega); obtain ⟨x1, e1⟩ := hbk1.some_ (i := k * 4 + 1) (by omega); obtain ⟨x2, e2⟩ := hbk1.some_ (i := k * 4 + 2) (by omega); obtain ⟨x3, e3⟩ := hbk1.some_ (i := k * 4 + 3) (by omega); have f0 := hbk1.frozen (k * 4); have f1 := hbk1.frozen (k * 4 + 1); have f2 := hbk1.frozen (k * 4 + 2); have f3 := hbk1.frozen (k * 4 + 3); have HB1 := Lib.hid hbk1; clear hbk1)
      refine ⟨⟨k + 1, setArr cur (k * 4) p.cells, by omega, by go_num, HB1.out.run p.cells _ _ (k * 4), (setArr_size _ _ _).trans hcs, hf.next (by simp [tsR, HP.out]) (tsR_rows g) hcs hlt, ?_⟩, by simp [intOf]; omega⟩
      exact below_run (Nat.le_refl _) p.cells w1 _ (below_step hb hsz hb1)
    · obtain rfl : k = n := by omega
      go_wp2
      go_ret
      refine ⟨_, rfl, ?_, hb⟩
      rw [HL.out]
      exact own_of_filled hbk (Nat.le_refl _) (by rw [tsR_len]; exact HL.out) (tsR_rows g) hcs (by unfold maxLen; omega) hf

set_option maxHeartbeats 2000000 in
theorem markTestS_own (base : Nat) (v : Value) (ys : List Value) (n : Nat) (m : Int) (w : World) (h : w.ownsRow base 64 4 v n ys) (hn2 : n ≤ 1048576) (hm : 0 ≤ m) (hm2 : m ≤ 4611686018427387904) :
    Calls Tryz.prog 39 #[v, .int .i64 m] w fun e w' =>
      e = .returned (.int .i64 (m + (n * 4 : Nat))) ∧ w.grownBy w' v.ownBlock ∧ w'.ownsRow base 64 4 v n (marksV m (n * 4)) := by
  obtain ⟨A, c, rfl, hcn, hcm⟩ : ∃ A c, v = .slice A n c ∧ n ≤ c ∧ c ≤ maxLen := by
    rcases h.2 with ⟨rfl, h0⟩ | ⟨g, cap, cur, rfl, _, hg, hnc, hm, _, htake⟩
    · exact ⟨none, 0, by rw [h0], by omega, by simp⟩
    · exact ⟨_, _, rfl, hnc, hm⟩
  unfold maxLen at hcm
  have hy := h.1
  go_enter Tryz.func39, Tryz.ntmps39
  go_wp2
  go_loopw [1, 5] (fun j i wr => ∃ k : Nat, k ≤ n ∧ i = .int .i64 k ∧ j = .int .i64 (m + (k * 4 : Nat)) ∧ w.grownBy wr (Value.slice A n c).ownBlock ∧ wr.ownsRow base 64 4 (.slice A n c) n (marksV m (k * 4) ++ ys.drop (k * 4))) (fun _ i _ => n - natOf i)
  case atStart => exact ⟨0, Nat.zero_le _, rfl, by simp, World.grownBy.refl _ _, by simpa [marksV, marks] using h⟩
  case round =>
    obtain ⟨k, hk, rfl, rfl, hg, ho⟩ := hrel
    by_cases hlt : k < n
    · obtain ⟨g, cap, hform, _, _⟩ := ho.form (by omega)
      obtain ⟨rfl, rfl⟩ : A = some ⟨g, 0, none⟩ ∧ c = cap := by simpa using hform
      have hcl : ∀ j : Nat, j < n * 4 → ∃ u, wr.cell? ⟨g, j, none⟩ = some u := fun j hj => ⟨_, (ho.cellAt j hj).trans (List.getElem?_eq_getElem (by rw [ho.1]; omega))⟩
      obtain ⟨u0, e0⟩ := hcl (k * 4) (by omega)
      obtain ⟨u1, e1⟩ := hcl (k * 4 + 1) (by omega)
      obtain ⟨u2, e2⟩ := hcl (k * 4 + 2) (by omega)
      obtain ⟨u3, e3⟩ := hcl (k * 4 + 3) (by omega)
      have f0 := ho.frozenAt (k * 4); have f1 := ho.frozenAt (k * 4 + 1); have f2 := ho.frozenAt (k * 4 + 2); have f3 := ho.frozenAt (k * 4 + 3)
      obtain ⟨o1, g1⟩ := ho.stored (k * 4) (.int .i64 (m + (k * 4 : Nat)))
      rw [marksV_set (by omega) _ rfl] at o1
      obtain ⟨o2, g2⟩ := o1.stored (k * 4 + 1) (.int .i64 (m + (k * 4 : Nat) + 1))
      rw [marksV_set (by omega) _ (by omega)] at o2
      obtain ⟨o3, g3⟩ := o2.stored (k * 4 + 2) (.int .i64 (m + (k * 4 : Nat) + 1 + 1))
      rw [marksV_set (by omega) _ (by omega)] at o3
      obtain ⟨o4, g4⟩ := o3.stored (k * 4 + 3) (.int .i64 (m + (k * 4 : Nat) + 1 + 1 + 1))
      rw [marksV_set (by omega) _ (by omega)] at o4
      have HO := Lib.hid o4; have HG := Lib.hid ((((hg.trans g1).trans g2).trans g3).trans g4); clear ho o1 o2 o3 o4 g1 g2 g3 g4 hcl hg
      go_wp2
      exact ⟨⟨k + 1, by omega, by go_num, by go_num, HG.out, by rw [show (k + 1) * 4 = k * 4 + 1 + 1 + 1 + 1 by omega]; exact HO.out⟩, by simp [natOf]; omega⟩
    · obtain rfl : k = n := by omega
      go_wp2
      go_ret
      refine ⟨rfl, hg, ?_⟩
      rwa [List.drop_of_length_le (by omega), List.append_nil] at ho
end Go.Proofs.YtkiacbfpnidjlaaGreatDoor

-- The laws' helpers on rules and policies that only read: szRule, szRuleS, szPolicy, eqRule, eqRuleS, eqPolicy (of one policy).
namespace Go.Proofs.YtkiacbfpnidjlaaGreatDoor
open Go.RowKit Go.Sort
set_option linter.unusedSimpArgs false
set_option linter.unusedVariables false

def sumT (rs : List Rl) : Nat := (rs.map fun r => r.tests.length).sum
theorem sumT_succ {rs : List Rl} {k : Nat} {r : Rl} (h : rs[k]? = some r) : sumT (rs.take (k + 1)) = sumT (rs.take k) + r.tests.length := by
  unfold sumT
  rw [List.take_add_one, h]
  simp
theorem sumT_at {rs : List Rl} {i : Nat} {r : Rl} (h : rs[i]? = some r) : r.tests.length ≤ sumT rs := by
  induction rs generalizing i with
  | nil => simp at h
  | cons a l ih =>
    cases i with
    | zero => simp at h; subst h; simp [sumT]
    | succ i => simp at h; have := ih h; simp [sumT] at *; omega

set_option maxHeartbeats 1000000 in
theorem szRule_any (vd lo hi : Int) (A : Option Addr) (n c : Nat) (left : Int) (w : World) (hn : n ≤ 9223372036854775807) (h0 : 0 ≤ left) (h1 : left ≤ 9223372036854775807) :
    Calls Tryz.prog 26 #[.agg #[.int .i64 vd, .int .i64 lo, .int .i64 hi, .slice A n c], .int .i64 left] w fun e w' => ∃ x : Int, e = .returned (.int .i64 x) ∧ (x = -1 ∨ (0 ≤ x ∧ x + n = left)) ∧ Below w.heap.size w w' := by
  go_enter Tryz.func26, Tryz.ntmps26
  go_wp2_with fail
  refine (szTestS_any A n c left _ hn h0 h1).mono ?_; rintro e w1 ⟨x, rfl, hx, rfl⟩
  by_cases hneg : x < 0
  · have HX := Lib.hid hx; clear hx
    go_wp2
    go_ret
    exact ⟨-1, rfl, .inl rfl, by go_grown⟩
  · have HX := Lib.hid hx; clear hx
    go_wp2
    go_ret
    exact ⟨x, rfl, HX.out, by go_grown⟩

set_option maxHeartbeats 1000000 in
theorem szRuleS_any (v : Value) (rs : List Rl) (css : List (List Value)) (left : Int) (w : World) (hS : Sl w 4 v css) (hR : RulesAre w rs css) (h0 : 0 ≤ left) (h1 : left ≤ 9223372036854775807) :
    Calls Tryz.prog 13 #[v, .int .i64 left] w fun e w' => ∃ x : Int, e = .returned (.int .i64 x) ∧ (x = -1 ∨ (0 ≤ x ∧ x + rs.length + sumT rs = left)) ∧ Below w.heap.size w w' := by
  obtain ⟨A, n, c, rfl, hA⟩ := hS
  have hl : rs.length = n := by rw [← hR.1]; exact hA.len
  have hc := hA.cap
  have hm := hA.max
  unfold maxLen at hm
  have HL := Lib.hid hl; have HA := Lib.hid hA; have HR := Lib.hid hR; clear hl hA hR
  by_cases h : (n : Int) ≤ left
  · have hd : ¬ left - n < 0 := by omega
    go_enter Tryz.func13, Tryz.ntmps13
    go_wp2
    go_loopw [1, 5] (fun y i wr => ∃ (k : Nat) (z : Int), k ≤ n ∧ i = .int .i64 k ∧ y = .int .i64 z ∧ 0 ≤ z ∧ z + n + sumT (rs.take k) = left ∧ Below w.heap.size w wr) (fun _ i _ => n - (intOf i).toNat)
    case atStart => exact ⟨0, left - n, Nat.zero_le _, rfl, rfl, by omega, by simp [sumT], Below.refl _ _⟩
    case round =>
      obtain ⟨k, z, hk, rfl, rfl, hz, hsum, hb⟩ := hrel
      by_cases hlt : k < n
      · obtain ⟨b, off, r, tv, rfl, hab, hgp, hsl, hcell⟩ := rules_get HA.out HR.out hlt
        obtain ⟨c0, c1, c2, c3⟩ := hcell wr _ hb hab
        obtain ⟨A2, n2, cc2, rfl, hA2⟩ := hsl
        have hn2 : r.tests.length = n2 := by have := hA2.len; rwa [tsR_len] at this
        have hc2 := hA2.cap
        have hm2 := hA2.max
        unfold maxLen at hm2
        have hss := sumT_succ hgp
        rw [hn2] at hss
        have HSS := Lib.hid hss; have HSU := Lib.hid hsum
        clear hcell hgp hA2 hss hn2 hsum
        go_wp2_with fail
        refine (szRule_any r.verdict r.low r.high A2 n2 cc2 z _ (by omega) hz (by have := HSU.out; omega)).mono ?_; rintro e w1 ⟨x, rfl, hx, hb1⟩
        have hb2 := below_then hb hb1
        by_cases hneg : x < 0
        · clear hx
          go_wp2
          go_ret
          exact ⟨-1, rfl, .inl rfl, hb2⟩
        · have HX := Lib.hid hx; clear hx
          go_wp2
          exact ⟨⟨k + 1, x, by omega, by go_num, rfl, by omega, by have h1 := HX.out; have h2 := HSU.out; have h3 := HSS.out; rw [h3]; omega, hb2⟩, by simp [intOf]; omega⟩
      · obtain rfl : k = n := by omega
        have HSU := Lib.hid hsum; clear hsum
        go_wp2
        go_ret
        exact ⟨z, rfl, .inr ⟨hz, by have h2 := HSU.out; rw [List.take_of_length_le (by rw [HL.out]; omega)] at h2; have := HL.out; omega⟩, hb⟩
  · have hd : left - n < 0 := by omega
    go_enter Tryz.func13, Tryz.ntmps13
    go_wp2
    go_ret
    exact ⟨-1, rfl, .inl rfl, Below.refl _ _⟩

set_option maxHeartbeats 1000000 in
theorem szPolicy_any (p : Pol) (v : Value) (left : Int) (w : World) (hP : PolIs w p v) (h0 : 0 ≤ left) (h1 : left ≤ 9223372036854775807) :
    Calls Tryz.prog 4 #[v, .int .i64 left] w fun e w' => ∃ x : Int, e = .returned (.int .i64 x) ∧ (x = -1 ∨ (0 ≤ x ∧ x + p.rules.length + sumT p.rules = left)) ∧ Below w.heap.size w w' := by
  obtain ⟨rv, css, rfl, hS, hR⟩ := hP
  have hb0 : Below w.heap.size w (w.alloc (.cells #[rv, .int .i64 p.els] 24)) := by go_grown
  have HS := Lib.hid hS; have HR := Lib.hid hR
  obtain ⟨A, n, c, rfl, hA⟩ := hS
  clear hA hR
  go_enter Tryz.func4, Tryz.ntmps4
  go_wp2_with fail
  refine (szRuleS_any _ p.rules css left _ (HS.out.below hb0) (HR.out.below hb0) h0 h1).mono ?_; rintro e w1 ⟨x, rfl, hx, hb1⟩
  have hb2 := below_then hb0 hb1
  have HX := Lib.hid hx; clear hx
  by_cases hneg : x < 0
  · go_wp2
    go_ret
    exact ⟨-1, rfl, .inl rfl, hb2⟩
  · go_wp2
    go_ret
    exact ⟨x, rfl, HX.out, hb2⟩

set_option maxHeartbeats 1000000 in
theorem eqRule_same (vd lo hi : Int) (u v : Value) (ts : List Ts) (w : World) (hu : Sl w 4 u (tsR ts)) (hv : Sl w 4 v (tsR ts)) :
    Calls Tryz.prog 38 #[.agg #[.int .i64 vd, .int .i64 lo, .int .i64 hi, u], .agg #[.int .i64 vd, .int .i64 lo, .int .i64 hi, v]] w fun e w' => e = .returned (.bool true) ∧ Below w.heap.size w w' := by
  have HU := Lib.hid hu; have HV := Lib.hid hv
  obtain ⟨A, n, c, rfl, hA⟩ := hu
  obtain ⟨A', n', c', rfl, hA'⟩ := hv
  clear hA hA'
  have hb0 : Below w.heap.size w ((w.alloc (.cells #[.int .i64 vd, .int .i64 lo, .int .i64 hi, .slice A n c] 61)).alloc (.cells #[.int .i64 vd, .int .i64 lo, .int .i64 hi, .slice A' n' c'] 61)) := by go_grown
  have n1 : (vd != vd) = false := by simp
  have n2 : (lo != lo) = false := by simp
  have n3 : (hi != hi) = false := by simp
  go_enter Tryz.func38, Tryz.ntmps38
  go_wp2_with fail
  refine (eqTestS_same _ _ ts _ (HU.out.below hb0) (HV.out.below hb0)).mono ?_; rintro e w1 ⟨rfl, hb1⟩
  have hb2 := below_then hb0 hb1
  go_wp2
  go_ret
  exact ⟨rfl, hb2⟩

set_option maxHeartbeats 1000000 in
theorem eqRuleS_same (u v : Value) (rs : List Rl) (cs ds : List (List Value)) (w : World) (hu : Sl w 4 u cs) (hv : Sl w 4 v ds) (hc : RulesAre w rs cs) (hd : RulesAre w rs ds) :
    Calls Tryz.prog 22 #[u, v] w fun e w' => e = .returned (.bool true) ∧ Below w.heap.size w w' := by
  obtain ⟨A, n, c, rfl, hA⟩ := hu
  obtain ⟨A', n', c', rfl, hA'⟩ := hv
  have hl : rs.length = n := by rw [← hc.1]; exact hA.len
  have hl' : rs.length = n' := by rw [← hd.1]; exact hA'.len
  have h1 := hA.cap
  have h2 := hA.max
  have h3 := hA'.cap
  have h4 := hA'.max
  unfold maxLen at h2 h4
  obtain rfl : n = n' := by omega
  clear hl'
  have HL := Lib.hid hl; have HA := Lib.hid hA; have HA' := Lib.hid hA'; have HC := Lib.hid hc; have HD := Lib.hid hd; clear hl hA hA' hc hd
  have hnn : ((n : Int) != (n : Int)) = false := by simp
  go_enter Tryz.func22, Tryz.ntmps22
  go_wp2
  go_loopw [5] (fun i wr => ∃ k : Nat, k ≤ n ∧ i = .int .i64 k ∧ Below w.heap.size w wr) (fun i _ => n - (intOf i).toNat)
  case atStart => exact ⟨0, Nat.zero_le _, rfl, Below.refl _ _⟩
  case round =>
    obtain ⟨k, hk, rfl, hb⟩ := hrel
    have hsz := hb.size
    by_cases hlt : k < n
    · obtain ⟨b, off, p, tv, rfl, hab, hgp, hsl, hcell⟩ := rules_get HA.out HC.out hlt
      obtain ⟨b', off', q, tv', rfl, hab', hgq, hsl', hcell'⟩ := rules_get HA'.out HD.out hlt
      obtain rfl : p = q := by rw [hgp] at hgq; exact Option.some.inj hgq
      obtain ⟨c0, c1, c2, c3⟩ := hcell wr _ hb hab
      obtain ⟨d0, d1, d2, d3⟩ := hcell' wr _ hb hab'
      have HS1 := Lib.hid (hsl.below hb); have HS2 := Lib.hid (hsl'.below hb)
      clear hgp hcell hgq hcell' hsl hsl'
      go_wp2
      refine wp_region_quiet_below (by kernel_rfl) (by kernel_rfl) ?_
      have r0 := cell_regrown c0; have r1 := cell_regrown c1; have r2 := cell_regrown c2; have r3 := cell_regrown c3
      have s0 := cell_regrown d0; have s1 := cell_regrown d1; have s2 := cell_regrown d2; have s3 := cell_regrown d3
      repeat (quiet_step (exact Calls.regrown_of (eqRule_same p.verdict p.low p.high tv tv' p.tests _ (HS1.out.below (below_regrown _ _ _)) (HS2.out.below (below_regrown _ _ _)))))
      refine wpQuiet_nil ?_
      intro _ hw'
      obtain ⟨⟨dq, osq⟩, hw''⟩ := hw'
      subst hw''
      go_wp2
      exact ⟨⟨k + 1, by omega, by go_num, below_step hb hsz (below_regrown _ _ _)⟩, by simp [intOf]; omega⟩
    · obtain rfl : k = n := by omega
      go_wp2
      go_ret
      exact ⟨rfl, hb⟩

set_option maxHeartbeats 1000000 in
theorem eqPolicy_same (p : Pol) (u v : Value) (w : World) (hu : PolIs w p u) (hv : PolIs w p v) :
    Calls Tryz.prog 9 #[u, v] w fun e w' => e = .returned (.bool true) ∧ Below w.heap.size w w' := by
  obtain ⟨rv, cs, rfl, hS, hR⟩ := hu
  obtain ⟨rv', ds, rfl, hS', hR'⟩ := hv
  have HS := Lib.hid hS; have HR := Lib.hid hR; have HS' := Lib.hid hS'; have HR' := Lib.hid hR'
  obtain ⟨A, n, c, rfl, hA⟩ := hS
  obtain ⟨A', n', c', rfl, hA'⟩ := hS'
  clear hA hA' hR hR'
  have hb0 : Below w.heap.size w ((w.alloc (.cells #[.slice A n c, .int .i64 p.els] 33)).alloc (.cells #[.slice A' n' c', .int .i64 p.els] 33)) := by go_grown
  have n1 : (p.els != p.els) = false := by simp
  have B1 := (Blk.new w 33 #[.slice A n c, .int .i64 p.els]).alloc (.cells #[.slice A' n' c', .int .i64 p.els] 33)
  have B2 : Blk ((w.alloc (.cells #[.slice A n c, .int .i64 p.els] 33)).alloc (.cells #[.slice A' n' c', .int .i64 p.els] 33)) (w.heap.size + 1) 33 #[.slice A' n' c', .int .i64 p.els] := by
    have := Blk.new (w.alloc (.cells #[.slice A n c, .int .i64 p.els] 33)) 33 #[.slice A' n' c', .int .i64 p.els]
    simpa using this
  go_enter Tryz.func9, Tryz.ntmps9
  go_wp2_with fail
  refine (eqRuleS_same _ _ p.rules cs ds _ (HS.out.below hb0) (HS'.out.below hb0) (HR.out.below hb0) (HR'.out.below hb0)).mono ?_; rintro e w1 ⟨rfl, hb1⟩
  have hb2 := below_then hb0 hb1
  have e1 := (show _ = some (Value.int .i64 p.els) from (B1.below hb1 B1.lt).cell 1)
  have e2 := (show _ = some (Value.int .i64 p.els) from (B2.below hb1 B2.lt).cell 1)
  go_wp2
  go_ret
  exact ⟨rfl, hb2⟩
end Go.Proofs.YtkiacbfpnidjlaaGreatDoor

-- The laws' helpers on rules and policies that make new ones: toRule, toRuleS, toPolicy.
namespace Go.Proofs.YtkiacbfpnidjlaaGreatDoor
open Go.RowKit Go.Sort
set_option linter.unusedSimpArgs false
set_option linter.unusedVariables false

/-- Rules whose tests lie in rows of their own. -/
def OwnRules (w : World) (base : Nat) (rs : List Rl) (css : List (List Value)) : Prop := css.length = rs.length ∧ ∀ (i : Nat) (r : Rl) (cs : List Value), rs[i]? = some r → css[i]? = some cs → ∃ tv, cs = [.int .i64 r.verdict, .int .i64 r.low, .int .i64 r.high, tv] ∧ w.ownsRow base 64 4 tv r.tests.length (tsR r.tests).flatten
theorem OwnRules.nil (w : World) (base : Nat) : OwnRules w base [] [] := ⟨rfl, fun i r cs h => by simp at h⟩
theorem OwnRules.next {w w' : World} {base : Nat} {rs : List Rl} {css : List (List Value)} (h : OwnRules w base rs css) (hb : Below w.heap.size w w') : OwnRules w' base rs css :=
  ⟨h.1, fun i r cs h1 h2 => by obtain ⟨tv, e, ho⟩ := h.2 i r cs h1 h2; exact ⟨tv, e, own_below ho hb⟩⟩
theorem OwnRules.far {w : World} {base : Nat} {rs : List Rl} {css : List (List Value)} (h : OwnRules w base rs css) {g i : Nat} {t : TypeId} {cur : Array Value} (hg : Blk w g t cur) (ht : t ≠ 64) (u : Value) : OwnRules (w.setCell ⟨g, i, none⟩ u) base rs css :=
  ⟨h.1, fun j r cs h1 h2 => by obtain ⟨tv, e, ho⟩ := h.2 j r cs h1 h2; exact ⟨tv, e, ownsRow_setCell_other (a := ⟨g, i, none⟩) ho (own_ne_int ho hg ht) u⟩⟩
theorem OwnRules.run {base g : Nat} {rs : List Rl} {css : List (List Value)} {t : TypeId} (ht : t ≠ 64) : ∀ (vs : List Value) (w : World) (cur : Array Value) (o : Nat), OwnRules w base rs css → Blk w g t cur → OwnRules (setRun w g o vs) base rs css
  | [], _, _, _, h, _ => h
  | v :: vs, w, cur, o, h, hg => OwnRules.run ht vs _ _ (o + 1) (h.far hg ht v) (hg.set_ o v)
theorem OwnRules.snoc {w : World} {base : Nat} {rs : List Rl} {css : List (List Value)} {r : Rl} {tv : Value} (h : OwnRules w base rs css) (ho : w.ownsRow base 64 4 tv r.tests.length (tsR r.tests).flatten) : OwnRules w base (rs ++ [r]) (css ++ [[.int .i64 r.verdict, .int .i64 r.low, .int .i64 r.high, tv]]) := by
  refine ⟨by simp [h.1], fun i r' cs' h1 h2 => ?_⟩
  have hl := h.1
  by_cases hi : i < rs.length
  · rw [List.getElem?_append_left hi] at h1
    rw [List.getElem?_append_left (by omega)] at h2
    exact h.2 i r' cs' h1 h2
  · rw [List.getElem?_append_right (by omega)] at h1
    rw [List.getElem?_append_right (by omega), hl] at h2
    have e : i - rs.length = 0 := by have := (List.getElem?_eq_some_iff.1 h1).1; simp at this; omega
    rw [e] at h1 h2
    simp at h1 h2
    subst h1 h2
    exact ⟨tv, rfl, ho⟩
theorem OwnRules.are {w : World} {base : Nat} {rs : List Rl} {css : List (List Value)} (h : OwnRules w base rs css) : RulesAre w rs css :=
  ⟨h.1, fun i r cs h1 h2 => by obtain ⟨tv, e, ho⟩ := h.2 i r cs h1 h2; exact ⟨tv, e, SlA.of_own ho (tsR_len _) (tsR_rows _)⟩⟩
theorem OwnRules.rows {w : World} {base : Nat} {rs : List Rl} {css : List (List Value)} (h : OwnRules w base rs css) : ∀ c ∈ css, c.length = 4 := h.are.rows
theorem FilledTo.more {cur : Array Value} {size k : Nat} {cs : List (List Value)} (h : FilledTo cur size cs k) (hk : cs.length = k) (x : List Value) : FilledTo cur size (cs ++ [x]) k := fun j r hj hr => by
  rw [List.getElem?_append_left (by omega)] at hr
  exact h j r hj hr

/-- A policy that lies in rows of its own. -/
def OwnPol (w : World) (base : Nat) (p : Pol) (v : Value) : Prop := ∃ rv css, v = .agg #[rv, .int .i64 p.els] ∧ w.ownsRow base 61 4 rv p.rules.length css.flatten ∧ OwnRules w base p.rules css
theorem OwnPol.is {w : World} {base : Nat} {p : Pol} {v : Value} (h : OwnPol w base p v) : PolIs w p v := by
  obtain ⟨rv, css, rfl, ho, hr⟩ := h
  exact ⟨rv, css, rfl, SlA.of_own ho hr.1 hr.rows, hr.are⟩
theorem OwnPol.next {w w' : World} {base : Nat} {p : Pol} {v : Value} (h : OwnPol w base p v) (hb : Below w.heap.size w w') : OwnPol w' base p v := by
  obtain ⟨rv, css, rfl, ho, hr⟩ := h
  exact ⟨rv, css, rfl, own_below ho hb, hr.next hb⟩

set_option maxHeartbeats 2000000 in
theorem toRule_any (r : Rl) (tv : Value) (w : World) (hT : Sl w 4 tv (tsR r.tests)) (hn : r.tests.length ≤ 1048576) :
    Calls Tryz.prog 33 #[.agg #[.int .i64 r.verdict, .int .i64 r.low, .int .i64 r.high, tv]] w fun e w' =>
      ∃ A n c, e = .returned (.agg #[.int .i64 r.verdict, .int .i64 r.low, .int .i64 r.high, .slice A n c]) ∧ w'.ownsRow w.heap.size 64 4 (.slice A n c) r.tests.length (tsR r.tests).flatten ∧ Below w.heap.size w w' := by
  obtain ⟨vd, lo, hi, ts⟩ := r
  simp only at hT hn ⊢
  have HT := Lib.hid hT
  obtain ⟨A, n, c, rfl, hA⟩ := hT
  clear hA
  obtain ⟨V, hV⟩ : ∃ V, V = ((w.alloc (.cells #[.int .i64 vd, .int .i64 lo, .int .i64 hi, .slice A n c] 57)).alloc (.cells #[.int .i64 0, .int .i64 0, .int .i64 0, .slice none 0 0] 61)).alloc (.cells #[.int .i64 vd, .int .i64 lo, .int .i64 hi, .slice none 0 0] 61) := ⟨_, rfl⟩
  have hbV : Below w.heap.size w V := by rw [hV]; go_grown
  have hzV : V.heap.size = w.heap.size + 3 := by rw [hV]; simp
  have B1 : Blk V (w.heap.size + 1) 61 #[.int .i64 0, .int .i64 0, .int .i64 0, .slice none 0 0] := by
    rw [hV]
    have := (Blk.new (w.alloc (.cells #[.int .i64 vd, .int .i64 lo, .int .i64 hi, .slice A n c] 57)) 61 #[.int .i64 0, .int .i64 0, .int .i64 0, .slice none 0 0]).alloc (.cells #[.int .i64 vd, .int .i64 lo, .int .i64 hi, .slice none 0 0] 61)
    simpa using this
  have B2 : Blk V (w.heap.size + 1 + 1) 61 #[.int .i64 vd, .int .i64 lo, .int .i64 hi, .slice none 0 0] := by
    rw [hV]
    have := Blk.new ((w.alloc (.cells #[.int .i64 vd, .int .i64 lo, .int .i64 hi, .slice A n c] 57)).alloc (.cells #[.int .i64 0, .int .i64 0, .int .i64 0, .slice none 0 0] 61)) 61 #[.int .i64 vd, .int .i64 lo, .int .i64 hi, .slice none 0 0]
    simpa using this
  have HV := Lib.hid hV; have HB1 := Lib.hid B1; have HB2 := Lib.hid B2
  clear hV B1 B2
  go_enter Tryz.func33, Tryz.ntmps33
  go_wp2_with fail
  rw [← HV.out]
  refine (toTestS_own _ ts V (HT.out.below hbV) hn).mono ?_; rintro e w1 ⟨v1, rfl, ho, hb1⟩
  obtain ⟨A1, n1, c1, rfl, hS1⟩ := SlA.of_own ho (tsR_len _) (tsR_rows _)
  have R1 := HB1.out.below hb1 (by omega)
  have R2 := HB2.out.below hb1 (by omega)
  have hb2 := below_then hbV hb1
  have x0 := (show _ = some (Value.int .i64 vd) from R2.cell 0); have x1 := (show _ = some (Value.int .i64 lo) from R2.cell 1); have x2 := (show _ = some (Value.int .i64 hi) from R2.cell 2); have x3 := (show _ = some (Value.slice none 0 0) from R2.cell 3)
  have y0 := (show _ = some (Value.int .i64 0) from R1.cell 0); have y1 := (show _ = some (Value.int .i64 0) from R1.cell 1); have y2 := (show _ = some (Value.int .i64 0) from R1.cell 2); have y3 := (show _ = some (Value.slice none 0 0) from R1.cell 3)
  have f0 := R1.frozen 0; have f1 := R1.frozen 1; have f2 := R1.frozen 2; have f3 := R1.frozen 3; have f4 := R2.frozen 3
  have q1 := own_ne_int ho R1 (by decide)
  have q2 := own_ne_int ho R2 (by decide)
  have HO := Lib.hid (World.ownsRow.mono ho (show w.heap.size ≤ V.heap.size by omega)); have HQ1 := Lib.hid q1; have HQ2 := Lib.hid q2
  have S1 := R1.far (p := ⟨w.heap.size + 1 + 1, 3, none⟩) (by simp) (.slice A1 n1 c1)
  have S2 := S1.set_ 0 (.int .i64 vd)
  have S3 := S2.set_ 1 (.int .i64 lo)
  have S4 := S3.set_ 2 (.int .i64 hi)
  have S5 := S4.set_ 3 (.slice A1 n1 c1)
  have g0 := (show _ = some (Value.int .i64 vd) from S2.cell 0); have g1 := (show _ = some (Value.int .i64 lo) from S3.cell 1); have g2 := (show _ = some (Value.int .i64 hi) from S4.cell 2); have g3 := (show _ = some (Value.slice A1 n1 c1) from S5.cell 3)
  have o1 := ownsRow_setCell_other (a := ⟨w.heap.size + 1 + 1, 3, none⟩) HO.out HQ2.out (.slice A1 n1 c1)
  have o2 := ownsRow_setCell_other (a := ⟨w.heap.size + 1, 0, none⟩) o1 HQ1.out (.int .i64 vd)
  have o3 := ownsRow_setCell_other (a := ⟨w.heap.size + 1, 1, none⟩) o2 HQ1.out (.int .i64 lo)
  have o4 := ownsRow_setCell_other (a := ⟨w.heap.size + 1, 2, none⟩) o3 HQ1.out (.int .i64 hi)
  have HO5 := Lib.hid (ownsRow_setCell_other (a := ⟨w.heap.size + 1, 3, none⟩) o4 HQ1.out (.slice A1 n1 c1))
  clear hS1 ho q1 q2 R1 R2 S1 S2 S3 S4 S5 o1 o2 o3 o4
  go_wp2
  refine bodyPost_ret (v := .agg #[.int .i64 vd, .int .i64 lo, .int .i64 hi, .slice A1 n1 c1]) (by simp [results, Tryz.results33, go_sem, g0, g1, g2, g3]) rfl ?_
  refine ⟨A1, n1, c1, rfl, ?_, by go_grown⟩
  exact HO5.out

theorem info_Rule : (Tryz.prog.info? 61).map (fun i => (i.zero, i.size, i.bytes)) = some (some (.agg #[.int .i64 0, .int .i64 0, .int .i64 0, .slice none 0 0]), 4, 48) := by kernel_rfl

set_option maxHeartbeats 2000000 in
theorem toRuleS_own (v : Value) (rs : List Rl) (css : List (List Value)) (w : World) (hS : Sl w 4 v css) (hR : RulesAre w rs css) (hn : rs.length ≤ 1048576) (hT : sumT rs ≤ 1048576) :
    Calls Tryz.prog 17 #[v] w fun e w' => ∃ v' ds, e = .returned v' ∧ w'.ownsRow w.heap.size 61 4 v' rs.length ds.flatten ∧ OwnRules w' w.heap.size rs ds ∧ Below w.heap.size w w' := by
  obtain ⟨A, n, c, rfl, hA⟩ := hS
  have hl : rs.length = n := by rw [← hR.1]; exact hA.len
  have hc := hA.cap
  have hm := hA.max
  unfold maxLen at hm
  rw [hl] at hn
  have hmk := fun W => run_make_rowN (P := Tryz.prog) 31 61 _ 4 48 Tryz.underlying31 info_Rule .i64 n (by omega) (by omega) W
  have HL := Lib.hid hl; have HA := Lib.hid hA; have HR := Lib.hid hR; have HT := Lib.hid hT; clear hl hA hR hT
  go_enter Tryz.func17, Tryz.ntmps17
  go_wp2
  go_loopw [4] (fun i wr => ∃ (k : Nat) (cur : Array Value) (ds : List (List Value)), k ≤ n ∧ i = .int .i64 k ∧ Blk wr w.heap.size 61 cur ∧ cur.size = n * 4 ∧ Hid (FilledTo cur 4 ds k) ∧ Hid (OwnRules wr w.heap.size (rs.take k) ds) ∧ Below w.heap.size w wr) (fun i _ => n - (intOf i).toNat)
  case atStart => exact ⟨0, _, [], Nat.zero_le _, rfl, Blk.new _ _ _, by simp [size_madeCells], Lib.hid (FilledTo.zero _ _ _), Lib.hid (by simpa using OwnRules.nil _ _), by go_grown⟩
  case round =>
    obtain ⟨k, cur, ds, hk, rfl, hbk, hcs, HF, HW, hb⟩ := hrel
    have hsz := hb.size
    have hblt := hbk.lt
    by_cases hlt : k < n
    · obtain ⟨b, off, r, tv, rfl, hab, hgp, hsl, hcell⟩ := rules_get HA.out HR.out hlt
      obtain ⟨c0, c1, c2, c3⟩ := hcell wr _ hb hab
      have HTN := Lib.hid (Nat.le_trans (sumT_at hgp) HT.out)
      have HP := Lib.hid hgp; have HB := Lib.hid hbk; have HSL := Lib.hid (hsl.below hb); clear hgp hcell hbk hsl
      go_wp2_with (go_at_call 33; refine (toRule_any r tv _ HSL.out HTN.out).mono ?_; rintro e w1 ⟨A1, n1, c1', rfl, ho1, hb1⟩; have hbk1 := HB.out.below hb1 hblt; obtain ⟨x0, e0⟩ := hbk1.some_ (i := k * 4) (by omega); obtain ⟨x1, e1⟩ := hbk1.some_ (i := k * 4 + 1) (by omega); obtain ⟨x2, e2⟩ := hbk1.some_ (i := k * 4 + 2) (by omega); obtain ⟨x3, e3⟩ := hbk1.some_ (i := k * 4 + 3) (by omega); have f0 := hbk1.frozen (k * 4); have f1 := hbk1.frozen (k * 4 + 1); have f2 := hbk1.frozen (k * 4 + 2); have f3 := hbk1.frozen (k * 4 + 3); have HB1 := Lib.hid hbk1; have HO1 := Lib.hid ho1; clear hbk1 ho1)
      have hdl : ds.length = k := by rw [HW.out.1, List.length_take, HL.out]; omega
      have hW1 := (HW.out.next hb1).snoc (World.ownsRow.mono HO1.out hsz)
      have htk : rs.take k ++ [r] = rs.take (k + 1) := by rw [List.take_add_one, HP.out]; rfl
      rw [htk] at hW1
      refine ⟨⟨k + 1, setArr cur (k * 4) [.int .i64 r.verdict, .int .i64 r.low, .int .i64 r.high, .slice A1 n1 c1'], _, by omega, by go_num, HB1.out.run [.int .i64 r.verdict, .int .i64 r.low, .int .i64 r.high, .slice A1 n1 c1'] _ _ (k * 4), (setArr_size _ _ _).trans hcs, Lib.hid ((HF.out.more hdl _).next (by rw [List.getElem?_append_right (by omega), hdl]; simp) hW1.rows hcs hlt), Lib.hid (OwnRules.run (by decide) [.int .i64 r.verdict, .int .i64 r.low, .int .i64 r.high, .slice A1 n1 c1'] w1 cur (k * 4) hW1 HB1.out), ?_⟩, by simp [intOf]; omega⟩
      exact below_run (Nat.le_refl _) [.int .i64 r.verdict, .int .i64 r.low, .int .i64 r.high, .slice A1 n1 c1'] w1 _ (below_step hb hsz hb1)
    · obtain rfl : k = n := by omega
      have hWk := HW.out
      rw [List.take_of_length_le (by rw [HL.out]; omega)] at hWk
      have HWK := Lib.hid hWk; have HB := Lib.hid hbk; clear hWk hbk
      go_wp2
      go_ret
      refine ⟨_, ds, rfl, ?_, HWK.out, hb⟩
      rw [HL.out]
      exact own_of_filled HB.out (Nat.le_refl _) (by rw [HWK.out.1, HL.out]) HWK.out.rows hcs (by unfold maxLen; omega) HF.out

set_option maxHeartbeats 2000000 in
theorem toPolicy_own (p : Pol) (v : Value) (w : World) (hP : PolIs w p v) (hn : p.rules.length ≤ 1048576) (hT : sumT p.rules ≤ 1048576) :
    Calls Tryz.prog 6 #[v] w fun e w' => ∃ v', e = .returned v' ∧ OwnPol w' w.heap.size p v' ∧ Below w.heap.size w w' := by
  obtain ⟨rs, els⟩ := p
  obtain ⟨rv, css, rfl, hS, hR⟩ := hP
  simp only at hn hT hR ⊢
  have HS := Lib.hid hS; have HR := Lib.hid hR
  obtain ⟨A, n, c, rfl, hA⟩ := hS
  clear hA hR
  obtain ⟨V, hV⟩ : ∃ V, V = ((w.alloc (.cells #[.slice A n c, .int .i64 els] 24)).alloc (.cells #[.slice none 0 0, .int .i64 0] 33)).alloc (.cells #[.slice none 0 0, .int .i64 0] 33) := ⟨_, rfl⟩
  have hbV : Below w.heap.size w V := by rw [hV]; go_grown
  have hzV : V.heap.size = w.heap.size + 3 := by rw [hV]; simp
  have B0 : Blk V w.heap.size 24 #[.slice A n c, .int .i64 els] := by
    rw [hV]
    exact ((Blk.new w 24 #[.slice A n c, .int .i64 els]).alloc _).alloc _
  have B1 : Blk V (w.heap.size + 1) 33 #[.slice none 0 0, .int .i64 0] := by
    rw [hV]
    have := (Blk.new (w.alloc (.cells #[.slice A n c, .int .i64 els] 24)) 33 #[.slice none 0 0, .int .i64 0]).alloc (.cells #[.slice none 0 0, .int .i64 0] 33)
    simpa using this
  have B2 : Blk V (w.heap.size + 1 + 1) 33 #[.slice none 0 0, .int .i64 0] := by
    rw [hV]
    have := Blk.new ((w.alloc (.cells #[.slice A n c, .int .i64 els] 24)).alloc (.cells #[.slice none 0 0, .int .i64 0] 33)) 33 #[.slice none 0 0, .int .i64 0]
    simpa using this
  have HV := Lib.hid hV; have HB0 := Lib.hid B0; have HB1 := Lib.hid B1; have HB2 := Lib.hid B2
  clear hV B0 B1 B2
  go_enter Tryz.func6, Tryz.ntmps6
  go_wp2_with fail
  rw [← HV.out]
  refine (toRuleS_own _ rs css V (HS.out.below hbV) (HR.out.below hbV) hn hT).mono ?_; rintro e w1 ⟨v1, ds, rfl, ho, hr, hb1⟩
  obtain ⟨A1, n1, c1, rfl, hS1⟩ := SlA.of_own ho hr.1 hr.rows
  have R0 := HB0.out.below hb1 (by omega)
  have R1 := HB1.out.below hb1 (by omega)
  have R2 := HB2.out.below hb1 (by omega)
  have hb2 := below_then hbV hb1
  have z1 := (show _ = some (Value.int .i64 els) from R0.cell 1)
  have x0 := (show _ = some (Value.slice none 0 0) from R2.cell 0); have x1 := (show _ = some (Value.int .i64 0) from R2.cell 1)
  have y0 := (show _ = some (Value.slice none 0 0) from R1.cell 0); have y1 := (show _ = some (Value.int .i64 0) from R1.cell 1)
  have f0 := R1.frozen 0; have f1 := R1.frozen 1; have f2 := R2.frozen 0; have f3 := R2.frozen 1
  have HO := Lib.hid (World.ownsRow.mono ho (show w.heap.size ≤ V.heap.size by omega))
  have HOR := Lib.hid (show OwnRules w1 w.heap.size rs ds from ⟨hr.1, fun i r cs h1 h2 => by obtain ⟨tv, e, h⟩ := hr.2 i r cs h1 h2; exact ⟨tv, e, World.ownsRow.mono h (by omega)⟩⟩)
  have HR1 := Lib.hid R1; have HR2 := Lib.hid R2
  have S2 := ((R1.far (p := ⟨w.heap.size + 1 + 1, 0, none⟩) (by simp) (.slice A1 n1 c1)).far (p := ⟨w.heap.size + 1 + 1, 1, none⟩) (by simp) (.int .i64 els)).set_ 0 (.slice A1 n1 c1)
  have S3 := S2.set_ 1 (.int .i64 els)
  have g0 := (show _ = some (Value.slice A1 n1 c1) from S2.cell 0); have g1 := (show _ = some (Value.int .i64 els) from S3.cell 1)
  clear hS1 ho hr R0 R1 R2 S2 S3
  have key : ∀ {W : World} (i : Nat) (u : Value) (b : Nat) (t : TypeId) (cur : Array Value), t ≠ 64 → t ≠ 61 → Blk W b t cur → (W.ownsRow w.heap.size 61 4 (.slice A1 n1 c1) rs.length ds.flatten ∧ OwnRules W w.heap.size rs ds) → ((W.setCell ⟨b, i, none⟩ u).ownsRow w.heap.size 61 4 (.slice A1 n1 c1) rs.length ds.flatten ∧ OwnRules (W.setCell ⟨b, i, none⟩ u) w.heap.size rs ds) := fun i u b t cur t1 t2 hB h =>
    ⟨ownsRow_setCell_other (a := ⟨b, i, none⟩) h.1 (own_ne_int h.1 hB t2) u, h.2.far hB t1 u⟩
  have HK := Lib.hid (key (W := ((w1.setCell ⟨w.heap.size + 1 + 1, 0, none⟩ (.slice A1 n1 c1)).setCell ⟨w.heap.size + 1 + 1, 1, none⟩ (.int .i64 els)).setCell ⟨w.heap.size + 1, 0, none⟩ (.slice A1 n1 c1)) 1 (.int .i64 els) (w.heap.size + 1) _ _ (by decide) (by decide) (((HR1.out.far (p := ⟨w.heap.size + 1 + 1, 0, none⟩) (by simp) _).far (p := ⟨w.heap.size + 1 + 1, 1, none⟩) (by simp) _).set_ 0 _)
    (key 0 (.slice A1 n1 c1) (w.heap.size + 1) _ _ (by decide) (by decide) ((HR1.out.far (p := ⟨w.heap.size + 1 + 1, 0, none⟩) (by simp) _).far (p := ⟨w.heap.size + 1 + 1, 1, none⟩) (by simp) _)
      (key 1 (.int .i64 els) (w.heap.size + 1 + 1) _ _ (by decide) (by decide) (HR2.out.set_ 0 _) (key 0 (.slice A1 n1 c1) (w.heap.size + 1 + 1) _ _ (by decide) (by decide) HR2.out ⟨HO.out, HOR.out⟩))))
  clear key
  go_wp2
  refine bodyPost_ret (v := .agg #[.slice A1 n1 c1, .int .i64 els]) (by simp [results, Tryz.results6, go_sem, g0, g1]) rfl ?_
  exact ⟨_, rfl, ⟨_, ds, rfl, HK.out.1, HK.out.2⟩, by go_grown⟩
end Go.Proofs.YtkiacbfpnidjlaaGreatDoor

-- The laws' helpers on rules and policies that mark: markRuleS, markPolicy.
namespace Go.Proofs.YtkiacbfpnidjlaaGreatDoor
open Go.RowKit Go.Sort
set_option linter.unusedSimpArgs false
set_option linter.unusedVariables false

/-- What a policy's marks leave: what lies below, and all rows that lie above. -/
structure MkFr (lo hi : Nat) (w w' : World) : Prop where
  below : Below lo w w'
  own : ∀ (b : Nat) (e : TypeId) (s n : Nat) (v : Value) (xs : List Value), hi ≤ b → w.ownsRow b e s v n xs → w'.ownsRow b e s v n xs
theorem MkFr.refl (lo hi : Nat) (w : World) : MkFr lo hi w w := ⟨Below.refl _ _, fun _ _ _ _ _ _ _ h => h⟩
theorem MkFr.trans {lo hi : Nat} {a b c : World} (h : MkFr lo hi a b) (k : MkFr lo hi b c) : MkFr lo hi a c :=
  ⟨h.below.trans k.below, fun x e s n v xs hx ho => k.own x e s n v xs hx (h.own x e s n v xs hx ho)⟩
theorem MkFr.of_below {lo hi : Nat} {w w' : World} (h : Below w.heap.size w w') (hl : lo ≤ w.heap.size) : MkFr lo hi w w' := ⟨h.mono hl, fun x e s n v xs hx ho => own_below ho h⟩
theorem MkFr.cell {lo hi g i : Nat} {w : World} (h1 : lo ≤ g) (h2 : g < hi) (u : Value) : MkFr lo hi w (w.setCell ⟨g, i, none⟩ u) :=
  ⟨(Below.refl lo w).setCell (p := ⟨g, i, none⟩) h1 u, fun x e s n v xs hx ho => ownsRow_setCell_other (a := ⟨g, i, none⟩) ho (fun he => by have := (ho.lt _ he).1; simp only at this; omega) u⟩
theorem MkFr.row {lo hi n : Nat} {w w' : World} {e : TypeId} {size : Nat} {v : Value} {xs : List Value} (h : w.ownsRow lo e size v n xs) (hb : ∀ k, v.ownBlock = some k → k < hi) (hg : w.grownBy w' v.ownBlock) (hl : lo ≤ w.heap.size) : MkFr lo hi w w' :=
  ⟨own_grown_below h hg hl, fun x e' s n' v' xs' hx ho => ho.kept hg (by
    cases h9 : v'.ownBlock with
    | none => exact .inl rfl
    | some k =>
      refine .inr fun he => ?_
      have a := (ho.lt k h9).1
      have b := hb k he.symm
      omega)⟩

/-- A row of tests that may be marked. -/
def MarkRow (w : World) (lo hi : Nat) (v : Value) (n : Nat) : Prop := (∃ ys, w.ownsRow lo 64 4 v n ys) ∧ ∀ k, v.ownBlock = some k → k < hi
theorem MarkRow.next {w w' : World} {lo hi n : Nat} {v : Value} (h : MarkRow w lo hi v n) (hb : Below w.heap.size w w') : MarkRow w' lo hi v n := by
  obtain ⟨⟨ys, ho⟩, hk⟩ := h; exact ⟨⟨ys, own_below ho hb⟩, hk⟩
theorem MarkRow.far {w : World} {lo hi n g i : Nat} {v : Value} {t : TypeId} {cur : Array Value} (h : MarkRow w lo hi v n) (hg : Blk w g t cur) (ht : t ≠ 64) (u : Value) : MarkRow (w.setCell ⟨g, i, none⟩ u) lo hi v n := by
  obtain ⟨⟨ys, ho⟩, hk⟩ := h; exact ⟨⟨ys, ownsRow_setCell_other (a := ⟨g, i, none⟩) ho (own_ne_int ho hg ht) u⟩, hk⟩
theorem MarkRow.marked {w w' : World} {lo hi n n' : Nat} {v v' : Value} {ys ys' : List Value} (h : MarkRow w lo hi v n) (ho : w.ownsRow lo 64 4 v' n' ys) (ho' : w'.ownsRow lo 64 4 v' n' ys') (hg : w.grownBy w' v'.ownBlock) : MarkRow w' lo hi v n := by
  obtain ⟨⟨zs, hz⟩, hk⟩ := h
  by_cases hs : v.ownBlock = none ∨ v.ownBlock ≠ v'.ownBlock
  · exact ⟨⟨zs, hz.kept hg hs⟩, hk⟩
  · have h1 : v.ownBlock ≠ none := fun e => hs (.inl e)
    have h2 : v.ownBlock = v'.ownBlock := Decidable.byContradiction fun e => hs (.inr e)
    refine ⟨?_, hk⟩
    rcases hz.2 with ⟨rfl, _⟩ | ⟨g, cap, cur, rfl, hl, hh, hnc, hm, hsz, ht⟩
    · exact absurd rfl h1
    rcases ho.2 with ⟨rfl, _⟩ | ⟨g', cap', cur', rfl, _, hh', _, _, hsz', _⟩
    · simp [Value.ownBlock] at h2
    have hgg : g = g' := by simpa [Value.ownBlock] using h2
    subst hgg
    rw [hh] at hh'
    cases hh'
    rcases ho'.2 with ⟨e, _⟩ | ⟨g2, cap2, cur2, e, _, hh2, _, _, hsz2, _⟩
    · cases e
    cases e
    have hcap : cap = cap' := by omega
    subst hcap
    exact ⟨cur2.toList.take (n * 4), by rw [List.length_take, Array.length_toList]; have := Nat.mul_le_mul_right 4 hnc; omega, .inr ⟨g, cap, cur2, rfl, hl, hh2, hnc, hm, hsz2, rfl⟩⟩

theorem sumT_take (rs : List Rl) (k : Nat) : sumT (rs.take k) ≤ sumT rs := by
  have h := congrArg sumT (List.take_append_drop k rs)
  unfold sumT at *
  simp only [List.map_append, List.sum_append] at h
  omega

set_option maxRecDepth 100000 in
set_option maxHeartbeats 4000000 in
theorem markRuleS_own (lo hi : Nat) (v : Value) (rs : List Rl) (ys : List Value) (m : Int) (w : World) (h : w.ownsRow lo 61 4 v rs.length ys) (hv : ∀ k, v.ownBlock = some k → k < hi)
    (hy : ∀ (i : Nat) (r : Rl), rs[i]? = some r → ∃ tv, ys[i * 4 + 3]? = some tv ∧ MarkRow w lo hi tv r.tests.length) (hlo : lo ≤ w.heap.size) (hn : rs.length ≤ 1048576) (hT : sumT rs ≤ 1048576) (hm : 0 ≤ m) (hm2 : m ≤ 8388608) :
    Calls Tryz.prog 23 #[v, .int .i64 m] w fun e w' => ∃ z : Int, e = .returned (.int .i64 z) ∧ 0 ≤ z ∧ z ≤ m + 3 * rs.length + 4 * sumT rs ∧ MkFr lo hi w w' := by
  obtain ⟨n, hl⟩ : ∃ n, n = rs.length := ⟨_, rfl⟩
  rw [← hl] at h hn
  obtain ⟨A, c, rfl, hcn, hcm⟩ : ∃ A c, v = .slice A n c ∧ n ≤ c ∧ c ≤ maxLen := by
    rcases h.2 with ⟨rfl, h0⟩ | ⟨g, cap, cur, rfl, _, hg, hnc, hm, _, htake⟩
    · exact ⟨none, 0, by rw [h0], by omega, by simp⟩
    · exact ⟨_, _, rfl, hnc, hm⟩
  unfold maxLen at hcm
  have HL := Lib.hid hl; have HV := Lib.hid hv; have HT := Lib.hid hT; have HO := Lib.hid h; have HY := Lib.hid (fun (i : Nat) (r : Rl) (_ : 0 ≤ i) (hr : rs[i]? = some r) => hy i r hr)
  clear hl hv hT h hy
  go_enter Tryz.func23, Tryz.ntmps23
  go_wp2
  go_loopw [1, 5] (fun j i wr => ∃ (k : Nat) (z : Int) (zs : List Value), k ≤ n ∧ i = .int .i64 k ∧ j = .int .i64 z ∧ 0 ≤ z ∧ Hid (z = m + 3 * k + 4 * sumT (rs.take k)) ∧ Hid (wr.ownsRow lo 61 4 (.slice A n c) n zs) ∧ Hid (∀ (i : Nat) (r : Rl), k ≤ i → rs[i]? = some r → ∃ tv, zs[i * 4 + 3]? = some tv ∧ MarkRow wr lo hi tv r.tests.length) ∧ Hid (MkFr lo hi w wr)) (fun _ i _ => n - natOf i)
  case atStart => exact ⟨0, m, ys, Nat.zero_le _, rfl, rfl, hm, Lib.hid (by simp [sumT]), HO, HY, Lib.hid (MkFr.refl _ _ _)⟩
  case round =>
    obtain ⟨k, z, zs, hk, rfl, rfl, hz, hzz, HO, HY, HF⟩ := hrel
    by_cases hlt : k < n
    · obtain ⟨g, cap, hform, hlg, hgl⟩ := HO.out.form (by omega)
      obtain ⟨rfl, rfl⟩ : A = some ⟨g, 0, none⟩ ∧ c = cap := by simpa using hform
      obtain ⟨r, hr⟩ : ∃ r, rs[k]? = some r := ⟨_, List.getElem?_eq_getElem (by rw [← HL.out]; exact hlt)⟩
      obtain ⟨tv, htv, hmr⟩ := HY.out k r (Nat.le_refl _) hr
      have hzl := HO.out.1
      have hcl : ∀ j : Nat, j < n * 4 → ∃ u, wr.cell? ⟨g, j, none⟩ = some u := fun j hj => ⟨_, (HO.out.cellAt j hj).trans (List.getElem?_eq_getElem (by omega))⟩
      obtain ⟨u0, e0⟩ := hcl (k * 4) (by omega)
      obtain ⟨u1, e1⟩ := hcl (k * 4 + 1) (by omega)
      obtain ⟨u2, e2⟩ := hcl (k * 4 + 2) (by omega)
      have e3 := (HO.out.cellAt (k * 4 + 3) (by omega)).trans htv
      have f0 := HO.out.frozenAt (k * 4); have f1 := HO.out.frozenAt (k * 4 + 1); have f2 := HO.out.frozenAt (k * 4 + 2)
      obtain ⟨cur, hcur⟩ : ∃ cur, Blk wr g 61 cur := by
        rcases HO.out.2 with ⟨e, _⟩ | ⟨g2, cap2, cur2, e, _, hh2, _⟩
        · cases e
        · cases e; exact ⟨cur2, hh2⟩
      have hghi := HV.out g rfl
      have hs := sumT_succ hr
      have hsle := sumT_at hr
      have hst := sumT_take rs k
      obtain ⟨o1, -⟩ := HO.out.stored (k * 4) (.int .i64 z)
      obtain ⟨o2, -⟩ := o1.stored (k * 4 + 1) (.int .i64 (z + 1))
      obtain ⟨o3, -⟩ := o2.stored (k * 4 + 2) (.int .i64 (z + 1 + 1))
      have C1 := hcur.set_ (k * 4) (.int .i64 z)
      have C2 := C1.set_ (k * 4 + 1) (.int .i64 (z + 1))
      have hy3 : ∀ (i : Nat) (r : Rl), k ≤ i → rs[i]? = some r → ∃ tv, (((zs.set (k * 4) (.int .i64 z)).set (k * 4 + 1) (.int .i64 (z + 1))).set (k * 4 + 2) (.int .i64 (z + 1 + 1)))[i * 4 + 3]? = some tv ∧ MarkRow (((wr.setCell ⟨g, k * 4, none⟩ (.int .i64 z)).setCell ⟨g, k * 4 + 1, none⟩ (.int .i64 (z + 1))).setCell ⟨g, k * 4 + 2, none⟩ (.int .i64 (z + 1 + 1))) lo hi tv r.tests.length := fun i r hi' hr' => by
        obtain ⟨tv, ht, hm'⟩ := HY.out i r hi' hr'
        refine ⟨tv, ?_, ((hm'.far hcur (by decide) _).far C1 (by decide) _).far C2 (by decide) _⟩
        rw [List.getElem?_set_ne (by omega), List.getElem?_set_ne (by omega), List.getElem?_set_ne (by omega)]
        exact ht
      have F3 := HF.out.trans (((MkFr.cell (i := k * 4) hlg hghi (.int .i64 z)).trans (MkFr.cell (i := k * 4 + 1) hlg hghi (.int .i64 (z + 1)))).trans (MkFr.cell (i := k * 4 + 2) hlg hghi (.int .i64 (z + 1 + 1))))
      have hmr3 := ((hmr.far (i := k * 4) hcur (by decide) (.int .i64 z)).far (i := k * 4 + 1) C1 (by decide) (.int .i64 (z + 1))).far (i := k * 4 + 2) C2 (by decide) (.int .i64 (z + 1 + 1))
      obtain ⟨⟨ts, hts⟩, htb⟩ := hmr3
      have HO3 := Lib.hid o3; have HY3 := Lib.hid hy3; have HF3 := Lib.hid F3; have HTS := Lib.hid hts; have HTB := Lib.hid htb; have HS := Lib.hid hs
      have HB := Lib.hid (show r.tests.length ≤ 1048576 from Nat.le_trans hsle HT.out); have HST := Lib.hid (Nat.le_trans hst HT.out)
      have C3 := Lib.hid (C2.set_ (k * 4 + 2) (.int .i64 (z + 1 + 1)))
      have hzb : z ≤ 16777216 := by have := HST.out; have := hzz.out; omega
      clear hcl o1 o2 o3 hy3 F3 hmr hts htb hr htv hs hsle hst C1 C2 HO HY HF hcur
      go_wp2_with fail
      refine (markTestS_own lo tv ts r.tests.length (z + 1 + 1 + 1) _ (by exact HTS.out) HB.out (by omega) (by omega)).mono ?_; rintro e w4 ⟨rfl, hg4, ho4⟩
      have hgo : Value.ownBlock (.slice (some ⟨g, 0, none⟩) n c) ≠ tv.ownBlock := fun e => own_ne_int HTS.out C3.out (by decide) e.symm
      have O4 := Lib.hid (HO3.out.kept hg4 (.inr hgo))
      have Y4 := Lib.hid (show ∀ (i : Nat) (r : Rl), k + 1 ≤ i → rs[i]? = some r → ∃ tv, (((zs.set (k * 4) (.int .i64 z)).set (k * 4 + 1) (.int .i64 (z + 1))).set (k * 4 + 2) (.int .i64 (z + 1 + 1)))[i * 4 + 3]? = some tv ∧ MarkRow w4 lo hi tv r.tests.length from fun i r hi' hr' => by
        obtain ⟨tv9, q1, q2⟩ := HY3.out i r (by omega) hr'
        exact ⟨tv9, q1, q2.marked HTS.out ho4 hg4⟩)
      have F4 := Lib.hid (HF3.out.trans (MkFr.row HTS.out HTB.out hg4 (Nat.le_trans hlo HF3.out.below.size)))
      clear hg4 ho4 hgo
      go_wp2
      exact ⟨⟨k + 1, _, _, by omega, by go_num, rfl, by omega, Lib.hid (by have h1 := hzz.out; rw [HS.out]; omega), O4, Y4, F4⟩, by simp [natOf]; omega⟩
    · obtain rfl : k = n := by omega
      have hst := sumT_take rs k
      have hzt : z ≤ m + 3 * rs.length + 4 * sumT rs := by have := hzz.out; rw [← HL.out]; omega
      go_wp2
      go_ret
      exact ⟨z, rfl, hz, hzt, HF.out⟩

set_option maxHeartbeats 1000000 in
theorem markPolicy_gen (lo hi : Nat) (p : Pol) (v : Value) (m : Int) (W0 w : World) (h0 : OwnPol W0 lo p v) (hhi : W0.heap.size ≤ hi) (hown : ∀ (b : Nat) (e : TypeId) (s n : Nat) (v : Value) (xs : List Value), lo ≤ b → W0.ownsRow b e s v n xs → w.ownsRow b e s v n xs) (hlw : lo ≤ w.heap.size) (hn : p.rules.length ≤ 1048576) (hT : sumT p.rules ≤ 1048576) (hm : 0 ≤ m) (hm2 : m ≤ 8388608) :
    Calls Tryz.prog 10 #[v, .int .i64 m] w fun e w' => ∃ z : Int, e = .returned (.int .i64 z) ∧ 0 ≤ z ∧ z ≤ m + 3 * p.rules.length + 4 * sumT p.rules ∧ MkFr lo hi w w' := by
  obtain ⟨rv, css, rfl, ho, hr⟩ := h0
  have hb0 : Below w.heap.size w (w.alloc (.cells #[rv, .int .i64 p.els] 33)) := by go_grown
  have hzl : lo ≤ (w.alloc (.cells #[rv, .int .i64 p.els] 33)).heap.size := Nat.le_trans hlw hb0.size
  have HO := Lib.hid (own_below (hown _ _ _ _ _ _ (Nat.le_refl _) ho) hb0)
  have HV := Lib.hid (fun (k : Nat) (hk : rv.ownBlock = some k) => Nat.lt_of_lt_of_le (ho.lt k hk).2 hhi)
  have HY := Lib.hid (show ∀ (i : Nat) (r : Rl), p.rules[i]? = some r → ∃ tv, css.flatten[i * 4 + 3]? = some tv ∧ MarkRow (w.alloc (.cells #[rv, .int .i64 p.els] 33)) lo hi tv r.tests.length from fun i r hi' => by
    have hl := hr.1
    have hil := (List.getElem?_eq_some_iff.1 hi').1
    obtain ⟨tv, e, ht⟩ := hr.2 i r _ hi' (List.getElem?_eq_getElem (by omega))
    refine ⟨tv, ?_, ⟨_, own_below (hown _ _ _ _ _ _ (Nat.le_refl _) ht) hb0⟩, fun k hk => Nat.lt_of_lt_of_le (ht.lt k hk).2 hhi⟩
    exact flat_get css hr.rows i [.int .i64 r.verdict, .int .i64 r.low, .int .i64 r.high, tv] (by rw [List.getElem?_eq_getElem (by omega), e]) 3 tv rfl)
  obtain ⟨A, n, c, rfl, hS⟩ := SlA.of_own ho hr.1 hr.rows
  clear ho hr hS
  go_enter Tryz.func10, Tryz.ntmps10
  go_wp2_with fail
  refine (markRuleS_own lo hi _ p.rules css.flatten m _ HO.out HV.out HY.out hzl hn hT hm hm2).mono ?_; rintro e w2 ⟨z, rfl, hz, hz2, hf⟩
  have hf2 := (MkFr.of_below hb0 hlw).trans hf
  go_wp2
  go_ret
  exact ⟨z, rfl, hz, hz2, hf2⟩
set_option maxHeartbeats 1000000 in
theorem markPolicy_own (lo hi : Nat) (p : Pol) (v : Value) (W0 w : World) (h0 : OwnPol W0 lo p v) (hhi : W0.heap.size ≤ hi) (hb : Below W0.heap.size W0 w) (hlo : lo ≤ W0.heap.size) (hn : p.rules.length ≤ 1048576) (hT : sumT p.rules ≤ 1048576) :
    Calls Tryz.prog 10 #[v, .int .i64 1] w fun e w' => ∃ z : Int, e = .returned (.int .i64 z) ∧ 0 ≤ z ∧ MkFr lo hi w w' := by
  exact (markPolicy_gen lo hi p v 1 W0 w h0 hhi (fun _ _ _ _ _ _ _ h => own_below h hb) (Nat.le_trans hlo hb.size) hn hT (by omega) (by omega)).mono fun e w' ⟨z, e1, h1, _, h2⟩ => ⟨z, e1, h1, h2⟩
end Go.Proofs.YtkiacbfpnidjlaaGreatDoor
