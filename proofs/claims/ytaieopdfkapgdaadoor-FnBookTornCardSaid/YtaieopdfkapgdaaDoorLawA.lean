/- Joined texts: LawInts LawIns LawTest LawRule LawRuleM LawMark. -/
import Derived.Test.YtaieopdfkapgdaaDoorKit
import Derived.BigRegion
import Derived.Deep.OwnRows
import Derived.Test.YtaieopdfkapgdaaDoorTxt
import Derived.Test.YtaieopdfkapgdaaDoorMak
import Derived.Deep.Onto
import Derived.Test.YtaieopdfkapgdaaDoorBlkWrite
-- The laws' helpers on rows of ints: eqIntS, markIntS, heldIntS.
namespace Go.Proofs.YtaieopdfkapgdaaDoor
open Go.RowKit
set_option linter.unusedSimpArgs false
set_option linter.unusedVariables false

theorem intsGet {w : World} {A : Option Addr} {n c : Nat} {xs : List Int} (h : SlA w 1 A n c (ints xs)) {k : Nat} (hk : k < n) :
    ∃ b off x, A = some ⟨b, off, none⟩ ∧ b < w.heap.size ∧ xs[k]? = some x ∧ (∀ (w' : World) (B : Nat), Below B w w' → b < B → w'.cell? ⟨b, off + k, none⟩ = some (.int .i64 x)) := by
  have hl := h.len
  rw [ints_len] at hl
  obtain ⟨b, o, e, hb, hc⟩ := h.get hk
  have hk' : k < xs.length := by omega
  refine ⟨b, o, xs[k], e, hb, List.getElem?_eq_getElem hk', fun w' B hw hB => ?_⟩
  have hr : (ints xs)[k]? = some [.int .i64 xs[k]] := by simp [ints, hk']
  have f := hc _ hr 0 _ rfl
  rw [Nat.mul_one, Nat.add_zero] at f
  exact cellAt hw hB f

/-- Two lists are the same, up to a place. -/
def sameTo {α : Type} (g h : List α) (k : Nat) : Prop := ∀ j : Nat, j < k → g[j]? = h[j]?
theorem sameTo_zero {α : Type} (g h : List α) : sameTo g h 0 := fun j hj => absurd hj (by omega)
theorem sameTo_succ {α : Type} {g h : List α} {k : Nat} {p q : α} (h0 : sameTo g h k) (hg : g[k]? = some p) (hh : h[k]? = some q) (e : p = q) : sameTo g h (k + 1) := fun j hj => by
  by_cases hjk : j = k
  · subst hjk; rw [hg, hh, e]
  · exact h0 j (by omega)
theorem sameTo_all {α : Type} {g h : List α} {n : Nat} (h0 : sameTo g h n) (hg : g.length = n) (hh : h.length = n) : g = h := by
  apply List.ext_getElem?
  intro j
  by_cases hj : j < n
  · exact h0 j hj
  · rw [List.getElem?_eq_none (by omega), List.getElem?_eq_none (by omega)]

def intsEq (g h : List Int) : Bool := decide (g = h)
theorem intsEq_iff {g h : List Int} : intsEq g h = true ↔ g = h := by simp [intsEq]
theorem intsEq_of {g h : List Int} {b : Bool} (e : b = true ↔ g = h) : b = intsEq g h := by rw [Bool.eq_iff_iff, e, intsEq_iff]

def natOf : Value → Nat
  | .int _ n => n.toNat
  | _ => 0
theorem natOf_int (k : IntKind) (n : Int) : natOf (.int k n) = n.toNat := rfl

set_option maxHeartbeats 1000000 in
theorem eqIntS_any (u v : Value) (g h : List Int) (w : World) (hu : Sl w 1 u (ints g)) (hv : Sl w 1 v (ints h)) :
    Calls Tryd.prog 68 #[u, v] w fun e w' => e = .returned (.bool (intsEq g h)) ∧ Below w.heap.size w w' := by
  obtain ⟨A, n, c, rfl, hA⟩ := hu
  obtain ⟨A', n', c', rfl, hA'⟩ := hv
  have hl : g.length = n := by have := hA.len; rwa [ints_len] at this
  have hl' : h.length = n' := by have := hA'.len; rwa [ints_len] at this
  have hc := hA.cap
  have hm := hA.max
  have hc' := hA'.cap
  have hm' := hA'.max
  unfold maxLen at hm hm'
  have HL := Lib.hid hl; have HL' := Lib.hid hl'; clear hl hl'
  by_cases hn : n = n'
  · subst hn
    go_enter Tryd.func68, Tryd.ntmps68
    go_wp2
    go_loopw [5] (fun i wr => ∃ k : Nat, k ≤ n ∧ i = .int .i64 k ∧ sameTo g h k ∧ Below w.heap.size w wr) (fun i _ => n - natOf i)
    case atStart => exact ⟨0, Nat.zero_le _, rfl, sameTo_zero g h, Below.refl _ _⟩
    case round =>
      obtain ⟨k, hk, rfl, hto, hb⟩ := hrel
      have hsz := hb.size
      by_cases hlt : k < n
      · obtain ⟨b, off, p, rfl, hab, hgp, hcell⟩ := intsGet hA hlt
        obtain ⟨b', off', q, rfl, hab', hgq, hcell'⟩ := intsGet hA' hlt
        have c0 := hcell wr _ hb hab
        have d0 := hcell' wr _ hb hab'
        have HP := Lib.hid hgp; have HQ := Lib.hid hgq; clear hgp hcell hgq hcell'
        by_cases e : p = q
        · have hd : (p != q) = false := by simp [e]
          go_wp2
          go_region
          all_goals go_wp2
          all_goals exact ⟨⟨k + 1, by omega, by go_num, sameTo_succ hto HP.out HQ.out e, by go_grown⟩, by simp [natOf]; omega⟩
        · have hd : (p != q) = true := by simp [e]
          go_wp2
          go_region
          all_goals go_wp2
          all_goals
            go_ret
            refine ⟨ret_bool (intsEq_of ?_), by go_grown⟩
            simp only [Bool.false_eq_true, false_iff]
            intro e2
            have h1 := HP.out
            rw [e2, HQ.out] at h1
            exact e (Option.some.inj h1).symm
      · obtain rfl : k = n := by omega
        go_wp2
        go_ret
        exact ⟨ret_bool (intsEq_of (by simpa using sameTo_all hto HL.out HL'.out)), hb⟩
  · go_enter Tryd.func68, Tryd.ntmps68
    have hd : ((n : Int) != (n' : Int)) = true := by simp; omega
    go_wp2
    go_ret
    exact ⟨ret_bool (intsEq_of (by simp; intro e; rw [e] at HL; exact hn (HL.out.symm.trans HL'.out))), Below.refl _ _⟩

/-- What marks are set: m, m + 1, and so on. -/
def marks (m : Int) : Nat → List Int
  | 0 => []
  | n + 1 => m :: marks (m + 1) n
theorem marks_len : ∀ (n : Nat) (m : Int), (marks m n).length = n
  | 0, _ => rfl
  | n + 1, m => by simp [marks, marks_len n]
theorem marks_get : ∀ (n : Nat) (m : Int) (k : Nat), k < n → (marks m n)[k]? = some (m + k)
  | n + 1, m, 0, _ => by simp [marks]
  | n + 1, m, k + 1, h => by
    rw [marks, List.getElem?_cons_succ, marks_get n (m + 1) k (by omega)]
    congr 1; omega
theorem marks_snoc : ∀ (n : Nat) (m : Int), marks m (n + 1) = marks m n ++ [m + n]
  | 0, m => by simp [marks]
  | n + 1, m => by
    rw [marks, marks_snoc n (m + 1), marks]
    simp; omega

theorem Only.size {w w' : World} {r : Option Nat} (h : w.grownBy w' r) : w.heap.size ≤ w'.heap.size := h.size
/-- Marks fill a row step by step. -/
theorem marks_set {m : Int} {k : Nat} {xs : List Int} (hk : k < xs.length) :
    (ints (marks m k ++ xs.drop k)).flatten.set k (.int .i64 (m + k)) = (ints (marks m (k + 1) ++ xs.drop (k + 1))).flatten := by
  rw [ints_flat, ints_flat, marks_snoc, List.drop_eq_getElem_cons hk, List.map_append, List.set_append_right _ _ (by simp [marks_len])]
  simp only [List.map_cons, List.length_map, marks_len, Nat.sub_self, List.set_cons_zero, List.map_append, List.append_assoc, List.map_nil, List.cons_append, List.nil_append]

set_option maxHeartbeats 1000000 in
theorem markIntS_own (base : Nat) (v : Value) (xs : List Int) (n : Nat) (m : Int) (w : World) (hn : xs.length = n) (h : w.ownsRow base 3 1 v n (ints xs).flatten) (hn2 : n ≤ 2305843009213693952) (hm : -4611686018427387904 ≤ m) (hm2 : m ≤ 4611686018427387904) :
    Calls Tryd.prog 50 #[v, .int .i64 m] w fun e w' =>
      e = .returned (.int .i64 (m + n)) ∧ w.grownBy w' v.ownBlock ∧ w'.ownsRow base 3 1 v n (ints (marks m n)).flatten := by
  obtain ⟨A, n', c, rfl, hA⟩ := SlA.of_own h ((ints_len xs).trans hn) (ints_rows xs)
  obtain rfl : n = n' := by have := hA.len; rw [ints_len] at this; omega
  have hc := hA.cap
  have hmx := hA.max
  unfold maxLen at hmx
  have HL := Lib.hid hn; clear hn hA
  go_enter Tryd.func50, Tryd.ntmps50
  go_wp2
  go_loopw [1, 5] (fun j i wr => ∃ k : Nat, k ≤ n ∧ i = .int .i64 k ∧ j = .int .i64 (m + k) ∧ w.grownBy wr (Value.slice A n c).ownBlock ∧ wr.ownsRow base 3 1 (.slice A n c) n (ints (marks m k ++ xs.drop k)).flatten) (fun _ i _ => n - natOf i)
  case atStart => exact ⟨0, Nat.zero_le _, rfl, by simp, World.grownBy.refl _ _, by simpa [marks] using h⟩
  case round =>
    obtain ⟨k, hk, rfl, rfl, hg, ho⟩ := hrel
    by_cases hlt : k < n
    · obtain ⟨g, cap, hform, _, _⟩ := ho.form (by omega)
      obtain ⟨rfl, rfl⟩ : A = some ⟨g, 0, none⟩ ∧ c = cap := by simpa using hform
      obtain ⟨u, hu⟩ : ∃ u, wr.cell? ⟨g, k, none⟩ = some u := ⟨_, (ho.cellAt k (by omega)).trans (List.getElem?_eq_getElem (by rw [ho.1]; omega))⟩
      have hf := ho.frozenAt k
      obtain ⟨ho2, hg2⟩ := ho.stored k (.int .i64 (m + k))
      rw [marks_set (by rw [HL.out]; exact hlt)] at ho2
      have HO := Lib.hid ho; clear ho
      go_wp2
      exact ⟨⟨k + 1, by omega, by go_num, by go_num, hg.trans hg2, ho2⟩, by simp [natOf]; omega⟩
    · obtain rfl : k = n := by omega
      go_wp2
      go_ret
      refine ⟨rfl, hg, ?_⟩
      have hl := HL.out
      rwa [List.drop_of_length_le (by omega), List.append_nil] at ho

set_option maxHeartbeats 1000000 in
theorem heldIntS_marks (v : Value) (n : Nat) (m : Int) (w : World) (h : Sl w 1 v (ints (marks m n))) (hn2 : n ≤ 2305843009213693952) (hm : -4611686018427387904 ≤ m) (hm2 : m ≤ 4611686018427387904) :
    Calls Tryd.prog 53 #[v, .int .i64 m] w fun e w' => e = .returned (.int .i64 (m + n)) ∧ w = w' := by
  obtain ⟨A, n', c, rfl, hA⟩ := h
  obtain rfl : n = n' := by have := hA.len; rwa [ints_len, marks_len] at this
  have hc := hA.cap
  have hmx := hA.max
  unfold maxLen at hmx
  go_enter Tryd.func53, Tryd.ntmps53
  go_wp2
  go_loopw [1, 5] (fun j i wr => ∃ k : Nat, k ≤ n ∧ i = .int .i64 k ∧ j = .int .i64 (m + k) ∧ w = wr) (fun _ i _ => n - natOf i)
  case atStart => exact ⟨0, Nat.zero_le _, rfl, by simp, rfl⟩
  case round =>
    obtain ⟨k, hk, rfl, rfl, rfl⟩ := hrel
    by_cases hlt : k < n
    · obtain ⟨b, off, p, rfl, hab, hgp, hcell⟩ := intsGet hA hlt
      have c0 := hcell w _ (Below.refl _ _) hab
      rw [marks_get n m k hlt] at hgp
      obtain rfl := Option.some.inj hgp
      clear hcell
      go_wp2
      exact ⟨⟨k + 1, by omega, by go_num, by go_num, by first | trivial | rfl⟩, by simp [natOf]; omega⟩
    · obtain rfl : k = n := by omega
      go_wp2
      go_ret
      exact ⟨rfl, rfl⟩
end Go.Proofs.YtaieopdfkapgdaaDoor

-- The laws' helpers on programs: toIns, toInsS, szInsS, eqIns, eqInsS, markInsS, heldInsS.
namespace Go.Proofs.YtaieopdfkapgdaaDoor
open Go.RowKit Go.Sort
set_option linter.unusedSimpArgs false
set_option linter.unusedVariables false

/-- Marks as cells. -/
def marksV (m : Int) (n : Nat) : List Value := (marks m n).map (Value.int .i64)
theorem marksV_len (m : Int) (n : Nat) : (marksV m n).length = n := by simp [marksV, marks_len]
theorem marksV_get {m : Int} {n k : Nat} (h : k < n) : (marksV m n)[k]? = some (.int .i64 (m + k)) := by simp [marksV, marks_get n m k h]
theorem marksV_set {m : Int} {j : Nat} {ys : List Value} (hj : j < ys.length) (q : Int) (hq : q = m + j) : (marksV m j ++ ys.drop j).set j (.int .i64 q) = marksV m (j + 1) ++ ys.drop (j + 1) := by
  subst hq
  unfold marksV
  rw [marks_snoc, List.drop_eq_getElem_cons hj, List.map_append, List.set_append_right _ _ (by simp [marks_len])]
  simp only [List.map_cons, List.length_map, marks_len, Nat.sub_self, List.set_cons_zero, List.map_append, List.append_assoc, List.map_nil, List.cons_append, List.nil_append]

noncomputable def in4Eq (x y : In4) : Bool := @decide (x = y) (Classical.propDecidable _)
theorem in4Eq_iff {x y : In4} : in4Eq x y = true ↔ x = y := by simp [in4Eq]
theorem in4Eq_of {x y : In4} {b : Bool} (e : b = true ↔ x = y) : b = in4Eq x y := by rw [Bool.eq_iff_iff, e, in4Eq_iff]
theorem In4.iff {x y : In4} : x = y ↔ x.op = y.op ∧ x.k = y.k ∧ x.yes = y.yes ∧ x.no = y.no := by
  constructor
  · rintro rfl; exact ⟨rfl, rfl, rfl, rfl⟩
  · rintro ⟨a, b, c, d⟩; exact In4.ext' a b c d
noncomputable def codeEq (g h : List In4) : Bool := @decide (g = h) (Classical.propDecidable _)
theorem codeEq_iff {g h : List In4} : codeEq g h = true ↔ g = h := by simp [codeEq]
theorem codeEq_of {g h : List In4} {b : Bool} (e : b = true ↔ g = h) : b = codeEq g h := by rw [Bool.eq_iff_iff, e, codeEq_iff]

end Go.Proofs.YtaieopdfkapgdaaDoor

-- The laws' helpers on tests: szTestS, toTest, toTestS, eqTest, eqTestS (of one list), markTestS.
namespace Go.Proofs.YtaieopdfkapgdaaDoor
open Go.RowKit Go.Sort
set_option linter.unusedSimpArgs false
set_option linter.unusedVariables false

end Go.Proofs.YtaieopdfkapgdaaDoor

-- The laws' helpers on rules and policies that only read: szRule, szRuleS, szPolicy, eqRule, eqRuleS, eqPolicy (of one policy).
namespace Go.Proofs.YtaieopdfkapgdaaDoor
open Go.RowKit Go.Sort
set_option linter.unusedSimpArgs false
set_option linter.unusedVariables false

def sumT (rs : List Rl) : Nat := (rs.map fun r => r.tests.length).sum
theorem sumT_succ {rs : List Rl} {k : Nat} {r : Rl} (h : rs[k]? = some r) : sumT (rs.take (k + 1)) = sumT (rs.take k) + r.tests.length := by
  unfold sumT
  rw [List.take_add_one, h]
  simp
theorem sumT_at {rs : List Rl} {i : Nat} {r : Rl} (h : rs[i]? = some r) : r.tests.length ≤ sumT rs := by
  induction rs generalizing i with
  | nil => simp at h
  | cons a l ih =>
    cases i with
    | zero => simp at h; subst h; simp [sumT]
    | succ i => simp at h; have := ih h; simp [sumT] at *; omega

end Go.Proofs.YtaieopdfkapgdaaDoor

-- The laws' helpers on rules and policies that make new ones: toRule, toRuleS, toPolicy.
namespace Go.Proofs.YtaieopdfkapgdaaDoor
open Go.RowKit Go.Sort
set_option linter.unusedSimpArgs false
set_option linter.unusedVariables false

theorem FilledTo.more {cur : Array Value} {size k : Nat} {cs : List (List Value)} (h : FilledTo cur size cs k) (hk : cs.length = k) (x : List Value) : FilledTo cur size (cs ++ [x]) k := fun j r hj hr => by
  rw [List.getElem?_append_left (by omega)] at hr
  exact h j r hj hr

end Go.Proofs.YtaieopdfkapgdaaDoor

-- The laws' helpers on rules and policies that mark: markRuleS, markPolicy.
namespace Go.Proofs.YtaieopdfkapgdaaDoor
open Go.RowKit Go.Sort
set_option linter.unusedSimpArgs false
set_option linter.unusedVariables false

/-- What a policy's marks leave: what lies below, and all rows that lie above. -/
structure MkFr (lo hi : Nat) (w w' : World) : Prop where
  below : Below lo w w'
  own : ∀ (b : Nat) (e : TypeId) (s n : Nat) (v : Value) (xs : List Value), hi ≤ b → w.ownsRow b e s v n xs → w'.ownsRow b e s v n xs
theorem MkFr.refl (lo hi : Nat) (w : World) : MkFr lo hi w w := ⟨Below.refl _ _, fun _ _ _ _ _ _ _ h => h⟩
theorem MkFr.trans {lo hi : Nat} {a b c : World} (h : MkFr lo hi a b) (k : MkFr lo hi b c) : MkFr lo hi a c :=
  ⟨h.below.trans k.below, fun x e s n v xs hx ho => k.own x e s n v xs hx (h.own x e s n v xs hx ho)⟩
theorem MkFr.of_below {lo hi : Nat} {w w' : World} (h : Below w.heap.size w w') (hl : lo ≤ w.heap.size) : MkFr lo hi w w' := ⟨h.mono hl, fun x e s n v xs hx ho => own_below ho h⟩
theorem MkFr.cell {lo hi g i : Nat} {w : World} (h1 : lo ≤ g) (h2 : g < hi) (u : Value) : MkFr lo hi w (w.setCell ⟨g, i, none⟩ u) :=
  ⟨(Below.refl lo w).setCell (p := ⟨g, i, none⟩) h1 u, fun x e s n v xs hx ho => ownsRow_setCell_other (a := ⟨g, i, none⟩) ho (fun he => by have := (ho.lt _ he).1; simp only at this; omega) u⟩
theorem MkFr.row {lo hi n : Nat} {w w' : World} {e : TypeId} {size : Nat} {v : Value} {xs : List Value} (h : w.ownsRow lo e size v n xs) (hb : ∀ k, v.ownBlock = some k → k < hi) (hg : w.grownBy w' v.ownBlock) (hl : lo ≤ w.heap.size) : MkFr lo hi w w' :=
  ⟨own_grown_below h hg hl, fun x e' s n' v' xs' hx ho => ho.kept hg (by
    cases h9 : v'.ownBlock with
    | none => exact .inl rfl
    | some k =>
      refine .inr fun he => ?_
      have a := (ho.lt k h9).1
      have b := hb k he.symm
      omega)⟩

theorem sumT_take (rs : List Rl) (k : Nat) : sumT (rs.take k) ≤ sumT rs := by
  have h := congrArg sumT (List.take_append_drop k rs)
  unfold sumT at *
  simp only [List.map_append, List.sum_append] at h
  omega

end Go.Proofs.YtaieopdfkapgdaaDoor
