/- Joined texts: LawInts LawIns LawTest LawRule LawRuleM LawMark. -/
import Derived.Test.YtgdelnpielfhkaaGreatDoorKit
import Derived.BigRegion
import Derived.Deep.OwnRows
import Derived.Test.YtgdelnpielfhkaaGreatDoorTxt
import Derived.Test.YtgdelnpielfhkaaGreatDoorMak
import Derived.Deep.Onto
import Derived.Test.YtgdelnpielfhkaaGreatDoorBlkWrite
-- The laws' helpers on rows of ints: eqIntS, markIntS, heldIntS.
namespace Go.Proofs.YtgdelnpielfhkaaGreatDoor
open Go.RowKit
set_option linter.unusedSimpArgs false
set_option linter.unusedVariables false

theorem intsGet {w : World} {A : Option Addr} {n c : Nat} {xs : List Int} (h : SlA w 1 A n c (ints xs)) {k : Nat} (hk : k < n) :
    ∃ b off x, A = some ⟨b, off, none⟩ ∧ b < w.heap.size ∧ xs[k]? = some x ∧ (∀ (w' : World) (B : Nat), Below B w w' → b < B → w'.cell? ⟨b, off + k, none⟩ = some (.int .i64 x)) := by
  have hl := h.len
  rw [ints_len] at hl
  obtain ⟨b, o, e, hb, hc⟩ := h.get hk
  have hk' : k < xs.length := by omega
  refine ⟨b, o, xs[k], e, hb, List.getElem?_eq_getElem hk', fun w' B hw hB => ?_⟩
  have hr : (ints xs)[k]? = some [.int .i64 xs[k]] := by simp [ints, hk']
  have f := hc _ hr 0 _ rfl
  rw [Nat.mul_one, Nat.add_zero] at f
  exact cellAt hw hB f

/-- Two lists are the same, up to a place. -/
def sameTo {α : Type} (g h : List α) (k : Nat) : Prop := ∀ j : Nat, j < k → g[j]? = h[j]?
theorem sameTo_zero {α : Type} (g h : List α) : sameTo g h 0 := fun j hj => absurd hj (by omega)
theorem sameTo_succ {α : Type} {g h : List α} {k : Nat} {p q : α} (h0 : sameTo g h k) (hg : g[k]? = some p) (hh : h[k]? = some q) (e : p = q) : sameTo g h (k + 1) := fun j hj => by
  by_cases hjk : j = k
  · subst hjk; rw [hg, hh, e]
  · exact h0 j (by omega)
theorem sameTo_all {α : Type} {g h : List α} {n : Nat} (h0 : sameTo g h n) (hg : g.length = n) (hh : h.length = n) : g = h := by
  apply List.ext_getElem?
  intro j
  by_cases hj : j < n
  · exact h0 j hj
  · rw [List.getElem?_eq_none (by omega), List.getElem?_eq_none (by omega)]

def intsEq (g h : List Int) : Bool := decide (g = h)
theorem intsEq_iff {g h : List Int} : intsEq g h = true ↔ g = h := by simp [intsEq]
theorem intsEq_of {g h : List Int} {b : Bool} (e : b = true ↔ g = h) : b = intsEq g h := by rw [Bool.eq_iff_iff, e, intsEq_iff]

def natOf : Value → Nat
  | .int _ n => n.toNat
  | _ => 0
theorem natOf_int (k : IntKind) (n : Int) : natOf (.int k n) = n.toNat := rfl

/-- What marks are set: m, m + 1, and so on. -/
def marks (m : Int) : Nat → List Int
  | 0 => []
  | n + 1 => m :: marks (m + 1) n
theorem marks_len : ∀ (n : Nat) (m : Int), (marks m n).length = n
  | 0, _ => rfl
  | n + 1, m => by simp [marks, marks_len n]
theorem marks_get : ∀ (n : Nat) (m : Int) (k : Nat), k < n → (marks m n)[k]? = some (m + k)
  | n + 1, m, 0, _ => by simp [marks]
  | n + 1, m, k + 1, h => by
    rw [marks, List.getElem?_cons_succ, marks_get n (m + 1) k (by omega)]
    congr 1; omega
theorem marks_snoc : ∀ (n : Nat) (m : Int), marks m (n + 1) = marks m n ++ [m + n]
  | 0, m => by simp [marks]
  | n + 1, m => by
    rw [marks, marks_snoc n (m + 1), marks]
    simp; omega

theorem Only.size {w w' : World} {r : Option Nat} (h : w.grownBy w' r) : w.heap.size ≤ w'.heap.size := h.size
/-- Marks fill a row step by step. -/
theorem marks_set {m : Int} {k : Nat} {xs : List Int} (hk : k < xs.length) :
    (ints (marks m k ++ xs.drop k)).flatten.set k (.int .i64 (m + k)) = (ints (marks m (k + 1) ++ xs.drop (k + 1))).flatten := by
  rw [ints_flat, ints_flat, marks_snoc, List.drop_eq_getElem_cons hk, List.map_append, List.set_append_right _ _ (by simp [marks_len])]
  simp only [List.map_cons, List.length_map, marks_len, Nat.sub_self, List.set_cons_zero, List.map_append, List.append_assoc, List.map_nil, List.cons_append, List.nil_append]

end Go.Proofs.YtgdelnpielfhkaaGreatDoor

-- The laws' helpers on programs: toIns, toInsS, szInsS, eqIns, eqInsS, markInsS, heldInsS.
namespace Go.Proofs.YtgdelnpielfhkaaGreatDoor
open Go.RowKit Go.Sort
set_option linter.unusedSimpArgs false
set_option linter.unusedVariables false

/-- Marks as cells. -/
def marksV (m : Int) (n : Nat) : List Value := (marks m n).map (Value.int .i64)
theorem marksV_len (m : Int) (n : Nat) : (marksV m n).length = n := by simp [marksV, marks_len]
theorem marksV_get {m : Int} {n k : Nat} (h : k < n) : (marksV m n)[k]? = some (.int .i64 (m + k)) := by simp [marksV, marks_get n m k h]
theorem marksV_set {m : Int} {j : Nat} {ys : List Value} (hj : j < ys.length) (q : Int) (hq : q = m + j) : (marksV m j ++ ys.drop j).set j (.int .i64 q) = marksV m (j + 1) ++ ys.drop (j + 1) := by
  subst hq
  unfold marksV
  rw [marks_snoc, List.drop_eq_getElem_cons hj, List.map_append, List.set_append_right _ _ (by simp [marks_len])]
  simp only [List.map_cons, List.length_map, marks_len, Nat.sub_self, List.set_cons_zero, List.map_append, List.append_assoc, List.map_nil, List.cons_append, List.nil_append]

noncomputable def in4Eq (x y : In4) : Bool := @decide (x = y) (Classical.propDecidable _)
theorem in4Eq_iff {x y : In4} : in4Eq x y = true ↔ x = y := by simp [in4Eq]
theorem in4Eq_of {x y : In4} {b : Bool} (e : b = true ↔ x = y) : b = in4Eq x y := by rw [Bool.eq_iff_iff, e, in4Eq_iff]
theorem In4.iff {x y : In4} : x = y ↔ x.op = y.op ∧ x.k = y.k ∧ x.yes = y.yes ∧ x.no = y.no := by
  constructor
  · rintro rfl; exact ⟨rfl, rfl, rfl, rfl⟩
  · rintro ⟨a, b, c, d⟩; exact In4.ext' a b c d
noncomputable def codeEq (g h : List In4) : Bool := @decide (g = h) (Classical.propDecidable _)
theorem codeEq_iff {g h : List In4} : codeEq g h = true ↔ g = h := by simp [codeEq]
theorem codeEq_of {g h : List In4} {b : Bool} (e : b = true ↔ g = h) : b = codeEq g h := by rw [Bool.eq_iff_iff, e, codeEq_iff]

end Go.Proofs.YtgdelnpielfhkaaGreatDoor

-- The laws' helpers on tests: szTestS, toTest, toTestS, eqTest, eqTestS (of one list), markTestS.
namespace Go.Proofs.YtgdelnpielfhkaaGreatDoor
open Go.RowKit Go.Sort
set_option linter.unusedSimpArgs false
set_option linter.unusedVariables false

theorem info_Test : (Tryz.prog.info? 47).map (fun i => (i.zero, i.size, i.bytes)) = some (some (.agg #[.int .i64 0, .int .i64 0, .int .i64 0, .int .i64 0]), 4, 32) := by kernel_rfl

end Go.Proofs.YtgdelnpielfhkaaGreatDoor

-- The laws' helpers on rules and policies that only read: szRule, szRuleS, szPolicy, eqRule, eqRuleS, eqPolicy (of one policy).
namespace Go.Proofs.YtgdelnpielfhkaaGreatDoor
open Go.RowKit Go.Sort
set_option linter.unusedSimpArgs false
set_option linter.unusedVariables false

def sumT (rs : List Rl) : Nat := (rs.map fun r => r.tests.length).sum
theorem sumT_succ {rs : List Rl} {k : Nat} {r : Rl} (h : rs[k]? = some r) : sumT (rs.take (k + 1)) = sumT (rs.take k) + r.tests.length := by
  unfold sumT
  rw [List.take_add_one, h]
  simp
theorem sumT_at {rs : List Rl} {i : Nat} {r : Rl} (h : rs[i]? = some r) : r.tests.length ≤ sumT rs := by
  induction rs generalizing i with
  | nil => simp at h
  | cons a l ih =>
    cases i with
    | zero => simp at h; subst h; simp [sumT]
    | succ i => simp at h; have := ih h; simp [sumT] at *; omega

end Go.Proofs.YtgdelnpielfhkaaGreatDoor

-- The laws' helpers on rules and policies that make new ones: toRule, toRuleS, toPolicy.
namespace Go.Proofs.YtgdelnpielfhkaaGreatDoor
open Go.RowKit Go.Sort
set_option linter.unusedSimpArgs false
set_option linter.unusedVariables false

/-- Rules whose tests lie in rows of their own. -/
def OwnRules (w : World) (base : Nat) (rs : List Rl) (css : List (List Value)) : Prop := css.length = rs.length ∧ ∀ (i : Nat) (r : Rl) (cs : List Value), rs[i]? = some r → css[i]? = some cs → ∃ tv, cs = [.int .i64 r.verdict, .int .i64 r.low, .int .i64 r.high, tv] ∧ w.ownsRow base 47 4 tv r.tests.length (tsR r.tests).flatten
theorem OwnRules.nil (w : World) (base : Nat) : OwnRules w base [] [] := ⟨rfl, fun i r cs h => by simp at h⟩
theorem OwnRules.next {w w' : World} {base : Nat} {rs : List Rl} {css : List (List Value)} (h : OwnRules w base rs css) (hb : Below w.heap.size w w') : OwnRules w' base rs css :=
  ⟨h.1, fun i r cs h1 h2 => by obtain ⟨tv, e, ho⟩ := h.2 i r cs h1 h2; exact ⟨tv, e, own_below ho hb⟩⟩
theorem OwnRules.far {w : World} {base : Nat} {rs : List Rl} {css : List (List Value)} (h : OwnRules w base rs css) {g i : Nat} {t : TypeId} {cur : Array Value} (hg : Blk w g t cur) (ht : t ≠ 47) (u : Value) : OwnRules (w.setCell ⟨g, i, none⟩ u) base rs css :=
  ⟨h.1, fun j r cs h1 h2 => by obtain ⟨tv, e, ho⟩ := h.2 j r cs h1 h2; exact ⟨tv, e, ownsRow_setCell_other (a := ⟨g, i, none⟩) ho (own_ne_int ho hg ht) u⟩⟩
theorem OwnRules.run {base g : Nat} {rs : List Rl} {css : List (List Value)} {t : TypeId} (ht : t ≠ 47) : ∀ (vs : List Value) (w : World) (cur : Array Value) (o : Nat), OwnRules w base rs css → Blk w g t cur → OwnRules (setRun w g o vs) base rs css
  | [], _, _, _, h, _ => h
  | v :: vs, w, cur, o, h, hg => OwnRules.run ht vs _ _ (o + 1) (h.far hg ht v) (hg.set_ o v)
theorem OwnRules.snoc {w : World} {base : Nat} {rs : List Rl} {css : List (List Value)} {r : Rl} {tv : Value} (h : OwnRules w base rs css) (ho : w.ownsRow base 47 4 tv r.tests.length (tsR r.tests).flatten) : OwnRules w base (rs ++ [r]) (css ++ [[.int .i64 r.verdict, .int .i64 r.low, .int .i64 r.high, tv]]) := by
  refine ⟨by simp [h.1], fun i r' cs' h1 h2 => ?_⟩
  have hl := h.1
  by_cases hi : i < rs.length
  · rw [List.getElem?_append_left hi] at h1
    rw [List.getElem?_append_left (by omega)] at h2
    exact h.2 i r' cs' h1 h2
  · rw [List.getElem?_append_right (by omega)] at h1
    rw [List.getElem?_append_right (by omega), hl] at h2
    have e : i - rs.length = 0 := by have := (List.getElem?_eq_some_iff.1 h1).1; simp at this; omega
    rw [e] at h1 h2
    simp at h1 h2
    subst h1 h2
    exact ⟨tv, rfl, ho⟩
theorem OwnRules.are {w : World} {base : Nat} {rs : List Rl} {css : List (List Value)} (h : OwnRules w base rs css) : RulesAre w rs css :=
  ⟨h.1, fun i r cs h1 h2 => by obtain ⟨tv, e, ho⟩ := h.2 i r cs h1 h2; exact ⟨tv, e, SlA.of_own ho (tsR_len _) (tsR_rows _)⟩⟩
theorem OwnRules.rows {w : World} {base : Nat} {rs : List Rl} {css : List (List Value)} (h : OwnRules w base rs css) : ∀ c ∈ css, c.length = 4 := h.are.rows
theorem FilledTo.more {cur : Array Value} {size k : Nat} {cs : List (List Value)} (h : FilledTo cur size cs k) (hk : cs.length = k) (x : List Value) : FilledTo cur size (cs ++ [x]) k := fun j r hj hr => by
  rw [List.getElem?_append_left (by omega)] at hr
  exact h j r hj hr

/-- A policy that lies in rows of its own. -/
def OwnPol (w : World) (base : Nat) (p : Pol) (v : Value) : Prop := ∃ rv css, v = .agg #[rv, .int .i64 p.els] ∧ w.ownsRow base 44 4 rv p.rules.length css.flatten ∧ OwnRules w base p.rules css
theorem OwnPol.is {w : World} {base : Nat} {p : Pol} {v : Value} (h : OwnPol w base p v) : PolIs w p v := by
  obtain ⟨rv, css, rfl, ho, hr⟩ := h
  exact ⟨rv, css, rfl, SlA.of_own ho hr.1 hr.rows, hr.are⟩
theorem OwnPol.next {w w' : World} {base : Nat} {p : Pol} {v : Value} (h : OwnPol w base p v) (hb : Below w.heap.size w w') : OwnPol w' base p v := by
  obtain ⟨rv, css, rfl, ho, hr⟩ := h
  exact ⟨rv, css, rfl, own_below ho hb, hr.next hb⟩

theorem info_Rule : (Tryz.prog.info? 44).map (fun i => (i.zero, i.size, i.bytes)) = some (some (.agg #[.int .i64 0, .int .i64 0, .int .i64 0, .slice none 0 0]), 4, 48) := by kernel_rfl

end Go.Proofs.YtgdelnpielfhkaaGreatDoor

-- The laws' helpers on rules and policies that mark: markRuleS, markPolicy.
namespace Go.Proofs.YtgdelnpielfhkaaGreatDoor
open Go.RowKit Go.Sort
set_option linter.unusedSimpArgs false
set_option linter.unusedVariables false

/-- What a policy's marks leave: what lies below, and all rows that lie above. -/
structure MkFr (lo hi : Nat) (w w' : World) : Prop where
  below : Below lo w w'
  own : ∀ (b : Nat) (e : TypeId) (s n : Nat) (v : Value) (xs : List Value), hi ≤ b → w.ownsRow b e s v n xs → w'.ownsRow b e s v n xs
theorem MkFr.refl (lo hi : Nat) (w : World) : MkFr lo hi w w := ⟨Below.refl _ _, fun _ _ _ _ _ _ _ h => h⟩
theorem MkFr.trans {lo hi : Nat} {a b c : World} (h : MkFr lo hi a b) (k : MkFr lo hi b c) : MkFr lo hi a c :=
  ⟨h.below.trans k.below, fun x e s n v xs hx ho => k.own x e s n v xs hx (h.own x e s n v xs hx ho)⟩
theorem MkFr.of_below {lo hi : Nat} {w w' : World} (h : Below w.heap.size w w') (hl : lo ≤ w.heap.size) : MkFr lo hi w w' := ⟨h.mono hl, fun x e s n v xs hx ho => own_below ho h⟩
theorem MkFr.cell {lo hi g i : Nat} {w : World} (h1 : lo ≤ g) (h2 : g < hi) (u : Value) : MkFr lo hi w (w.setCell ⟨g, i, none⟩ u) :=
  ⟨(Below.refl lo w).setCell (p := ⟨g, i, none⟩) h1 u, fun x e s n v xs hx ho => ownsRow_setCell_other (a := ⟨g, i, none⟩) ho (fun he => by have := (ho.lt _ he).1; simp only at this; omega) u⟩
theorem MkFr.row {lo hi n : Nat} {w w' : World} {e : TypeId} {size : Nat} {v : Value} {xs : List Value} (h : w.ownsRow lo e size v n xs) (hb : ∀ k, v.ownBlock = some k → k < hi) (hg : w.grownBy w' v.ownBlock) (hl : lo ≤ w.heap.size) : MkFr lo hi w w' :=
  ⟨own_grown_below h hg hl, fun x e' s n' v' xs' hx ho => ho.kept hg (by
    cases h9 : v'.ownBlock with
    | none => exact .inl rfl
    | some k =>
      refine .inr fun he => ?_
      have a := (ho.lt k h9).1
      have b := hb k he.symm
      omega)⟩

/-- A row of tests that may be marked. -/
def MarkRow (w : World) (lo hi : Nat) (v : Value) (n : Nat) : Prop := (∃ ys, w.ownsRow lo 47 4 v n ys) ∧ ∀ k, v.ownBlock = some k → k < hi
theorem MarkRow.next {w w' : World} {lo hi n : Nat} {v : Value} (h : MarkRow w lo hi v n) (hb : Below w.heap.size w w') : MarkRow w' lo hi v n := by
  obtain ⟨⟨ys, ho⟩, hk⟩ := h; exact ⟨⟨ys, own_below ho hb⟩, hk⟩
theorem MarkRow.far {w : World} {lo hi n g i : Nat} {v : Value} {t : TypeId} {cur : Array Value} (h : MarkRow w lo hi v n) (hg : Blk w g t cur) (ht : t ≠ 47) (u : Value) : MarkRow (w.setCell ⟨g, i, none⟩ u) lo hi v n := by
  obtain ⟨⟨ys, ho⟩, hk⟩ := h; exact ⟨⟨ys, ownsRow_setCell_other (a := ⟨g, i, none⟩) ho (own_ne_int ho hg ht) u⟩, hk⟩
theorem MarkRow.marked {w w' : World} {lo hi n n' : Nat} {v v' : Value} {ys ys' : List Value} (h : MarkRow w lo hi v n) (ho : w.ownsRow lo 47 4 v' n' ys) (ho' : w'.ownsRow lo 47 4 v' n' ys') (hg : w.grownBy w' v'.ownBlock) : MarkRow w' lo hi v n := by
  obtain ⟨⟨zs, hz⟩, hk⟩ := h
  by_cases hs : v.ownBlock = none ∨ v.ownBlock ≠ v'.ownBlock
  · exact ⟨⟨zs, hz.kept hg hs⟩, hk⟩
  · have h1 : v.ownBlock ≠ none := fun e => hs (.inl e)
    have h2 : v.ownBlock = v'.ownBlock := Decidable.byContradiction fun e => hs (.inr e)
    refine ⟨?_, hk⟩
    rcases hz.2 with ⟨rfl, _⟩ | ⟨g, cap, cur, rfl, hl, hh, hnc, hm, hsz, ht⟩
    · exact absurd rfl h1
    rcases ho.2 with ⟨rfl, _⟩ | ⟨g', cap', cur', rfl, _, hh', _, _, hsz', _⟩
    · simp [Value.ownBlock] at h2
    have hgg : g = g' := by simpa [Value.ownBlock] using h2
    subst hgg
    rw [hh] at hh'
    cases hh'
    rcases ho'.2 with ⟨e, _⟩ | ⟨g2, cap2, cur2, e, _, hh2, _, _, hsz2, _⟩
    · cases e
    cases e
    have hcap : cap = cap' := by omega
    subst hcap
    exact ⟨cur2.toList.take (n * 4), by rw [List.length_take, Array.length_toList]; have := Nat.mul_le_mul_right 4 hnc; omega, .inr ⟨g, cap, cur2, rfl, hl, hh2, hnc, hm, hsz2, rfl⟩⟩

theorem sumT_take (rs : List Rl) (k : Nat) : sumT (rs.take k) ≤ sumT rs := by
  have h := congrArg sumT (List.take_append_drop k rs)
  unfold sumT at *
  simp only [List.map_append, List.sum_append] at h
  omega

end Go.Proofs.YtgdelnpielfhkaaGreatDoor
