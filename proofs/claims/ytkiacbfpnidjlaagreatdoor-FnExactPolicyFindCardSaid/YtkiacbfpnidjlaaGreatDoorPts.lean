/- Joined texts: Point GraphOk LayP Lay. -/
import Derived.Test.YtkiacbfpnidjlaaGreatDoorKit
import Derived.Test.YtkiacbfpnidjlaaGreatDoorTxt
import Derived.BigRegion
-- Points of graphs: their cells; whether a point is ok (both programs'); toPoint, eqPoint.
namespace Go.Proofs.YtkiacbfpnidjlaaGreatDoor
open Go.RowKit
set_option linter.unusedSimpArgs false
set_option linter.unusedVariables false

structure Pt where
  verdict : Int
  field : Int
  mask : Int
  op : Int
  value : Int
  yes : Int
  no : Int

/-- Two points are the same, field by field. -/
noncomputable def ptEq (p q : Pt) : Bool := @decide (p = q) (Classical.propDecidable _)
theorem ptEq_iff {p q : Pt} : ptEq p q = true ↔ p = q := by simp [ptEq]
theorem ptEq_of {p q : Pt} {b : Bool} (h : b = true ↔ p = q) : b = ptEq p q := by rw [Bool.eq_iff_iff, h, ptEq_iff]
theorem Pt.ext_iff' {p q : Pt} : p = q ↔ p.verdict = q.verdict ∧ p.field = q.field ∧ p.mask = q.mask ∧ p.op = q.op ∧ p.value = q.value ∧ p.yes = q.yes ∧ p.no = q.no := by
  cases p; cases q; simp

def Pt.cells (p : Pt) : List Value := [.int .i64 p.verdict, .int .i64 p.field, .int .i64 p.mask, .int .i64 p.op, .int .i64 p.value, .int .i64 p.yes, .int .i64 p.no]
theorem Pt.rows (g : List Pt) : ∀ r ∈ g.map Pt.cells, r.length = 7 := by simp [Pt.cells]

/-- What an element's cells hold, in every world that is as this one below. -/
def PtAt (w : World) (b o : Nat) (p : Pt) : Prop :=
  ∀ (w' : World) (B : Nat), Below B w w' → b < B → w'.cell? ⟨b, o, none⟩ = some (.int .i64 p.verdict) ∧ w'.cell? ⟨b, o + 1, none⟩ = some (.int .i64 p.field) ∧ w'.cell? ⟨b, o + 2, none⟩ = some (.int .i64 p.mask)
     ∧ w'.cell? ⟨b, o + 3, none⟩ = some (.int .i64 p.op) ∧ w'.cell? ⟨b, o + 4, none⟩ = some (.int .i64 p.value) ∧ w'.cell? ⟨b, o + 5, none⟩ = some (.int .i64 p.yes) ∧ w'.cell? ⟨b, o + 6, none⟩ = some (.int .i64 p.no)

theorem pts_get {w : World} {A : Option Addr} {n c : Nat} {g : List Pt} (h : SlA w 7 A n c (g.map Pt.cells)) {k : Nat} (hk : k < n) :
    ∃ b off p, A = some ⟨b, off, none⟩ ∧ b < w.heap.size ∧ g[k]? = some p ∧ PtAt w b (off + k * 7) p := by
  have hl := h.len
  rw [List.length_map] at hl
  obtain ⟨b, o, e, hb, hc⟩ := h.get hk
  have hk' : k < g.length := by omega
  refine ⟨b, o, g[k], e, hb, List.getElem?_eq_getElem hk', fun w' B hw hB => ?_⟩
  have hr : (g.map Pt.cells)[k]? = some (g[k].cells) := by simp [hk']
  have f := hc _ hr
  exact ⟨cellAt hw hB (f 0 _ rfl), cellAt hw hB (f 1 _ rfl), cellAt hw hB (f 2 _ rfl), cellAt hw hB (f 3 _ rfl), cellAt hw hB (f 4 _ rfl), cellAt hw hB (f 5 _ rfl), cellAt hw hB (f 6 _ rfl)⟩

theorem verdictOk_any (n : Int) (w : World) :
    Calls Tryz.prog 57 #[.int .i64 n] w fun e w' => e = .returned (.bool (decide (1 ≤ n ∧ n ≤ 4))) ∧ w = w' := by
  go_enter Tryz.func57, Tryz.ntmps57
  go_wp2
  all_goals (go_ret; exact ⟨ret_bool (by simp; omega), rfl⟩)

theorem wordOk_any (n : Int) (w : World) :
    Calls Tryz.prog 49 #[.int .i64 n] w fun e w' => e = .returned (.bool (decide (0 ≤ n ∧ n ≤ 4294967295))) ∧ w = w' := by
  go_enter Tryz.func49, Tryz.ntmps49
  go_wp2
  all_goals (go_ret; exact ⟨ret_bool (by simp; omega), rfl⟩)

/-- A point that is ok at its place. -/
def ptOk (p : Pt) (place : Int) : Prop :=
  (p.op = 0 ∧ (1 ≤ p.verdict ∧ p.verdict ≤ 4) ∧ p.field = 0 ∧ p.mask = 0 ∧ p.value = 0 ∧ p.yes = 0 ∧ p.no = 0) ∨
  ((p.op = 1 ∨ p.op = 3) ∧ p.verdict = 0 ∧ (0 ≤ p.field ∧ p.field ≤ 4) ∧ (1 ≤ p.mask ∧ p.mask ≤ 4294967295) ∧ (0 ≤ p.value ∧ p.value ≤ 4294967295) ∧ (0 ≤ p.yes ∧ p.yes < place) ∧ (0 ≤ p.no ∧ p.no < place))
noncomputable def ptOkB (p : Pt) (place : Int) : Bool := @decide (ptOk p place) (Classical.propDecidable _)
theorem ptOkB_of {p : Pt} {place : Int} {b : Bool} (h : b = true ↔ ptOk p place) : b = ptOkB p place := by
  unfold ptOkB
  rw [Bool.eq_iff_iff, h]; simp
theorem ptOkB_iff {p : Pt} {place : Int} : ptOkB p place = true ↔ ptOk p place := by simp [ptOkB]

end Go.Proofs.YtkiacbfpnidjlaaGreatDoor

-- impl.GraphOk and spec.GraphOk: both say whether points are a graph.
namespace Go.Proofs.YtkiacbfpnidjlaaGreatDoor
open Go.RowKit
set_option linter.unusedSimpArgs false
set_option linter.unusedVariables false

def graphOk (g : List Pt) : Prop := (1 ≤ g.length ∧ g.length ≤ 120) ∧ ∀ (k : Nat) (p : Pt), g[k]? = some p → ptOk p k
noncomputable def graphOkB (g : List Pt) : Bool := @decide (graphOk g) (Classical.propDecidable _)
theorem graphOkB_of {g : List Pt} {b : Bool} (h : b = true ↔ graphOk g) : b = graphOkB g := by
  unfold graphOkB
  rw [Bool.eq_iff_iff, h]; simp
theorem graphOkB_iff {g : List Pt} : graphOkB g = true ↔ graphOk g := by simp [graphOkB]

def okTo (g : List Pt) (k : Nat) : Prop := ∀ (j : Nat) (p : Pt), j < k → g[j]? = some p → ptOk p j
theorem okTo_zero (g : List Pt) : okTo g 0 := fun _ _ h => absurd h (by omega)
theorem okTo_succ {g : List Pt} {k : Nat} {p : Pt} (h : okTo g k) (hp : g[k]? = some p) (ho : ptOk p k) : okTo g (k + 1) := fun j q hj hq => by
  by_cases e : j = k
  · subst e; rw [hp] at hq; cases hq; exact ho
  · exact h j q (by omega) hq
theorem graphOk_of_to {g : List Pt} {k : Nat} (h : okTo g k) (hk : g.length ≤ k) (hl : 1 ≤ g.length ∧ g.length ≤ 120) : graphOk g :=
  ⟨hl, fun j p hj => h j p (by have := (List.getElem?_eq_some_iff.1 hj).1; omega) hj⟩
theorem not_graphOk {g : List Pt} {k : Nat} {p : Pt} (hp : g[k]? = some p) (ho : ¬ ptOk p k) : ¬ graphOk g := fun h => ho (h.2 k p hp)

end Go.Proofs.YtkiacbfpnidjlaaGreatDoor

-- How a graph is laid as a program: plain words; no Go function is walked here.
namespace Go.Proofs.YtkiacbfpnidjlaaGreatDoor
open Go.RowKit
set_option linter.unusedSimpArgs false
set_option linter.unusedVariables false

def tailSum (f : Nat → Nat) (n k : Nat) : Nat := ((List.range' k (n - k)).map f).sum
theorem tailSum_end (f : Nat → Nat) (n : Nat) : tailSum f n n = 0 := by simp [tailSum]
theorem tailSum_step {f : Nat → Nat} {n k : Nat} (h : k < n) : tailSum f n k = f k + tailSum f n (k + 1) := by
  unfold tailSum
  rw [show n - k = (n - (k + 1)) + 1 by omega, List.range'_succ]
  simp
theorem tailSum_le {f : Nat → Nat} {b : Nat} (hf : ∀ i, f i ≤ b) (n : Nat) : ∀ m k, n - k = m → tailSum f n k ≤ b * m
  | 0, k, h => by
    have : n - k = 0 := h
    simp [tailSum, this]
  | m + 1, k, h => by
    rw [tailSum_step (by omega)]
    have h1 := tailSum_le hf n m (k + 1) (by omega)
    have h2 := hf k
    rw [Nat.mul_succ]
    omega

/-- How many places a point takes. -/
def szAt (g : List Pt) (ys ns : List Bool) (i : Nat) : Nat :=
  match g[i]? with
  | none => 0
  | some p => if p.op = 0 then 1 else 2 + (if p.mask = 4294967295 then 0 else 1) + ((ys[i]?).getD false).toNat + ((ns[i]?).getD false).toNat
theorem szAt_le (g : List Pt) (ys ns : List Bool) (i : Nat) : szAt g ys ns i ≤ 5 := by
  unfold szAt
  have h1 : ((ys[i]?).getD false).toNat ≤ 1 := Bool.toNat_le _
  have h2 : ((ns[i]?).getD false).toNat ≤ 1 := Bool.toNat_le _
  split
  · omega
  · split
    · omega
    · split <;> omega
/-- Where a point's places begin. -/
def stAt (g : List Pt) (ys ns : List Bool) (i : Nat) : Nat := tailSum (szAt g ys ns) g.length (i + 1)
theorem stAt_le (g : List Pt) (ys ns : List Bool) (i : Nat) : stAt g ys ns i ≤ 5 * g.length :=
  Nat.le_trans (tailSum_le (szAt_le g ys ns) g.length _ (i + 1) rfl) (Nat.mul_le_mul_left _ (by omega))
def testAt (g : List Pt) (i : Nat) : Nat :=
  match g[i]? with
  | none => 0
  | some p => if p.mask = 4294967295 then 2 else 3
/-- Is a way farther than a look leads? -/
def farY (g : List Pt) (ys ns : List Bool) (i : Nat) : Bool :=
  match g[i]? with
  | none => false
  | some p => !decide (p.op = 0) && decide ((stAt g ys ns p.yes.toNat : Int) - (stAt g ys ns i + testAt g i) > 6)
def farN (g : List Pt) (ys ns : List Bool) (i : Nat) : Bool :=
  match g[i]? with
  | none => false
  | some p => !decide (p.op = 0) && decide ((stAt g ys ns p.no.toNat : Int) - (stAt g ys ns i + testAt g i) > 6)
def stepF (P : Nat → Bool) (l : List Bool) (k : Nat) : List Bool := l.mapIdx fun i b => if i < k then b || P i else b
theorem stepF_len (P : Nat → Bool) (l : List Bool) (k : Nat) : (stepF P l k).length = l.length := by simp [stepF]
theorem stepF_get (P : Nat → Bool) (l : List Bool) (k i : Nat) : (stepF P l k)[i]? = l[i]?.map fun b => if i < k then b || P i else b := by simp [stepF]
theorem stepF_zero (P : Nat → Bool) (l : List Bool) : stepF P l 0 = l := by
  apply List.ext_getElem?
  intro i
  rw [stepF_get]
  cases l[i]? <;> simp
theorem stepF_set {P : Nat → Bool} {l : List Bool} {k : Nat} {b : Bool} (h : l[k]? = some b) : stepF P l (k + 1) = (stepF P l k).set k (b || P k) := by
  apply List.ext_getElem?
  intro i
  have hk := (List.getElem?_eq_some_iff.1 h).1
  rw [stepF_get, List.getElem?_set, stepF_len, stepF_get]
  by_cases e : k = i
  · subst e
    rw [if_pos rfl, if_pos hk, h]
    simp
  · rw [if_neg e]
    have e2 : (i < k + 1) ↔ (i < k) := by omega
    simp only [e2]
theorem stepF_same {P : Nat → Bool} {l : List Bool} {k : Nat} {b : Bool} (h : l[k]? = some b) (hb : (b || P k) = b) : stepF P l (k + 1) = stepF P l k := by
  rw [stepF_set h, hb]
  apply List.ext_getElem?
  intro i
  rw [List.getElem?_set, stepF_len]
  by_cases e : k = i
  · subst e
    rw [if_pos rfl, if_pos (List.getElem?_eq_some_iff.1 h).1, stepF_get, h]
    simp
  · rw [if_neg e]
theorem stepF_at {P : Nat → Bool} {l : List Bool} {k : Nat} {b : Bool} (h : l[k]? = some b) : (stepF P l k)[k]? = some b := by rw [stepF_get, h]; simp
/-- How many ways are not far. -/
def nearN (l : List Bool) : Nat := l.count false
theorem nearN_le (l : List Bool) : nearN l ≤ l.length := List.count_le_length
theorem nearN_set {l : List Bool} {k : Nat} (h : l[k]? = some false) : nearN (l.set k true) + 1 = nearN l := by
  have hk := (List.getElem?_eq_some_iff.1 h).1
  have hv : l[k] = false := by rw [List.getElem?_eq_getElem hk] at h; exact Option.some.inj h
  have hp : 0 < l.count false := List.count_pos_iff.2 (by rw [← hv]; exact List.getElem_mem hk)
  unfold nearN
  rw [List.count_set hk, hv]
  simp
  omega

theorem stepF_out {P : Nat → Bool} {l : List Bool} {k : Nat} (h : l[k]? = none) : stepF P l (k + 1) = stepF P l k := by
  apply List.ext_getElem?
  intro i
  rw [stepF_get, stepF_get]
  by_cases e : i = k
  · subst e; rw [h]; rfl
  · have e2 : (i < k + 1) ↔ (i < k) := by omega
    simp only [e2]
theorem stepF_near (P : Nat → Bool) (l : List Bool) : ∀ k, nearN (stepF P l k) ≤ nearN l ∧ (stepF P l k ≠ l → nearN (stepF P l k) < nearN l)
  | 0 => by rw [stepF_zero]; exact ⟨Nat.le_refl _, fun h => absurd rfl h⟩
  | k + 1 => by
    have ih := stepF_near P l k
    cases h : l[k]? with
    | none => rw [stepF_out h]; exact ih
    | some b =>
      cases b with
      | true => rw [stepF_same h (by simp)]; exact ih
      | false =>
        cases hp : P k with
        | false => rw [stepF_same h (by simp [hp])]; exact ih
        | true =>
          rw [stepF_set h, hp]
          have h1 := nearN_set (stepF_at (P := P) h)
          exact ⟨by simp only [Bool.false_or]; omega, fun _ => by simp only [Bool.false_or]; omega⟩

/-- One laying: which ways are far behind it. -/
def nextY (g : List Pt) (ys ns : List Bool) : List Bool := stepF (farY g ys ns) ys g.length
def nextN (g : List Pt) (ys ns : List Bool) : List Bool := stepF (farN g ys ns) ns g.length
/-- All layings, one behind the other. -/
inductive LayRel (g : List Pt) : List Bool → List Bool → List Bool → List Bool → Prop
  | done {ys ns : List Bool} (h : nextY g ys ns = ys ∧ nextN g ys ns = ns) : LayRel g ys ns ys ns
  | more {ys ns a b : List Bool} (h : ¬ (nextY g ys ns = ys ∧ nextN g ys ns = ns)) (r : LayRel g (nextY g ys ns) (nextN g ys ns) a b) : LayRel g ys ns a b
theorem LayRel.one {g : List Pt} {ys ns a b : List Bool} (h : LayRel g ys ns a b) : ∀ {c d : List Bool}, LayRel g ys ns c d → a = c ∧ b = d := by
  induction h with
  | done h =>
    intro c d h'
    cases h' with
    | done _ => exact ⟨rfl, rfl⟩
    | more h2 _ => exact absurd h h2
  | more h _ ih =>
    intro c d h'
    cases h' with
    | done h2 => exact absurd h2 h
    | more _ r => exact ih r

/-- The places of a point. -/
def ptCode (g : List Pt) (ys ns : List Bool) (i : Nat) : List In4 :=
  match g[i]? with
  | none => []
  | some p =>
    if p.op = 0 then [⟨6, p.verdict, 0, 0⟩] else
      [⟨1, p.field, 0, 0⟩] ++ (if p.mask = 4294967295 then [] else [⟨2, p.mask, 0, 0⟩]) ++
      [⟨if p.op = 3 then 4 else 3, p.value,
        if (ys[i]?).getD false then 0 else (stAt g ys ns p.yes.toNat : Int) - (stAt g ys ns i + testAt g i),
        if (ns[i]?).getD false then (((ys[i]?).getD false).toNat : Int) else (stAt g ys ns p.no.toNat : Int) - (stAt g ys ns i + testAt g i)⟩] ++
      (if (ys[i]?).getD false then [⟨5, (stAt g ys ns p.yes.toNat : Int) - (stAt g ys ns i + testAt g i) - 1, 0, 0⟩] else []) ++
      (if (ns[i]?).getD false then [⟨5, (stAt g ys ns p.no.toNat : Int) - (stAt g ys ns i + testAt g i) - ((ys[i]?).getD false).toNat - 1, 0, 0⟩] else [])
theorem ptCode_len (g : List Pt) (ys ns : List Bool) (i : Nat) : (ptCode g ys ns i).length ≤ 5 := by
  unfold ptCode
  split
  · simp
  · split
    · simp
    · simp only [List.length_append, List.length_cons, List.length_nil]
      have h1 : ∀ (c : Prop) [Decidable c] (x : In4), (if c then ([] : List In4) else [x]).length ≤ 1 := fun c _ x => by split <;> simp
      have h2 : ∀ (c : Prop) [Decidable c] (x : In4), (if c then [x] else ([] : List In4)).length ≤ 1 := fun c _ x => by split <;> simp
      rename_i p _ _
      have a := h1 (p.mask = 4294967295) ⟨2, p.mask, 0, 0⟩
      have b := h2 ((ys[i]?).getD false = true) ⟨5, (stAt g ys ns p.yes.toNat : Int) - (stAt g ys ns i + testAt g i) - 1, 0, 0⟩
      have c := h2 ((ns[i]?).getD false = true) ⟨5, (stAt g ys ns p.no.toNat : Int) - (stAt g ys ns i + testAt g i) - ((ys[i]?).getD false).toNat - 1, 0, 0⟩
      omega
/-- The places of the last points, the last one's first. -/
def codeTo (g : List Pt) (ys ns : List Bool) : Nat → List In4
  | 0 => []
  | m + 1 => codeTo g ys ns m ++ ptCode g ys ns (g.length - 1 - m)
theorem codeTo_len (g : List Pt) (ys ns : List Bool) : ∀ m, (codeTo g ys ns m).length ≤ 5 * m
  | 0 => by simp [codeTo]
  | m + 1 => by
    have h1 := codeTo_len g ys ns m
    have h2 := ptCode_len g ys ns (g.length - 1 - m)
    simp [codeTo]
    omega
/-- What is made of a graph. -/
def MadeOf (g : List Pt) (x : List In4) : Prop := ∃ ys ns, LayRel g (List.replicate g.length false) (List.replicate g.length false) ys ns ∧ x = codeTo g ys ns g.length
theorem MadeOf.one {g : List Pt} {x y : List In4} (h : MadeOf g x) (h' : MadeOf g y) : x = y := by
  obtain ⟨a, b, h1, rfl⟩ := h
  obtain ⟨c, d, h2, rfl⟩ := h'
  obtain ⟨rfl, rfl⟩ := h1.one h2
  rfl
theorem MadeOf.len {g : List Pt} {x : List In4} (h : MadeOf g x) : x.length ≤ 5 * g.length := by
  obtain ⟨a, b, _, rfl⟩ := h
  exact codeTo_len _ _ _ _
/-- What both MakeOf return. -/
def MakeIs (g : List Pt) (x : List In4) (ok : Bool) : Prop :=
  (¬ graphOk g ∧ x = [] ∧ ok = false) ∨ (graphOk g ∧ ∃ y, MadeOf g y ∧ ((codeOk y ∧ x = y ∧ ok = true) ∨ (¬ codeOk y ∧ x = [] ∧ ok = false)))
theorem MakeIs.one {g : List Pt} {x y : List In4} {a b : Bool} (h : MakeIs g x a) (h' : MakeIs g y b) : x = y ∧ a = b := by
  rcases h with ⟨n1, rfl, rfl⟩ | ⟨g1, m, hm, h⟩ <;> rcases h' with ⟨n2, rfl, rfl⟩ | ⟨g2, m', hm', h'⟩
  · exact ⟨rfl, rfl⟩
  · exact absurd g2 n1
  · exact absurd g1 n2
  · obtain rfl := hm.one hm'
    rcases h with ⟨c1, rfl, rfl⟩ | ⟨c1, rfl, rfl⟩ <;> rcases h' with ⟨c2, rfl, rfl⟩ | ⟨c2, rfl, rfl⟩
    · exact ⟨rfl, rfl⟩
    · exact absurd c1 c2
    · exact absurd c2 c1
    · exact ⟨rfl, rfl⟩
end Go.Proofs.YtkiacbfpnidjlaaGreatDoor

-- How the points of a graph are laid: memory words; l5Size, l5Test.
namespace Go.Proofs.YtkiacbfpnidjlaaGreatDoor
open Go.RowKit
set_option linter.unusedSimpArgs false
set_option linter.unusedVariables false

theorem blk_apart {w : World} {h h' : Nat} {t t' : TypeId} {cs cs' : Array Value} (a : Blk w h t cs) (b : Blk w h' t' cs') (ht : t ≠ t') : h ≠ h' := fun e => by
  subst e
  have := (show w.heap[h]? = _ from a).symm.trans b
  exact ht (by injection this with h1; injection h1 with h2 h3)
end Go.Proofs.YtkiacbfpnidjlaaGreatDoor
