/- How a graph is laid as a program: plain words; no Go function is walked here. -/
import Derived.Test.YtoibocaaeimplaaDoorCodeT
import Derived.Test.YtoibocaaeimplaaDoorGraphOk
namespace Go.Proofs.YtoibocaaeimplaaDoor
open Go.RowKit
set_option linter.unusedSimpArgs false
set_option linter.unusedVariables false

def tailSum (f : Nat → Nat) (n k : Nat) : Nat := ((List.range' k (n - k)).map f).sum
theorem tailSum_end (f : Nat → Nat) (n : Nat) : tailSum f n n = 0 := by simp [tailSum]
theorem tailSum_step {f : Nat → Nat} {n k : Nat} (h : k < n) : tailSum f n k = f k + tailSum f n (k + 1) := by
  unfold tailSum
  rw [show n - k = (n - (k + 1)) + 1 by omega, List.range'_succ]
  simp
theorem tailSum_le {f : Nat → Nat} {b : Nat} (hf : ∀ i, f i ≤ b) (n : Nat) : ∀ m k, n - k = m → tailSum f n k ≤ b * m
  | 0, k, h => by
    have : n - k = 0 := h
    simp [tailSum, this]
  | m + 1, k, h => by
    rw [tailSum_step (by omega)]
    have h1 := tailSum_le hf n m (k + 1) (by omega)
    have h2 := hf k
    rw [Nat.mul_succ]
    omega

/-- How many places a point takes. -/
def szAt (g : List Pt) (ys ns : List Bool) (i : Nat) : Nat :=
  match g[i]? with
  | none => 0
  | some p => if p.op = 0 then 1 else 2 + (if p.mask = 4294967295 then 0 else 1) + ((ys[i]?).getD false).toNat + ((ns[i]?).getD false).toNat
theorem szAt_le (g : List Pt) (ys ns : List Bool) (i : Nat) : szAt g ys ns i ≤ 5 := by
  unfold szAt
  have h1 : ((ys[i]?).getD false).toNat ≤ 1 := Bool.toNat_le _
  have h2 : ((ns[i]?).getD false).toNat ≤ 1 := Bool.toNat_le _
  split
  · omega
  · split
    · omega
    · split <;> omega
/-- Where a point's places begin. -/
def stAt (g : List Pt) (ys ns : List Bool) (i : Nat) : Nat := tailSum (szAt g ys ns) g.length (i + 1)
theorem stAt_le (g : List Pt) (ys ns : List Bool) (i : Nat) : stAt g ys ns i ≤ 5 * g.length :=
  Nat.le_trans (tailSum_le (szAt_le g ys ns) g.length _ (i + 1) rfl) (Nat.mul_le_mul_left _ (by omega))
def testAt (g : List Pt) (i : Nat) : Nat :=
  match g[i]? with
  | none => 0
  | some p => if p.mask = 4294967295 then 2 else 3
/-- Is a way farther than a look leads? -/
def farY (g : List Pt) (ys ns : List Bool) (i : Nat) : Bool :=
  match g[i]? with
  | none => false
  | some p => !decide (p.op = 0) && decide ((stAt g ys ns p.yes.toNat : Int) - (stAt g ys ns i + testAt g i) > 6)
def farN (g : List Pt) (ys ns : List Bool) (i : Nat) : Bool :=
  match g[i]? with
  | none => false
  | some p => !decide (p.op = 0) && decide ((stAt g ys ns p.no.toNat : Int) - (stAt g ys ns i + testAt g i) > 6)
def stepF (P : Nat → Bool) (l : List Bool) (k : Nat) : List Bool := l.mapIdx fun i b => if i < k then b || P i else b
theorem stepF_len (P : Nat → Bool) (l : List Bool) (k : Nat) : (stepF P l k).length = l.length := by simp [stepF]
theorem stepF_get (P : Nat → Bool) (l : List Bool) (k i : Nat) : (stepF P l k)[i]? = l[i]?.map fun b => if i < k then b || P i else b := by simp [stepF]
theorem stepF_zero (P : Nat → Bool) (l : List Bool) : stepF P l 0 = l := by
  apply List.ext_getElem?
  intro i
  rw [stepF_get]
  cases l[i]? <;> simp
theorem stepF_set {P : Nat → Bool} {l : List Bool} {k : Nat} {b : Bool} (h : l[k]? = some b) : stepF P l (k + 1) = (stepF P l k).set k (b || P k) := by
  apply List.ext_getElem?
  intro i
  have hk := (List.getElem?_eq_some_iff.1 h).1
  rw [stepF_get, List.getElem?_set, stepF_len, stepF_get]
  by_cases e : k = i
  · subst e
    rw [if_pos rfl, if_pos hk, h]
    simp
  · rw [if_neg e]
    have e2 : (i < k + 1) ↔ (i < k) := by omega
    simp only [e2]
theorem stepF_same {P : Nat → Bool} {l : List Bool} {k : Nat} {b : Bool} (h : l[k]? = some b) (hb : (b || P k) = b) : stepF P l (k + 1) = stepF P l k := by
  rw [stepF_set h, hb]
  apply List.ext_getElem?
  intro i
  rw [List.getElem?_set, stepF_len]
  by_cases e : k = i
  · subst e
    rw [if_pos rfl, if_pos (List.getElem?_eq_some_iff.1 h).1, stepF_get, h]
    simp
  · rw [if_neg e]
theorem stepF_at {P : Nat → Bool} {l : List Bool} {k : Nat} {b : Bool} (h : l[k]? = some b) : (stepF P l k)[k]? = some b := by rw [stepF_get, h]; simp
/-- How many ways are not far. -/
def nearN (l : List Bool) : Nat := l.count false
theorem nearN_le (l : List Bool) : nearN l ≤ l.length := List.count_le_length
theorem nearN_set {l : List Bool} {k : Nat} (h : l[k]? = some false) : nearN (l.set k true) + 1 = nearN l := by
  have hk := (List.getElem?_eq_some_iff.1 h).1
  have hv : l[k] = false := by rw [List.getElem?_eq_getElem hk] at h; exact Option.some.inj h
  have hp : 0 < l.count false := List.count_pos_iff.2 (by rw [← hv]; exact List.getElem_mem hk)
  unfold nearN
  rw [List.count_set hk, hv]
  simp
  omega

theorem stepF_out {P : Nat → Bool} {l : List Bool} {k : Nat} (h : l[k]? = none) : stepF P l (k + 1) = stepF P l k := by
  apply List.ext_getElem?
  intro i
  rw [stepF_get, stepF_get]
  by_cases e : i = k
  · subst e; rw [h]; rfl
  · have e2 : (i < k + 1) ↔ (i < k) := by omega
    simp only [e2]
theorem stepF_near (P : Nat → Bool) (l : List Bool) : ∀ k, nearN (stepF P l k) ≤ nearN l ∧ (stepF P l k ≠ l → nearN (stepF P l k) < nearN l)
  | 0 => by rw [stepF_zero]; exact ⟨Nat.le_refl _, fun h => absurd rfl h⟩
  | k + 1 => by
    have ih := stepF_near P l k
    cases h : l[k]? with
    | none => rw [stepF_out h]; exact ih
    | some b =>
      cases b with
      | true => rw [stepF_same h (by simp)]; exact ih
      | false =>
        cases hp : P k with
        | false => rw [stepF_same h (by simp [hp])]; exact ih
        | true =>
          rw [stepF_set h, hp]
          have h1 := nearN_set (stepF_at (P := P) h)
          exact ⟨by simp only [Bool.false_or]; omega, fun _ => by simp only [Bool.false_or]; omega⟩

/-- One laying: which ways are far behind it. -/
def nextY (g : List Pt) (ys ns : List Bool) : List Bool := stepF (farY g ys ns) ys g.length
def nextN (g : List Pt) (ys ns : List Bool) : List Bool := stepF (farN g ys ns) ns g.length
/-- All layings, one behind the other. -/
inductive LayRel (g : List Pt) : List Bool → List Bool → List Bool → List Bool → Prop
  | done {ys ns : List Bool} (h : nextY g ys ns = ys ∧ nextN g ys ns = ns) : LayRel g ys ns ys ns
  | more {ys ns a b : List Bool} (h : ¬ (nextY g ys ns = ys ∧ nextN g ys ns = ns)) (r : LayRel g (nextY g ys ns) (nextN g ys ns) a b) : LayRel g ys ns a b
theorem LayRel.one {g : List Pt} {ys ns a b : List Bool} (h : LayRel g ys ns a b) : ∀ {c d : List Bool}, LayRel g ys ns c d → a = c ∧ b = d := by
  induction h with
  | done h =>
    intro c d h'
    cases h' with
    | done _ => exact ⟨rfl, rfl⟩
    | more h2 _ => exact absurd h h2
  | more h _ ih =>
    intro c d h'
    cases h' with
    | done h2 => exact absurd h2 h
    | more _ r => exact ih r

/-- The places of a point. -/
def ptCode (g : List Pt) (ys ns : List Bool) (i : Nat) : List In4 :=
  match g[i]? with
  | none => []
  | some p =>
    if p.op = 0 then [⟨6, p.verdict, 0, 0⟩] else
      [⟨1, p.field, 0, 0⟩] ++ (if p.mask = 4294967295 then [] else [⟨2, p.mask, 0, 0⟩]) ++
      [⟨if p.op = 3 then 4 else 3, p.value,
        if (ys[i]?).getD false then 0 else (stAt g ys ns p.yes.toNat : Int) - (stAt g ys ns i + testAt g i),
        if (ns[i]?).getD false then (((ys[i]?).getD false).toNat : Int) else (stAt g ys ns p.no.toNat : Int) - (stAt g ys ns i + testAt g i)⟩] ++
      (if (ys[i]?).getD false then [⟨5, (stAt g ys ns p.yes.toNat : Int) - (stAt g ys ns i + testAt g i) - 1, 0, 0⟩] else []) ++
      (if (ns[i]?).getD false then [⟨5, (stAt g ys ns p.no.toNat : Int) - (stAt g ys ns i + testAt g i) - ((ys[i]?).getD false).toNat - 1, 0, 0⟩] else [])
theorem ptCode_len (g : List Pt) (ys ns : List Bool) (i : Nat) : (ptCode g ys ns i).length ≤ 5 := by
  unfold ptCode
  split
  · simp
  · split
    · simp
    · simp only [List.length_append, List.length_cons, List.length_nil]
      have h1 : ∀ (c : Prop) [Decidable c] (x : In4), (if c then ([] : List In4) else [x]).length ≤ 1 := fun c _ x => by split <;> simp
      have h2 : ∀ (c : Prop) [Decidable c] (x : In4), (if c then [x] else ([] : List In4)).length ≤ 1 := fun c _ x => by split <;> simp
      rename_i p _ _
      have a := h1 (p.mask = 4294967295) ⟨2, p.mask, 0, 0⟩
      have b := h2 ((ys[i]?).getD false = true) ⟨5, (stAt g ys ns p.yes.toNat : Int) - (stAt g ys ns i + testAt g i) - 1, 0, 0⟩
      have c := h2 ((ns[i]?).getD false = true) ⟨5, (stAt g ys ns p.no.toNat : Int) - (stAt g ys ns i + testAt g i) - ((ys[i]?).getD false).toNat - 1, 0, 0⟩
      omega
/-- The places of the last points, the last one's first. -/
def codeTo (g : List Pt) (ys ns : List Bool) : Nat → List In4
  | 0 => []
  | m + 1 => codeTo g ys ns m ++ ptCode g ys ns (g.length - 1 - m)
theorem codeTo_len (g : List Pt) (ys ns : List Bool) : ∀ m, (codeTo g ys ns m).length ≤ 5 * m
  | 0 => by simp [codeTo]
  | m + 1 => by
    have h1 := codeTo_len g ys ns m
    have h2 := ptCode_len g ys ns (g.length - 1 - m)
    simp [codeTo]
    omega
/-- What is made of a graph. -/
def MadeOf (g : List Pt) (x : List In4) : Prop := ∃ ys ns, LayRel g (List.replicate g.length false) (List.replicate g.length false) ys ns ∧ x = codeTo g ys ns g.length
theorem MadeOf.one {g : List Pt} {x y : List In4} (h : MadeOf g x) (h' : MadeOf g y) : x = y := by
  obtain ⟨a, b, h1, rfl⟩ := h
  obtain ⟨c, d, h2, rfl⟩ := h'
  obtain ⟨rfl, rfl⟩ := h1.one h2
  rfl
theorem MadeOf.len {g : List Pt} {x : List In4} (h : MadeOf g x) : x.length ≤ 5 * g.length := by
  obtain ⟨a, b, _, rfl⟩ := h
  exact codeTo_len _ _ _ _
/-- What both MakeOf return. -/
def MakeIs (g : List Pt) (x : List In4) (ok : Bool) : Prop :=
  (¬ graphOk g ∧ x = [] ∧ ok = false) ∨ (graphOk g ∧ ∃ y, MadeOf g y ∧ ((codeOk y ∧ x = y ∧ ok = true) ∨ (¬ codeOk y ∧ x = [] ∧ ok = false)))
theorem MakeIs.one {g : List Pt} {x y : List In4} {a b : Bool} (h : MakeIs g x a) (h' : MakeIs g y b) : x = y ∧ a = b := by
  rcases h with ⟨n1, rfl, rfl⟩ | ⟨g1, m, hm, h⟩ <;> rcases h' with ⟨n2, rfl, rfl⟩ | ⟨g2, m', hm', h'⟩
  · exact ⟨rfl, rfl⟩
  · exact absurd g2 n1
  · exact absurd g1 n2
  · obtain rfl := hm.one hm'
    rcases h with ⟨c1, rfl, rfl⟩ | ⟨c1, rfl, rfl⟩ <;> rcases h' with ⟨c2, rfl, rfl⟩ | ⟨c2, rfl, rfl⟩
    · exact ⟨rfl, rfl⟩
    · exact absurd c1 c2
    · exact absurd c2 c1
    · exact ⟨rfl, rfl⟩
end Go.Proofs.YtoibocaaeimplaaDoor
