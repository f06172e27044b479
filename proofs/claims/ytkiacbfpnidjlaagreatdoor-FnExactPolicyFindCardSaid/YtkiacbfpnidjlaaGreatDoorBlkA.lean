/- Joined texts: Blk BlkOf BlkLay BlkLay2. -/
import Derived.Test.YtkiacbfpnidjlaaGreatDoorLay2
import Derived.Deep.RegionHeld3
import Derived.Deep.LoopGhost
-- How impl lays the points of a graph: blocks in memory; lookAt, end, blocksOf.
namespace Go.Proofs.YtkiacbfpnidjlaaGreatDoor
open Go.RowKit
set_option linter.unusedSimpArgs false
set_option linter.unusedVariables false

/-- The cells of pointers to blocks. -/
def ptrV (h : Nat) : Value := .pointer (some ⟨h, 0, none⟩)
def pRow (hs : List Nat) : Array Value := (hs.map ptrV).toArray
theorem pRow_get (hs : List Nat) (k : Nat) : (pRow hs)[k]? = hs[k]?.map ptrV := by simp [pRow]
/-- The cells of a block. -/
def bkCells (p : Pt) (st : Nat) (y n : Value) (yf nf : Bool) : Array Value :=
  #[.int .i64 p.verdict, .int .i64 p.field, .int .i64 p.mask, .int .i64 p.op, .int .i64 p.value, .int .i64 p.yes, .int .i64 p.no, .int .i64 (st : Int), y, n, .bool yf, .bool nf]
/-- Where a point that looks leads. -/
def wayV (hs : List Nat) (p : Pt) (k : Int) : Value := if p.op = 0 then .pointer none else match hs[k.toNat]? with
  | some h => ptrV h
  | none => .pointer none
theorem nodup_get {hs : List Nat} (h : hs.Nodup) {i j x : Nat} (hi : hs[i]? = some x) (hj : hs[j]? = some x) : i = j := by
  obtain ⟨a, b⟩ := List.getElem?_eq_some_iff.1 hi
  obtain ⟨c, d⟩ := List.getElem?_eq_some_iff.1 hj
  exact (List.getElem_inj h).1 (b.trans d.symm)
theorem getD_ofB {α : Type} {l : List α} {k : Nat} {d x : α} (h : l[k]? = some x) : l.getD k d = x := by rw [List.getD_eq_getElem?_getD, h]; rfl
theorem getD_set_ne {α : Type} {l : List α} {k i : Nat} {d x : α} (h : k ≠ i) : (l.set k x).getD i d = l.getD i d := by
  rw [List.getD_eq_getElem?_getD, List.getD_eq_getElem?_getD, List.getElem?_set_ne h]
theorem getD_set_self {α : Type} {l : List α} {k : Nat} {d x : α} (h : k < l.length) : (l.set k x).getD k d = x := by
  rw [List.getD_eq_getElem?_getD, List.getElem?_set_self h]; rfl
def tstP (p : Pt) : Nat := if p.mask = 4294967295 then 2 else 3
theorem tstP_le (p : Pt) : tstP p ≤ 3 := by unfold tstP; split <;> omega
theorem tstP_at {g : List Pt} {i : Nat} {p : Pt} (h : g[i]? = some p) : testAt g i = tstP p := by unfold testAt tstP; rw [h]
def szP (p : Pt) (yf nf : Bool) : Nat := if p.op = 0 then 1 else tstP p + yf.toNat + nf.toNat
theorem szP_at {g : List Pt} {ys ns : List Bool} {i : Nat} {p : Pt} (h : g[i]? = some p) : szAt g ys ns i = szP p (ys.getD i false) (ns.getD i false) := by
  unfold szAt szP tstP
  rw [h, List.getD_eq_getElem?_getD, List.getD_eq_getElem?_getD]
  simp only []
  split
  · rfl
  · split <;> omega

end Go.Proofs.YtkiacbfpnidjlaaGreatDoor

-- How impl lays the points of a graph: blocksOf links a block for each point.
namespace Go.Proofs.YtkiacbfpnidjlaaGreatDoor
open Go.RowKit
set_option linter.unusedSimpArgs false
set_option linter.unusedVariables false

theorem wayV_more {hs : List Nat} {p : Pt} {k : Int} (x : Nat) (h : p.op ≠ 0 → k.toNat < hs.length) : wayV (hs ++ [x]) p k = wayV hs p k := by
  unfold wayV
  split
  · rfl
  · rename_i h0
    rw [List.getElem?_append_left (h h0)]
theorem set_two {p : Pt} {s : Nat} {a b y n : Value} {yf nf : Bool} : ((bkCells p s a b yf nf).setIfInBounds 8 y).setIfInBounds 9 n = bkCells p s y n yf nf := by simp [bkCells]
theorem set_two' {p : Pt} {s : Nat} {a b y n : Value} {yf nf : Bool} : ((bkCells p s a b yf nf).setIfInBounds 9 n).setIfInBounds 8 y = bkCells p s y n yf nf := by simp [bkCells]
theorem rep_snoc {α : Type} (k : Nat) (a : α) : List.replicate k a ++ [a] = List.replicate (k + 1) a := by rw [List.replicate_succ']

theorem blk_next2 (w : World) (o : Obj) (t : TypeId) (cs : Array Value) : Blk ((w.alloc o).alloc (.cells cs t)) (w.heap.size + 1) t cs := by
  have := Blk.new (w.alloc o) t cs
  rwa [show (w.alloc o).heap.size = w.heap.size + 1 by simp] at this
/-- The pointers so far. -/
def PtrTo (cur : Array Value) (hs : List Nat) : Prop := ∀ (j h : Nat), hs[j]? = some h → cur[j]? = some (ptrV h)
theorem PtrTo.snoc {cur : Array Value} {hs : List Nat} (h : PtrTo cur hs) {k : Nat} (hk : hs.length = k) (hlt : k < cur.size) (x : Nat) : PtrTo (cur.setIfInBounds k (ptrV x)) (hs ++ [x]) := by
  intro j y hj
  have hl : j < hs.length + 1 := by have := (List.getElem?_eq_some_iff.1 hj).1; simpa using this
  rw [Array.getElem?_setIfInBounds]
  by_cases e : k = j
  · subst e
    rw [if_pos rfl, if_pos hlt]
    rw [List.getElem?_append_right (by omega), hk] at hj
    simp at hj
    rw [hj]
  · rw [if_neg e]
    rw [List.getElem?_append_left (by omega)] at hj
    exact h j y hj
theorem PtrTo.row {cur : Array Value} {hs : List Nat} (h : PtrTo cur hs) (hl : cur.size = hs.length) : cur = pRow hs := by
  apply Array.ext_getElem?
  intro j
  rw [pRow_get]
  cases e : hs[j]? with
  | some x => rw [h j x e]; rfl
  | none =>
    have := List.getElem?_eq_none_iff.1 e
    rw [Array.getElem?_eq_none (by omega)]; rfl

end Go.Proofs.YtkiacbfpnidjlaaGreatDoor

-- How impl lays the points of a graph: spread and lay.
namespace Go.Proofs.YtkiacbfpnidjlaaGreatDoor
open Go.RowKit
set_option linter.unusedSimpArgs false
set_option linter.unusedVariables false

theorem wayV_look {hs : List Nat} {p : Pt} {y x : Nat} (h0 : p.op ≠ 0) (hy : hs[y]? = some x) : wayV hs p (y : Int) = .pointer (some ⟨x, 0, none⟩) := by
  unfold wayV; rw [if_neg h0, Int.toNat_natCast, hy]; rfl
theorem pRow_cell {w : World} {R k x : Nat} {hs : List Nat} {t : TypeId} (h : Blk w R t (pRow hs)) (hk : hs[k]? = some x) : w.cell? ⟨R, k, none⟩ = some (.pointer (some ⟨x, 0, none⟩)) := by
  rw [h.cell, pRow_get, hk]; rfl
theorem far_cases {v : Bool} {a : Int} : v = true ∨ (v = false ∧ ¬ (a > 6)) ∨ (v = false ∧ a > 6) := by
  cases v
  · by_cases h : a > 6
    · exact .inr (.inr ⟨rfl, h⟩)
    · exact .inr (.inl ⟨rfl, h⟩)
  · exact .inl rfl
/-- What a round of 'spread' does to the count of near ways. -/
structure StepN (P : Nat → Bool) (l : List Bool) (k : Nat) (v : Bool) (c : Bool) : Prop where
  same : c = false → stepF P l (k + 1) = stepF P l k
  set_ : c = true → stepF P l (k + 1) = (stepF P l k).set k true ∧ nearN (stepF P l (k + 1)) + 1 = nearN (stepF P l k)
theorem StepN.of {P : Nat → Bool} {l : List Bool} {k : Nat} {v : Bool} (h : l[k]? = some v) : StepN P l k v (!v && P k) := by
  refine ⟨fun hc => stepF_same h ?_, fun hc => ?_⟩
  · cases v
    · simpa using hc
    · rfl
  · cases v
    · have hP : P k = true := by simpa using hc
      have e : stepF P l (k + 1) = (stepF P l k).set k true := by rw [stepF_set h, hP]; rfl
      exact ⟨e, by rw [e]; exact nearN_set (stepF_at h)⟩
    · simp at hc

/-- What 'spread' has told so far. -/
def SpreadOk (g : List Pt) (ys ns : List Bool) (k : Nat) (ch : Bool) : Prop :=
  (ch = false ∧ nearN (stepF (farY g ys ns) ys k) + nearN (stepF (farN g ys ns) ns k) = nearN ys + nearN ns) ∨ (ch = true ∧ nearN (stepF (farY g ys ns) ys k) + nearN (stepF (farN g ys ns) ns k) < nearN ys + nearN ns)
theorem SpreadOk.next {g : List Pt} {ys ns : List Bool} {k : Nat} {ch yv nv cy cn : Bool} (h : SpreadOk g ys ns k ch) (hy : StepN (farY g ys ns) ys k yv cy) (hn : StepN (farN g ys ns) ns k nv cn) : SpreadOk g ys ns (k + 1) (ch || cy || cn) := by
  have e1 : (cy = false ∧ nearN (stepF (farY g ys ns) ys (k + 1)) = nearN (stepF (farY g ys ns) ys k)) ∨ (cy = true ∧ nearN (stepF (farY g ys ns) ys (k + 1)) + 1 = nearN (stepF (farY g ys ns) ys k)) := by
    cases hc : cy
    · exact .inl ⟨rfl, by rw [hy.same hc]⟩
    · exact .inr ⟨rfl, (hy.set_ hc).2⟩
  have e2 : (cn = false ∧ nearN (stepF (farN g ys ns) ns (k + 1)) = nearN (stepF (farN g ys ns) ns k)) ∨ (cn = true ∧ nearN (stepF (farN g ys ns) ns (k + 1)) + 1 = nearN (stepF (farN g ys ns) ns k)) := by
    cases hc : cn
    · exact .inl ⟨rfl, by rw [hn.same hc]⟩
    · exact .inr ⟨rfl, (hn.set_ hc).2⟩
  unfold SpreadOk at h ⊢
  rcases e1 with ⟨rfl, e1⟩ | ⟨rfl, e1⟩ <;> rcases e2 with ⟨rfl, e2⟩ | ⟨rfl, e2⟩ <;> rcases h with ⟨rfl, h⟩ | ⟨rfl, h⟩
  all_goals first
    | exact .inl ⟨rfl, by omega⟩
    | exact .inr ⟨rfl, by omega⟩
theorem SpreadOk.fin {g : List Pt} {ys ns : List Bool} {ch : Bool} (h : SpreadOk g ys ns g.length ch) : ch = false ↔ (nextY g ys ns = ys ∧ nextN g ys ns = ns) := by
  unfold nextY nextN
  have n1 := stepF_near (farY g ys ns) ys g.length
  have n2 := stepF_near (farN g ys ns) ns g.length
  constructor
  · intro hok
    rcases h with ⟨_, h⟩ | ⟨h, _⟩
    · refine ⟨Decidable.byContradiction fun hne => ?_, Decidable.byContradiction fun hne => ?_⟩
      · have := n1.2 hne; omega
      · have := n2.2 hne; omega
    · rw [hok] at h; cases h
  · rintro ⟨h1, h2⟩
    rcases h with ⟨h, _⟩ | ⟨_, h⟩
    · exact h
    · rw [h1, h2] at h; omega

end Go.Proofs.YtkiacbfpnidjlaaGreatDoor

-- How impl lays the points of a graph: lay.
namespace Go.Proofs.YtkiacbfpnidjlaaGreatDoor
open Go.RowKit
set_option linter.unusedSimpArgs false
set_option linter.unusedVariables false

end Go.Proofs.YtkiacbfpnidjlaaGreatDoor
