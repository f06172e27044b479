/- How impl lays the points of a graph: blocks in memory; lookAt, end, blocksOf. -/
import Derived.Test.YtoibocaaeimplaaDoorLay2
namespace Go.Proofs.YtoibocaaeimplaaDoor
open Go.RowKit
set_option linter.unusedSimpArgs false
set_option linter.unusedVariables false

/-- The cells of pointers to blocks. -/
def ptrV (h : Nat) : Value := .pointer (some ⟨h, 0, none⟩)
def pRow (hs : List Nat) : Array Value := (hs.map ptrV).toArray
theorem pRow_get (hs : List Nat) (k : Nat) : (pRow hs)[k]? = hs[k]?.map ptrV := by simp [pRow]
/-- The cells of a block. -/
def bkCells (p : Pt) (st : Nat) (y n : Value) (yf nf : Bool) : Array Value :=
  #[.int .i64 p.verdict, .int .i64 p.field, .int .i64 p.mask, .int .i64 p.op, .int .i64 p.value, .int .i64 p.yes, .int .i64 p.no, .int .i64 (st : Int), y, n, .bool yf, .bool nf]
/-- Where a point that looks leads. -/
def wayV (hs : List Nat) (p : Pt) (k : Int) : Value := if p.op = 0 then .pointer none else match hs[k.toNat]? with
  | some h => ptrV h
  | none => .pointer none
/-- The blocks of a graph, so far as they are linked. -/
structure Blks (w : World) (base : Nat) (g : List Pt) (hs : List Nat) (ss : List Nat) (ys ns : List Bool) : Prop where
  sl : ss.length = hs.length
  yl : ys.length = hs.length
  nl : ns.length = hs.length
  nd : hs.Nodup
  low : ∀ h ∈ hs, base ≤ h
  at_ : ∀ (i h : Nat) (p : Pt), hs[i]? = some h → g[i]? = some p → Blk w h 83 (bkCells p (ss.getD i 0) (wayV hs p p.yes) (wayV hs p p.no) (ys.getD i false) (ns.getD i false))

theorem Blks.below {w w' : World} {base B : Nat} {g : List Pt} {hs ss : List Nat} {ys ns : List Bool} (h : Blks w base g hs ss ys ns) (hl : hs.length ≤ g.length) (hb : Below B w w') (hB : ∀ x ∈ hs, x < B) : Blks w' base g hs ss ys ns :=
  ⟨h.sl, h.yl, h.nl, h.nd, h.low, fun i x p hi hp => (h.at_ i x p hi hp).below hb (hB x (List.mem_of_getElem? hi))⟩
theorem Blks.lt {w : World} {base : Nat} {g : List Pt} {hs ss : List Nat} {ys ns : List Bool} (h : Blks w base g hs ss ys ns) (hl : hs.length ≤ g.length) : ∀ x ∈ hs, x < w.heap.size := by
  intro x hx
  obtain ⟨i, hi, e⟩ := List.getElem_of_mem hx
  exact (h.at_ i x g[i] (by rw [← e]; exact List.getElem?_eq_getElem hi) (List.getElem?_eq_getElem (by omega))).lt
theorem Blks.next {w w' : World} {base : Nat} {g : List Pt} {hs ss : List Nat} {ys ns : List Bool} (h : Blks w base g hs ss ys ns) (hl : hs.length ≤ g.length) (hb : Below w.heap.size w w') : Blks w' base g hs ss ys ns := h.below hl hb (h.lt hl)
theorem nodup_get {hs : List Nat} (h : hs.Nodup) {i j x : Nat} (hi : hs[i]? = some x) (hj : hs[j]? = some x) : i = j := by
  obtain ⟨a, b⟩ := List.getElem?_eq_some_iff.1 hi
  obtain ⟨c, d⟩ := List.getElem?_eq_some_iff.1 hj
  exact (List.getElem_inj h).1 (b.trans d.symm)
theorem getD_of {α : Type} {l : List α} {k : Nat} {d x : α} (h : l[k]? = some x) : l.getD k d = x := by rw [List.getD_eq_getElem?_getD, h]; rfl
theorem getD_set_ne {α : Type} {l : List α} {k i : Nat} {d x : α} (h : k ≠ i) : (l.set k x).getD i d = l.getD i d := by
  rw [List.getD_eq_getElem?_getD, List.getD_eq_getElem?_getD, List.getElem?_set_ne h]
theorem getD_set_self {α : Type} {l : List α} {k : Nat} {d x : α} (h : k < l.length) : (l.set k x).getD k d = x := by
  rw [List.getD_eq_getElem?_getD, List.getElem?_set_self h]; rfl
/-- One cell of one block turns. -/
theorem Blks.set_at {w : World} {base : Nat} {g : List Pt} {hs ss ss' : List Nat} {ys ns ys' ns' : List Bool} (h : Blks w base g hs ss ys ns) {k x : Nat} (hk : hs[k]? = some x) (c : Nat) (v : Value)
    (hsl : ss'.length = ss.length) (hyl : ys'.length = ys.length) (hnl : ns'.length = ns.length)
    (same : ∀ i, i ≠ k → ss'.getD i 0 = ss.getD i 0 ∧ ys'.getD i false = ys.getD i false ∧ ns'.getD i false = ns.getD i false)
    (here : ∀ (p : Pt) (a b : Value), (bkCells p (ss.getD k 0) a b (ys.getD k false) (ns.getD k false)).setIfInBounds c v = bkCells p (ss'.getD k 0) a b (ys'.getD k false) (ns'.getD k false)) :
    Blks (w.setCell ⟨x, c, none⟩ v) base g hs ss' ys' ns' := by
  refine ⟨hsl.trans h.sl, hyl.trans h.yl, hnl.trans h.nl, h.nd, h.low, fun i y p hi hp => ?_⟩
  by_cases e : i = k
  · subst e
    rw [hk] at hi
    cases hi
    have := (h.at_ i x p hk hp).set_ c v
    rwa [here] at this
  · obtain ⟨e1, e2, e3⟩ := same i e
    have hne : y ≠ x := fun e' => e (nodup_get h.nd hi (e' ▸ hk))
    rw [e1, e2, e3]
    exact (h.at_ i y p hi hp).far (p := ⟨x, c, none⟩) hne _
theorem Blks.set_start {w : World} {base : Nat} {g : List Pt} {hs ss : List Nat} {ys ns : List Bool} (h : Blks w base g hs ss ys ns) {k x : Nat} (hk : hs[k]? = some x) (s : Nat) : Blks (w.setCell ⟨x, 7, none⟩ (.int .i64 (s : Int))) base g hs (ss.set k s) ys ns := by
  have hl : k < ss.length := by rw [h.sl]; exact (List.getElem?_eq_some_iff.1 hk).1
  refine h.set_at hk 7 _ (by simp) rfl rfl (fun i hi => ⟨getD_set_ne (Ne.symm hi), rfl, rfl⟩) (fun p a b => ?_)
  rw [getD_set_self hl]
  simp [bkCells]
theorem Blks.set_yes {w : World} {base : Nat} {g : List Pt} {hs ss : List Nat} {ys ns : List Bool} (h : Blks w base g hs ss ys ns) {k x : Nat} (hk : hs[k]? = some x) (b : Bool) : Blks (w.setCell ⟨x, 10, none⟩ (.bool b)) base g hs ss (ys.set k b) ns := by
  have hl : k < ys.length := by rw [h.yl]; exact (List.getElem?_eq_some_iff.1 hk).1
  refine h.set_at hk 10 _ rfl (by simp) rfl (fun i hi => ⟨rfl, getD_set_ne (Ne.symm hi), rfl⟩) (fun p a c => ?_)
  rw [getD_set_self hl]
  simp [bkCells]
theorem Blks.set_no {w : World} {base : Nat} {g : List Pt} {hs ss : List Nat} {ys ns : List Bool} (h : Blks w base g hs ss ys ns) {k x : Nat} (hk : hs[k]? = some x) (b : Bool) : Blks (w.setCell ⟨x, 11, none⟩ (.bool b)) base g hs ss ys (ns.set k b) := by
  have hl : k < ns.length := by rw [h.nl]; exact (List.getElem?_eq_some_iff.1 hk).1
  refine h.set_at hk 11 _ rfl rfl (by simp) (fun i hi => ⟨rfl, rfl, getD_set_ne (Ne.symm hi)⟩) (fun p a c => ?_)
  rw [getD_set_self hl]
  simp [bkCells]

/-- The cells of a block, one by one. -/
theorem bk_cells {w : World} {h : Nat} {p : Pt} {st : Nat} {y n : Value} {yf nf : Bool} (hb : Blk w h 83 (bkCells p st y n yf nf)) :
    w.cell? ⟨h, 0, none⟩ = some (.int .i64 p.verdict) ∧ w.cell? ⟨h, 1, none⟩ = some (.int .i64 p.field) ∧ w.cell? ⟨h, 2, none⟩ = some (.int .i64 p.mask) ∧ w.cell? ⟨h, 3, none⟩ = some (.int .i64 p.op) ∧ w.cell? ⟨h, 4, none⟩ = some (.int .i64 p.value) ∧ w.cell? ⟨h, 5, none⟩ = some (.int .i64 p.yes) ∧ w.cell? ⟨h, 6, none⟩ = some (.int .i64 p.no) ∧
    w.cell? ⟨h, 7, none⟩ = some (.int .i64 (st : Int)) ∧ w.cell? ⟨h, 8, none⟩ = some y ∧ w.cell? ⟨h, 9, none⟩ = some n ∧ w.cell? ⟨h, 10, none⟩ = some (.bool yf) ∧ w.cell? ⟨h, 11, none⟩ = some (.bool nf) :=
  ⟨hb.cell 0, hb.cell 1, hb.cell 2, hb.cell 3, hb.cell 4, hb.cell 5, hb.cell 6, hb.cell 7, hb.cell 8, hb.cell 9, hb.cell 10, hb.cell 11⟩

def tstP (p : Pt) : Nat := if p.mask = 4294967295 then 2 else 3
theorem tstP_le (p : Pt) : tstP p ≤ 3 := by unfold tstP; split <;> omega
theorem tstP_at {g : List Pt} {i : Nat} {p : Pt} (h : g[i]? = some p) : testAt g i = tstP p := by unfold testAt tstP; rw [h]
def szP (p : Pt) (yf nf : Bool) : Nat := if p.op = 0 then 1 else tstP p + yf.toNat + nf.toNat
theorem szP_at {g : List Pt} {ys ns : List Bool} {i : Nat} {p : Pt} (h : g[i]? = some p) : szAt g ys ns i = szP p (ys.getD i false) (ns.getD i false) := by
  unfold szAt szP tstP
  rw [h, List.getD_eq_getElem?_getD, List.getD_eq_getElem?_getD]
  simp only []
  split
  · rfl
  · split <;> omega

set_option maxHeartbeats 1000000 in
theorem lookAt_any (h : Nat) (p : Pt) (st : Nat) (y n : Value) (yf nf : Bool) (w : World) (hb : Blk w h 83 (bkCells p st y n yf nf)) (hs : st ≤ 1000) :
    Calls Tryd.prog 54 #[.pointer (some ⟨h, 0, none⟩)] w fun e w' => e = .returned (.int .i64 ((st : Int) + tstP p - 1)) ∧ w = w' := by
  obtain ⟨c0, c1, c2, c3, c4, c5, c6, c7, -, -, c10, c11⟩ := bk_cells hb
  clear hb
  rcases Decidable.em (p.mask = 4294967295) with hm | hm
  · have hdm : (p.mask != 4294967295) = false := by simp [hm]
    have HT := Lib.hid (show tstP p = 2 by unfold tstP; rw [if_pos hm])
    clear hm
    go_enter Tryd.func54, Tryd.ntmps54
    go_wp2
    go_ret
    exact ⟨ret_int (by rw [HT.out]; omega), rfl⟩
  · have hdm : (p.mask != 4294967295) = true := by simp [hm]
    have HT := Lib.hid (show tstP p = 3 by unfold tstP; rw [if_neg hm])
    clear hm
    go_enter Tryd.func54, Tryd.ntmps54
    go_wp2
    go_ret
    exact ⟨ret_int (by rw [HT.out]; omega), rfl⟩

set_option maxHeartbeats 1000000 in
theorem end_any (h : Nat) (p : Pt) (st : Nat) (y n : Value) (yf nf : Bool) (w : World) (hb : Blk w h 83 (bkCells p st y n yf nf)) (hs : st ≤ 1000) :
    Calls Tryd.prog 52 #[.pointer (some ⟨h, 0, none⟩)] w fun e w' => e = .returned (.int .i64 ((st : Int) + szP p yf nf)) ∧ w = w' := by
  have HB := Lib.hid hb
  obtain ⟨c0, c1, c2, c3, c4, c5, c6, c7, -, -, c10, c11⟩ := bk_cells hb
  have ht := tstP_le p
  clear hb
  by_cases h0 : p.op = 0
  · have hd : (p.op == 0) = true := by simp [h0]
    have HZ := Lib.hid (show szP p yf nf = 1 by unfold szP; rw [if_pos h0])
    clear h0
    go_enter Tryd.func52, Tryd.ntmps52
    go_wp2
    go_ret
    exact ⟨ret_int (by rw [HZ.out]; omega), rfl⟩
  · have hd : (p.op == 0) = false := by simp [h0]
    have HZ := Lib.hid (show szP p yf nf = tstP p + yf.toNat + nf.toNat by unfold szP; rw [if_neg h0])
    clear h0
    cases yf <;> cases nf
    all_goals
      go_enter Tryd.func52, Tryd.ntmps52
      go_wp2_with (go_at_call 54; refine (lookAt_any h p st y n _ _ _ (by exact HB.out) hs).mono ?_; rintro e w' ⟨rfl, rfl⟩)
      go_ret
      exact ⟨ret_int (by rw [HZ.out]; simp; try omega), rfl⟩
end Go.Proofs.YtoibocaaeimplaaDoor
