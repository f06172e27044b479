/- Joined texts: Blk BlkOf BlkLay BlkLay2. -/
import Derived.Test.YtgdelnpielfhkaaGreatDoorLay2
import Derived.Deep.RegionHeld3
import Derived.Deep.LoopGhost
-- How impl lays the points of a graph: blocks in memory; lookAt, end, blocksOf.
namespace Go.Proofs.YtgdelnpielfhkaaGreatDoor
open Go.RowKit
set_option linter.unusedSimpArgs false
set_option linter.unusedVariables false

/-- The cells of pointers to blocks. -/
def ptrV (h : Nat) : Value := .pointer (some ⟨h, 0, none⟩)
def pRow (hs : List Nat) : Array Value := (hs.map ptrV).toArray
theorem pRow_get (hs : List Nat) (k : Nat) : (pRow hs)[k]? = hs[k]?.map ptrV := by simp [pRow]
/-- The cells of a block. -/
def bkCells (p : Pt) (st : Nat) (y n : Value) (yf nf : Bool) : Array Value :=
  #[.int .i64 p.verdict, .int .i64 p.field, .int .i64 p.mask, .int .i64 p.op, .int .i64 p.value, .int .i64 p.yes, .int .i64 p.no, .int .i64 (st : Int), y, n, .bool yf, .bool nf]
/-- Where a point that looks leads. -/
def wayV (hs : List Nat) (p : Pt) (k : Int) : Value := if p.op = 0 then .pointer none else match hs[k.toNat]? with
  | some h => ptrV h
  | none => .pointer none
/-- The blocks of a graph, so far as they are linked. -/
structure Blks (w : World) (base : Nat) (g : List Pt) (hs : List Nat) (ss : List Nat) (ys ns : List Bool) : Prop where
  sl : ss.length = hs.length
  yl : ys.length = hs.length
  nl : ns.length = hs.length
  nd : hs.Nodup
  low : ∀ h ∈ hs, base ≤ h
  at_ : ∀ (i h : Nat) (p : Pt), hs[i]? = some h → g[i]? = some p → Blk w h 116 (bkCells p (ss.getD i 0) (wayV hs p p.yes) (wayV hs p p.no) (ys.getD i false) (ns.getD i false))

theorem Blks.below {w w' : World} {base B : Nat} {g : List Pt} {hs ss : List Nat} {ys ns : List Bool} (h : Blks w base g hs ss ys ns) (hl : hs.length ≤ g.length) (hb : Below B w w') (hB : ∀ x ∈ hs, x < B) : Blks w' base g hs ss ys ns :=
  ⟨h.sl, h.yl, h.nl, h.nd, h.low, fun i x p hi hp => (h.at_ i x p hi hp).below hb (hB x (List.mem_of_getElem? hi))⟩
theorem Blks.lt {w : World} {base : Nat} {g : List Pt} {hs ss : List Nat} {ys ns : List Bool} (h : Blks w base g hs ss ys ns) (hl : hs.length ≤ g.length) : ∀ x ∈ hs, x < w.heap.size := by
  intro x hx
  obtain ⟨i, hi, e⟩ := List.getElem_of_mem hx
  exact (h.at_ i x g[i] (by rw [← e]; exact List.getElem?_eq_getElem hi) (List.getElem?_eq_getElem (by omega))).lt
theorem Blks.next {w w' : World} {base : Nat} {g : List Pt} {hs ss : List Nat} {ys ns : List Bool} (h : Blks w base g hs ss ys ns) (hl : hs.length ≤ g.length) (hb : Below w.heap.size w w') : Blks w' base g hs ss ys ns := h.below hl hb (h.lt hl)
theorem nodup_get {hs : List Nat} (h : hs.Nodup) {i j x : Nat} (hi : hs[i]? = some x) (hj : hs[j]? = some x) : i = j := by
  obtain ⟨a, b⟩ := List.getElem?_eq_some_iff.1 hi
  obtain ⟨c, d⟩ := List.getElem?_eq_some_iff.1 hj
  exact (List.getElem_inj h).1 (b.trans d.symm)
theorem getD_ofB {α : Type} {l : List α} {k : Nat} {d x : α} (h : l[k]? = some x) : l.getD k d = x := by rw [List.getD_eq_getElem?_getD, h]; rfl
theorem getD_set_ne {α : Type} {l : List α} {k i : Nat} {d x : α} (h : k ≠ i) : (l.set k x).getD i d = l.getD i d := by
  rw [List.getD_eq_getElem?_getD, List.getD_eq_getElem?_getD, List.getElem?_set_ne h]
theorem getD_set_self {α : Type} {l : List α} {k : Nat} {d x : α} (h : k < l.length) : (l.set k x).getD k d = x := by
  rw [List.getD_eq_getElem?_getD, List.getElem?_set_self h]; rfl
/-- One cell of one block turns. -/
theorem Blks.set_at {w : World} {base : Nat} {g : List Pt} {hs ss ss' : List Nat} {ys ns ys' ns' : List Bool} (h : Blks w base g hs ss ys ns) {k x : Nat} (hk : hs[k]? = some x) (c : Nat) (v : Value)
    (hsl : ss'.length = ss.length) (hyl : ys'.length = ys.length) (hnl : ns'.length = ns.length)
    (same : ∀ i, i ≠ k → ss'.getD i 0 = ss.getD i 0 ∧ ys'.getD i false = ys.getD i false ∧ ns'.getD i false = ns.getD i false)
    (here : ∀ (p : Pt) (a b : Value), (bkCells p (ss.getD k 0) a b (ys.getD k false) (ns.getD k false)).setIfInBounds c v = bkCells p (ss'.getD k 0) a b (ys'.getD k false) (ns'.getD k false)) :
    Blks (w.setCell ⟨x, c, none⟩ v) base g hs ss' ys' ns' := by
  refine ⟨hsl.trans h.sl, hyl.trans h.yl, hnl.trans h.nl, h.nd, h.low, fun i y p hi hp => ?_⟩
  by_cases e : i = k
  · subst e
    rw [hk] at hi
    cases hi
    have := (h.at_ i x p hk hp).set_ c v
    rwa [here] at this
  · obtain ⟨e1, e2, e3⟩ := same i e
    have hne : y ≠ x := fun e' => e (nodup_get h.nd hi (e' ▸ hk))
    rw [e1, e2, e3]
    exact (h.at_ i y p hi hp).far (p := ⟨x, c, none⟩) hne _
theorem Blks.set_start {w : World} {base : Nat} {g : List Pt} {hs ss : List Nat} {ys ns : List Bool} (h : Blks w base g hs ss ys ns) {k x : Nat} (hk : hs[k]? = some x) (s : Nat) : Blks (w.setCell ⟨x, 7, none⟩ (.int .i64 (s : Int))) base g hs (ss.set k s) ys ns := by
  have hl : k < ss.length := by rw [h.sl]; exact (List.getElem?_eq_some_iff.1 hk).1
  refine h.set_at hk 7 _ (by simp) rfl rfl (fun i hi => ⟨getD_set_ne (Ne.symm hi), rfl, rfl⟩) (fun p a b => ?_)
  rw [getD_set_self hl]
  simp [bkCells]
theorem Blks.set_yes {w : World} {base : Nat} {g : List Pt} {hs ss : List Nat} {ys ns : List Bool} (h : Blks w base g hs ss ys ns) {k x : Nat} (hk : hs[k]? = some x) (b : Bool) : Blks (w.setCell ⟨x, 10, none⟩ (.bool b)) base g hs ss (ys.set k b) ns := by
  have hl : k < ys.length := by rw [h.yl]; exact (List.getElem?_eq_some_iff.1 hk).1
  refine h.set_at hk 10 _ rfl (by simp) rfl (fun i hi => ⟨rfl, getD_set_ne (Ne.symm hi), rfl⟩) (fun p a c => ?_)
  rw [getD_set_self hl]
  simp [bkCells]
theorem Blks.set_no {w : World} {base : Nat} {g : List Pt} {hs ss : List Nat} {ys ns : List Bool} (h : Blks w base g hs ss ys ns) {k x : Nat} (hk : hs[k]? = some x) (b : Bool) : Blks (w.setCell ⟨x, 11, none⟩ (.bool b)) base g hs ss ys (ns.set k b) := by
  have hl : k < ns.length := by rw [h.nl]; exact (List.getElem?_eq_some_iff.1 hk).1
  refine h.set_at hk 11 _ rfl rfl (by simp) (fun i hi => ⟨rfl, rfl, getD_set_ne (Ne.symm hi)⟩) (fun p a c => ?_)
  rw [getD_set_self hl]
  simp [bkCells]

/-- The cells of a block, one by one. -/
theorem bk_cells {w : World} {h : Nat} {p : Pt} {st : Nat} {y n : Value} {yf nf : Bool} (hb : Blk w h 116 (bkCells p st y n yf nf)) :
    w.cell? ⟨h, 0, none⟩ = some (.int .i64 p.verdict) ∧ w.cell? ⟨h, 1, none⟩ = some (.int .i64 p.field) ∧ w.cell? ⟨h, 2, none⟩ = some (.int .i64 p.mask) ∧ w.cell? ⟨h, 3, none⟩ = some (.int .i64 p.op) ∧ w.cell? ⟨h, 4, none⟩ = some (.int .i64 p.value) ∧ w.cell? ⟨h, 5, none⟩ = some (.int .i64 p.yes) ∧ w.cell? ⟨h, 6, none⟩ = some (.int .i64 p.no) ∧
    w.cell? ⟨h, 7, none⟩ = some (.int .i64 (st : Int)) ∧ w.cell? ⟨h, 8, none⟩ = some y ∧ w.cell? ⟨h, 9, none⟩ = some n ∧ w.cell? ⟨h, 10, none⟩ = some (.bool yf) ∧ w.cell? ⟨h, 11, none⟩ = some (.bool nf) :=
  ⟨hb.cell 0, hb.cell 1, hb.cell 2, hb.cell 3, hb.cell 4, hb.cell 5, hb.cell 6, hb.cell 7, hb.cell 8, hb.cell 9, hb.cell 10, hb.cell 11⟩

def tstP (p : Pt) : Nat := if p.mask = 4294967295 then 2 else 3
theorem tstP_le (p : Pt) : tstP p ≤ 3 := by unfold tstP; split <;> omega
theorem tstP_at {g : List Pt} {i : Nat} {p : Pt} (h : g[i]? = some p) : testAt g i = tstP p := by unfold testAt tstP; rw [h]
def szP (p : Pt) (yf nf : Bool) : Nat := if p.op = 0 then 1 else tstP p + yf.toNat + nf.toNat
theorem szP_at {g : List Pt} {ys ns : List Bool} {i : Nat} {p : Pt} (h : g[i]? = some p) : szAt g ys ns i = szP p (ys.getD i false) (ns.getD i false) := by
  unfold szAt szP tstP
  rw [h, List.getD_eq_getElem?_getD, List.getD_eq_getElem?_getD]
  simp only []
  split
  · rfl
  · split <;> omega

set_option maxHeartbeats 1000000 in
theorem lookAt_any (h : Nat) (p : Pt) (st : Nat) (y n : Value) (yf nf : Bool) (w : World) (hb : Blk w h 116 (bkCells p st y n yf nf)) (hs : st ≤ 1000) :
    Calls Tryz.prog 65 #[.pointer (some ⟨h, 0, none⟩)] w fun e w' => e = .returned (.int .i64 ((st : Int) + tstP p - 1)) ∧ w = w' := by
  obtain ⟨c0, c1, c2, c3, c4, c5, c6, c7, -, -, c10, c11⟩ := bk_cells hb
  clear hb
  rcases Decidable.em (p.mask = 4294967295) with hm | hm
  · have hdm : (p.mask != 4294967295) = false := by simp [hm]
    have HT := Lib.hid (show tstP p = 2 by unfold tstP; rw [if_pos hm])
    clear hm
    go_enter Tryz.func65, Tryz.ntmps65
    go_wp2
    go_ret
    exact ⟨ret_int (by rw [HT.out]; omega), rfl⟩
  · have hdm : (p.mask != 4294967295) = true := by simp [hm]
    have HT := Lib.hid (show tstP p = 3 by unfold tstP; rw [if_neg hm])
    clear hm
    go_enter Tryz.func65, Tryz.ntmps65
    go_wp2
    go_ret
    exact ⟨ret_int (by rw [HT.out]; omega), rfl⟩

set_option maxHeartbeats 1000000 in
theorem end_any (h : Nat) (p : Pt) (st : Nat) (y n : Value) (yf nf : Bool) (w : World) (hb : Blk w h 116 (bkCells p st y n yf nf)) (hs : st ≤ 1000) :
    Calls Tryz.prog 63 #[.pointer (some ⟨h, 0, none⟩)] w fun e w' => e = .returned (.int .i64 ((st : Int) + szP p yf nf)) ∧ w = w' := by
  have HB := Lib.hid hb
  obtain ⟨c0, c1, c2, c3, c4, c5, c6, c7, -, -, c10, c11⟩ := bk_cells hb
  have ht := tstP_le p
  clear hb
  by_cases h0 : p.op = 0
  · have hd : (p.op == 0) = true := by simp [h0]
    have HZ := Lib.hid (show szP p yf nf = 1 by unfold szP; rw [if_pos h0])
    clear h0
    go_enter Tryz.func63, Tryz.ntmps63
    go_wp2
    go_ret
    exact ⟨ret_int (by rw [HZ.out]; omega), rfl⟩
  · have hd : (p.op == 0) = false := by simp [h0]
    have HZ := Lib.hid (show szP p yf nf = tstP p + yf.toNat + nf.toNat by unfold szP; rw [if_neg h0])
    clear h0
    cases yf <;> cases nf
    all_goals
      go_enter Tryz.func63, Tryz.ntmps63
      go_wp2_with (go_at_call 65; refine (lookAt_any h p st y n _ _ _ (by exact HB.out) hs).mono ?_; rintro e w' ⟨rfl, rfl⟩)
      go_ret
      exact ⟨ret_int (by rw [HZ.out]; simp; try omega), rfl⟩
end Go.Proofs.YtgdelnpielfhkaaGreatDoor

-- How impl lays the points of a graph: blocksOf links a block for each point.
namespace Go.Proofs.YtgdelnpielfhkaaGreatDoor
open Go.RowKit
set_option linter.unusedSimpArgs false
set_option linter.unusedVariables false

theorem info_bkp : (Tryz.prog.info? 74).map (fun i => (i.zero, i.size, i.bytes)) = some (some (.pointer none), 1, 8) := by kernel_rfl
theorem wayV_more {hs : List Nat} {p : Pt} {k : Int} (x : Nat) (h : p.op ≠ 0 → k.toNat < hs.length) : wayV (hs ++ [x]) p k = wayV hs p k := by
  unfold wayV
  split
  · rfl
  · rename_i h0
    rw [List.getElem?_append_left (h h0)]
theorem Blks.snoc {w : World} {base x s : Nat} {g : List Pt} {hs ss : List Nat} {ys ns : List Bool} {p : Pt} {yf nf : Bool} (h : Blks w base g hs ss ys ns) (hg : graphOk g) (hx : x ∉ hs) (hb : base ≤ x) (hp : g[hs.length]? = some p)
    (hk : Blk w x 116 (bkCells p s (wayV hs p p.yes) (wayV hs p p.no) yf nf)) : Blks w base g (hs ++ [x]) (ss ++ [s]) (ys ++ [yf]) (ns ++ [nf]) := by
  refine ⟨by simp [h.sl], by simp [h.yl], by simp [h.nl], ?_, ?_, ?_⟩
  · rw [List.nodup_append]
    exact ⟨h.nd, by simp, fun a ha b hb e => by simp at hb; subst hb; subst e; exact hx ha⟩
  · intro y hy
    rcases List.mem_append.1 hy with h1 | h1
    · exact h.low y h1
    · simp at h1; omega
  · intro i y q hi hq
    have hw : ∀ m : Nat, m ≤ hs.length → g[m]? = some q → wayV (hs ++ [x]) q q.yes = wayV hs q q.yes ∧ wayV (hs ++ [x]) q q.no = wayV hs q q.no := by
      intro m hm hq'
      refine ⟨wayV_more x fun h0 => ?_, wayV_more x fun h0 => ?_⟩
      all_goals
        obtain ⟨a, b, e1, e2, h1, h2⟩ := look_ways hg hq' h0
        omega
    have hlen : i < hs.length + 1 := by have := (List.getElem?_eq_some_iff.1 hi).1; simpa using this
    by_cases e : i = hs.length
    · subst e
      rw [hp] at hq
      cases hq
      have e1 : y = x := by
        rw [List.getElem?_append_right (Nat.le_refl _)] at hi
        simp at hi
        exact hi.symm
      subst e1
      obtain ⟨a, b⟩ := hw hs.length (Nat.le_refl _) hp
      rw [a, b]
      have d1 : (ss ++ [s]).getD hs.length 0 = s := by rw [← h.sl]; simp [List.getD_eq_getElem?_getD]
      have d2 : (ys ++ [yf]).getD hs.length false = yf := by rw [← h.yl]; simp [List.getD_eq_getElem?_getD]
      have d3 : (ns ++ [nf]).getD hs.length false = nf := by rw [← h.nl]; simp [List.getD_eq_getElem?_getD]
      rw [d1, d2, d3]
      exact hk
    · have hi' : i < hs.length := by omega
      rw [List.getElem?_append_left hi'] at hi
      obtain ⟨a, b⟩ := hw i (by omega) hq
      rw [a, b]
      have d1 : (ss ++ [s]).getD i 0 = ss.getD i 0 := by rw [List.getD_eq_getElem?_getD, List.getD_eq_getElem?_getD, List.getElem?_append_left (by rw [h.sl]; exact hi')]
      have d2 : (ys ++ [yf]).getD i false = ys.getD i false := by rw [List.getD_eq_getElem?_getD, List.getD_eq_getElem?_getD, List.getElem?_append_left (by rw [h.yl]; exact hi')]
      have d3 : (ns ++ [nf]).getD i false = ns.getD i false := by rw [List.getD_eq_getElem?_getD, List.getD_eq_getElem?_getD, List.getElem?_append_left (by rw [h.nl]; exact hi')]
      rw [d1, d2, d3]
      exact h.at_ i y q hi hq

theorem set_two {p : Pt} {s : Nat} {a b y n : Value} {yf nf : Bool} : ((bkCells p s a b yf nf).setIfInBounds 8 y).setIfInBounds 9 n = bkCells p s y n yf nf := by simp [bkCells]
theorem set_two' {p : Pt} {s : Nat} {a b y n : Value} {yf nf : Bool} : ((bkCells p s a b yf nf).setIfInBounds 9 n).setIfInBounds 8 y = bkCells p s y n yf nf := by simp [bkCells]
theorem rep_snoc {α : Type} (k : Nat) (a : α) : List.replicate k a ++ [a] = List.replicate (k + 1) a := by rw [List.replicate_succ']

theorem blk_next2 (w : World) (o : Obj) (t : TypeId) (cs : Array Value) : Blk ((w.alloc o).alloc (.cells cs t)) (w.heap.size + 1) t cs := by
  have := Blk.new (w.alloc o) t cs
  rwa [show (w.alloc o).heap.size = w.heap.size + 1 by simp] at this
/-- The pointers so far. -/
def PtrTo (cur : Array Value) (hs : List Nat) : Prop := ∀ (j h : Nat), hs[j]? = some h → cur[j]? = some (ptrV h)
theorem PtrTo.snoc {cur : Array Value} {hs : List Nat} (h : PtrTo cur hs) {k : Nat} (hk : hs.length = k) (hlt : k < cur.size) (x : Nat) : PtrTo (cur.setIfInBounds k (ptrV x)) (hs ++ [x]) := by
  intro j y hj
  have hl : j < hs.length + 1 := by have := (List.getElem?_eq_some_iff.1 hj).1; simpa using this
  rw [Array.getElem?_setIfInBounds]
  by_cases e : k = j
  · subst e
    rw [if_pos rfl, if_pos hlt]
    rw [List.getElem?_append_right (by omega), hk] at hj
    simp at hj
    rw [hj]
  · rw [if_neg e]
    rw [List.getElem?_append_left (by omega)] at hj
    exact h j y hj
theorem PtrTo.row {cur : Array Value} {hs : List Nat} (h : PtrTo cur hs) (hl : cur.size = hs.length) : cur = pRow hs := by
  apply Array.ext_getElem?
  intro j
  rw [pRow_get]
  cases e : hs[j]? with
  | some x => rw [h j x e]; rfl
  | none =>
    have := List.getElem?_eq_none_iff.1 e
    rw [Array.getElem?_eq_none (by omega)]; rfl

set_option maxRecDepth 100000 in
set_option maxHeartbeats 8000000 in
theorem blocksOf_any (A : Option Addr) (n c : Nat) (g : List Pt) (w : World) (hA : SlA w 7 A n c (g.map Pt.cells)) (hg : graphOk g) :
    Calls Tryz.prog 32 #[.slice A n c] w fun e w' => ∃ hs : List Nat, e = .returned (.slice (some ⟨w.heap.size, 0, none⟩) n n) ∧ hs.length = n ∧ Blk w' w.heap.size 74 (pRow hs) ∧ Blks w' (w.heap.size + 1) g hs (List.replicate n 0) (List.replicate n false) (List.replicate n false) ∧ Below w.heap.size w w' := by
  have hl : g.length = n := by have := hA.len; simpa using this
  have hn120 : n ≤ 120 := by rw [← hl]; exact hg.1.2
  have hc := hA.cap
  have hm := hA.max
  unfold maxLen at hm
  have hmk := fun W => run_make_row' (P := Tryz.prog) 71 74 (.pointer none) 8 Tryz.underlying71 info_bkp rfl .i64 .i64 n (by omega) (by omega) W
  have HN := Lib.hid hl; have HG := Lib.hid hg; have HA := Lib.hid hA; clear hl hg hA
  go_enter Tryz.func32, Tryz.ntmps32
  go_wp2
  clear hmk
  go_loopw [11] (fun i wr => ∃ (k : Nat) (hs : List Nat) (cur : Array Value), k ≤ n ∧ i = .int .i64 k ∧ hs.length = k ∧ Blk wr w.heap.size 74 cur ∧ cur.size = n ∧ PtrTo cur hs ∧ Blks wr (w.heap.size + 1) g hs (List.replicate k 0) (List.replicate k false) (List.replicate k false) ∧ Below w.heap.size w wr) (fun i _ => n - (intOf i).toNat)
  case atStart =>
    refine ⟨0, [], _, Nat.zero_le _, rfl, rfl, Blk.new w _ _, by simp [size_madeCells], fun j h hj => by simp at hj, ⟨rfl, rfl, rfl, by simp, by simp, fun i h p hi => by simp at hi⟩, by go_grown⟩
  case round =>
    obtain ⟨k, hs, cur, hk, rfl, hsl, hB, hcs, hpt, hbk, hbw⟩ := hrel
    have hz := hbw.size
    have hBl := hB.lt
    by_cases hlt : k < n
    · have hki : (k : Int) < n := by omega
      obtain ⟨b, off, p, rfl, hab, hgp, hcell⟩ := pts_get HA.out hlt
      obtain ⟨c0, c1, c2, c3, c4, c5, c6⟩ := hcell wr _ hbw hab
      obtain ⟨x0, e0⟩ := hB.some_ (i := k) (by omega)
      have f0 := hB.frozen k
      have hpt2 := hpt.snoc hsl (by omega) (wr.heap.size + 1)
      obtain ⟨W0, hW0⟩ : ∃ W, W = wr.setCell ⟨w.heap.size, k, none⟩ (.pointer (some ⟨wr.heap.size + 1, 0, none⟩)) := ⟨_, rfl⟩
      have hz0 : W0.heap.size = wr.heap.size := by rw [hW0]; simp
      obtain ⟨W, hW⟩ : ∃ W, W = (W0.alloc (.cells #[.int .i64 p.verdict, .int .i64 p.field, .int .i64 p.mask, .int .i64 p.op, .int .i64 p.value, .int .i64 p.yes, .int .i64 p.no] 81)).alloc (.cells #[.int .i64 p.verdict, .int .i64 p.field, .int .i64 p.mask, .int .i64 p.op, .int .i64 p.value, .int .i64 p.yes, .int .i64 p.no, .int .i64 0, .pointer none, .pointer none, .bool false, .bool false] 116) := ⟨_, rfl⟩
      have P1 : Blk W wr.heap.size 81 #[.int .i64 p.verdict, .int .i64 p.field, .int .i64 p.mask, .int .i64 p.op, .int .i64 p.value, .int .i64 p.yes, .int .i64 p.no] := by
        rw [hW, ← hz0]; exact (Blk.new W0 _ _).alloc _
      have P2 : Blk W (wr.heap.size + 1) 116 (bkCells p 0 (.pointer none) (.pointer none) false false) := by
        rw [hW, ← hz0]; exact blk_next2 W0 _ _ _
      have P3 : Blk W w.heap.size 74 (cur.setIfInBounds k (ptrV (wr.heap.size + 1))) := by
        rw [hW, hW0]; exact ((hB.set_ k _).alloc _).alloc _
      have hll : hs.length ≤ g.length := by rw [HN.out]; omega
      have P5 : Blks W (w.heap.size + 1) g hs (List.replicate k 0) (List.replicate k false) (List.replicate k false) := by
        rw [hW, hW0]
        refine ⟨hbk.sl, hbk.yl, hbk.nl, hbk.nd, hbk.low, fun i x q hi hq => (((hbk.at_ i x q hi hq).far (p := ⟨w.heap.size, k, none⟩) ?_ _).alloc _).alloc _⟩
        have := hbk.low x (List.mem_of_getElem? hi)
        simp; omega
      have P6 : Below w.heap.size w W := by
        rw [hW, hW0]; exact ((hbw.setCell (p := ⟨w.heap.size, k, none⟩) (Nat.le_refl _) _).alloc (by simpa using hz) _).alloc (by simp; omega) _
      have hcs2 : (cur.setIfInBounds k (ptrV (wr.heap.size + 1))).size = n := by simpa using hcs
      have hx1 : wr.heap.size + 1 ∉ hs := fun h => by have := hbk.lt hll _ h; omega
      have HW := Lib.hid hW; have HW0 := Lib.hid hW0; have HP := Lib.hid hgp
      have hn1 : ¬ wr.heap.size = w.heap.size := by omega
      have hn2 : ¬ wr.heap.size + 1 = w.heap.size := by omega
      by_cases h0 : p.op = 0
      · have hd : (p.op == 0) = true := by simp [h0]
        have hy : wayV hs p p.yes = .pointer none ∧ wayV hs p p.no = .pointer none := by unfold wayV; rw [if_pos h0, if_pos h0]; exact ⟨rfl, rfl⟩
        have HX := Lib.hid (P5.snoc HG.out hx1 (by omega) (by rw [hsl]; exact HP.out) (by rw [hy.1, hy.2]; exact P2)); have HX3 := Lib.hid P3; have HX6 := Lib.hid P6; have HPT := Lib.hid hpt2; have HCS := Lib.hid hcs2
        clear hW hW0 hgp hbk P1 P2 P3 P5 P6 hpt hpt2 hcs2 hcell h0 hy  hz0
        go_wp2
        rw [← HW0.out, ← HW.out]
        refine ⟨⟨k + 1, hs ++ [wr.heap.size + 1], _, by omega, by go_num, by simp [hsl], HX3.out, HCS.out, HPT.out, ?_, HX6.out⟩, by simp [intOf]; omega⟩
        have := HX.out
        rwa [rep_snoc, rep_snoc] at this
      · have hd : (p.op == 0) = false := by simp [h0]
        obtain ⟨y, nn, hy, hnn, hyk, hnk⟩ := look_ways HG.out hgp h0
        obtain ⟨hyv, hyg⟩ : ∃ x, hs[y]? = some x := ⟨_, List.getElem?_eq_getElem (by omega)⟩
        obtain ⟨hnv, hng⟩ : ∃ x, hs[nn]? = some x := ⟨_, List.getElem?_eq_getElem (by omega)⟩
        have wy : wayV hs p p.yes = .pointer (some ⟨hyv, 0, none⟩) := by unfold wayV; rw [if_neg h0, hy, Int.toNat_natCast, hyg]; rfl
        have wn : wayV hs p p.no = .pointer (some ⟨hnv, 0, none⟩) := by unfold wayV; rw [if_neg h0, hnn, Int.toNat_natCast, hng]; rfl
        have d5 : W.cell? ⟨wr.heap.size, 5, none⟩ = some (.int .i64 (y : Int)) := by rw [← hy]; exact P1.cell 5
        have d6 : W.cell? ⟨wr.heap.size, 6, none⟩ = some (.int .i64 (nn : Int)) := by rw [← hnn]; exact P1.cell 6
        have dk : W.cell? ⟨w.heap.size, k, none⟩ = some (.pointer (some ⟨wr.heap.size + 1, 0, none⟩)) := by rw [P3.cell, Array.getElem?_setIfInBounds, if_pos rfl, if_pos (by omega)]; rfl
        have dy : W.cell? ⟨w.heap.size, y, none⟩ = some (.pointer (some ⟨hyv, 0, none⟩)) := by rw [P3.cell, Array.getElem?_setIfInBounds, if_neg (by omega)]; exact hpt y hyv hyg
        have dn : W.cell? ⟨w.heap.size, nn, none⟩ = some (.pointer (some ⟨hnv, 0, none⟩)) := by rw [P3.cell, Array.getElem?_setIfInBounds, if_neg (by omega)]; exact hpt nn hnv hng
        have e8 : W.cell? ⟨wr.heap.size + 1, 8, none⟩ = some (.pointer none) := P2.cell 8
        have e9 : W.cell? ⟨wr.heap.size + 1, 9, none⟩ = some (.pointer none) := P2.cell 9
        have f8 := P2.frozen 8
        have f9 := P2.frozen 9
        have hyi : (y : Int) < n := by omega
        have hni : (nn : Int) < n := by omega
        have X1 : Blk ((W.drew.setCell ⟨wr.heap.size + 1, 8, none⟩ (.pointer (some ⟨hyv, 0, none⟩))).setCell ⟨wr.heap.size + 1, 9, none⟩ (.pointer (some ⟨hnv, 0, none⟩))) (wr.heap.size + 1) 116 (bkCells p 0 (wayV hs p p.yes) (wayV hs p p.no) false false) := by
          rw [wy, wn, ← set_two]; exact (P2.drew.set_ 8 _).set_ 9 _
        have X2 : Blk ((W.drew.setCell ⟨wr.heap.size + 1, 9, none⟩ (.pointer (some ⟨hnv, 0, none⟩))).setCell ⟨wr.heap.size + 1, 8, none⟩ (.pointer (some ⟨hyv, 0, none⟩))) (wr.heap.size + 1) 116 (bkCells p 0 (wayV hs p p.yes) (wayV hs p p.no) false false) := by
          rw [wy, wn, ← set_two']; exact (P2.drew.set_ 9 _).set_ 8 _
        have HX1 := Lib.hid X1; have HX2 := Lib.hid X2; have HP3 := Lib.hid P3; have HP5 := Lib.hid P5; have HP6 := Lib.hid P6; have HPT := Lib.hid hpt2; have HCS := Lib.hid hcs2
        have hnk1 : ∀ x ∈ hs, x ≠ wr.heap.size + 1 := fun x hx e => hx1 (e ▸ hx)
        have HNK := Lib.hid hnk1; have HX0 := Lib.hid hx1
        clear hW hW0 hgp hbk P1 P2 P3 P5 P6 hpt hpt2 hcs2 hcell h0 hy hnn  hz0 X1 X2 hyg hng wy wn hnk1 hx1
        go_wp2
        rw [← HW0.out, ← HW.out]
        go_region_held3 (fun w' => w'.cell? ⟨w.heap.size, k, none⟩ = some (.pointer (some ⟨wr.heap.size + 1, 0, none⟩)) ∧ w'.cell? ⟨w.heap.size, y, none⟩ = some (.pointer (some ⟨hyv, 0, none⟩)) ∧ w'.cell? ⟨w.heap.size, nn, none⟩ = some (.pointer (some ⟨hnv, 0, none⟩)) ∧ w'.cell? ⟨wr.heap.size, 5, none⟩ = some (.int .i64 (y : Int)) ∧ w'.cell? ⟨wr.heap.size, 6, none⟩ = some (.int .i64 (nn : Int))) (go_keep) (fail)
        all_goals
          go_wp2
          refine ⟨⟨k + 1, hs ++ [wr.heap.size + 1], _, by omega, by go_num, by simp [hsl], (HP3.out.drew.far (p := ⟨wr.heap.size + 1, _, none⟩) (by simp; omega) _).far (p := ⟨wr.heap.size + 1, _, none⟩) (by simp; omega) _, HCS.out, HPT.out, ?_, (HP6.out.drew.setCell (p := ⟨wr.heap.size + 1, _, none⟩) (by simp; omega) _).setCell (p := ⟨wr.heap.size + 1, _, none⟩) (by simp; omega) _⟩, by simp [intOf]; omega⟩
          rw [← rep_snoc, ← rep_snoc]
          refine Blks.snoc ⟨HP5.out.sl, HP5.out.yl, HP5.out.nl, HP5.out.nd, HP5.out.low, fun i x q hi hq => (((HP5.out.at_ i x q hi hq).drew).far (p := ⟨wr.heap.size + 1, _, none⟩) (HNK.out x (List.mem_of_getElem? hi)) _).far (p := ⟨wr.heap.size + 1, _, none⟩) (HNK.out x (List.mem_of_getElem? hi)) _⟩ HG.out HX0.out (by omega) (by rw [hsl]; exact HP.out) ?_
          first | exact HX1.out | exact HX2.out
    · obtain rfl : k = n := by omega
      have HX := Lib.hid (hpt.row (by omega)); have HB := Lib.hid hB; have HK := Lib.hid hbk
      clear hpt hB hbk
      go_wp2
      go_ret
      exact ⟨hs, rfl, hsl, by rw [← HX.out]; exact HB.out, HK.out, hbw⟩
end Go.Proofs.YtgdelnpielfhkaaGreatDoor

-- How impl lays the points of a graph: spread and lay.
namespace Go.Proofs.YtgdelnpielfhkaaGreatDoor
open Go.RowKit
set_option linter.unusedSimpArgs false
set_option linter.unusedVariables false

theorem Blks.ptr {w : World} {base : Nat} {g : List Pt} {hs ss : List Nat} {ys ns : List Bool} (h : Blks w base g hs ss ys ns) {i x : Nat} {p : Pt} (hi : hs[i]? = some x) (hp : g[i]? = some p) {s : Nat} {yv nv : Bool} (he : ss.getD i 0 = s) (hy : ys.getD i false = yv) (hn : ns.getD i false = nv) :
    Blk w x 116 (bkCells p s (wayV hs p p.yes) (wayV hs p p.no) yv nv) := by
  have := h.at_ i x p hi hp
  rwa [he, hy, hn] at this
theorem wayV_look {hs : List Nat} {p : Pt} {y x : Nat} (h0 : p.op ≠ 0) (hy : hs[y]? = some x) : wayV hs p (y : Int) = .pointer (some ⟨x, 0, none⟩) := by
  unfold wayV; rw [if_neg h0, Int.toNat_natCast, hy]; rfl
theorem pRow_cell {w : World} {R k x : Nat} {hs : List Nat} {t : TypeId} (h : Blk w R t (pRow hs)) (hk : hs[k]? = some x) : w.cell? ⟨R, k, none⟩ = some (.pointer (some ⟨x, 0, none⟩)) := by
  rw [h.cell, pRow_get, hk]; rfl
theorem far_cases {v : Bool} {a : Int} : v = true ∨ (v = false ∧ ¬ (a > 6)) ∨ (v = false ∧ a > 6) := by
  cases v
  · by_cases h : a > 6
    · exact .inr (.inr ⟨rfl, h⟩)
    · exact .inr (.inl ⟨rfl, h⟩)
  · exact .inl rfl
/-- What a round of 'spread' does to the count of near ways. -/
structure StepN (P : Nat → Bool) (l : List Bool) (k : Nat) (v : Bool) (c : Bool) : Prop where
  same : c = false → stepF P l (k + 1) = stepF P l k
  set_ : c = true → stepF P l (k + 1) = (stepF P l k).set k true ∧ nearN (stepF P l (k + 1)) + 1 = nearN (stepF P l k)
theorem StepN.of {P : Nat → Bool} {l : List Bool} {k : Nat} {v : Bool} (h : l[k]? = some v) : StepN P l k v (!v && P k) := by
  refine ⟨fun hc => stepF_same h ?_, fun hc => ?_⟩
  · cases v
    · simpa using hc
    · rfl
  · cases v
    · have hP : P k = true := by simpa using hc
      have e : stepF P l (k + 1) = (stepF P l k).set k true := by rw [stepF_set h, hP]; rfl
      exact ⟨e, by rw [e]; exact nearN_set (stepF_at h)⟩
    · simp at hc

/-- What 'spread' has told so far. -/
def SpreadOk (g : List Pt) (ys ns : List Bool) (k : Nat) (ch : Bool) : Prop :=
  (ch = false ∧ nearN (stepF (farY g ys ns) ys k) + nearN (stepF (farN g ys ns) ns k) = nearN ys + nearN ns) ∨ (ch = true ∧ nearN (stepF (farY g ys ns) ys k) + nearN (stepF (farN g ys ns) ns k) < nearN ys + nearN ns)
theorem SpreadOk.next {g : List Pt} {ys ns : List Bool} {k : Nat} {ch yv nv cy cn : Bool} (h : SpreadOk g ys ns k ch) (hy : StepN (farY g ys ns) ys k yv cy) (hn : StepN (farN g ys ns) ns k nv cn) : SpreadOk g ys ns (k + 1) (ch || cy || cn) := by
  have e1 : (cy = false ∧ nearN (stepF (farY g ys ns) ys (k + 1)) = nearN (stepF (farY g ys ns) ys k)) ∨ (cy = true ∧ nearN (stepF (farY g ys ns) ys (k + 1)) + 1 = nearN (stepF (farY g ys ns) ys k)) := by
    cases hc : cy
    · exact .inl ⟨rfl, by rw [hy.same hc]⟩
    · exact .inr ⟨rfl, (hy.set_ hc).2⟩
  have e2 : (cn = false ∧ nearN (stepF (farN g ys ns) ns (k + 1)) = nearN (stepF (farN g ys ns) ns k)) ∨ (cn = true ∧ nearN (stepF (farN g ys ns) ns (k + 1)) + 1 = nearN (stepF (farN g ys ns) ns k)) := by
    cases hc : cn
    · exact .inl ⟨rfl, by rw [hn.same hc]⟩
    · exact .inr ⟨rfl, (hn.set_ hc).2⟩
  unfold SpreadOk at h ⊢
  rcases e1 with ⟨rfl, e1⟩ | ⟨rfl, e1⟩ <;> rcases e2 with ⟨rfl, e2⟩ | ⟨rfl, e2⟩ <;> rcases h with ⟨rfl, h⟩ | ⟨rfl, h⟩
  all_goals first
    | exact .inl ⟨rfl, by omega⟩
    | exact .inr ⟨rfl, by omega⟩
theorem SpreadOk.fin {g : List Pt} {ys ns : List Bool} {ch : Bool} (h : SpreadOk g ys ns g.length ch) : ch = false ↔ (nextY g ys ns = ys ∧ nextN g ys ns = ns) := by
  unfold nextY nextN
  have n1 := stepF_near (farY g ys ns) ys g.length
  have n2 := stepF_near (farN g ys ns) ns g.length
  constructor
  · intro hok
    rcases h with ⟨_, h⟩ | ⟨h, _⟩
    · refine ⟨Decidable.byContradiction fun hne => ?_, Decidable.byContradiction fun hne => ?_⟩
      · have := n1.2 hne; omega
      · have := n2.2 hne; omega
    · rw [hok] at h; cases h
  · rintro ⟨h1, h2⟩
    rcases h with ⟨h, _⟩ | ⟨_, h⟩
    · exact h
    · rw [h1, h2] at h; omega

set_option maxRecDepth 100000 in
set_option maxHeartbeats 8000000 in
theorem spread_any (R n base : Nat) (g : List Pt) (hs ss : List Nat) (ys ns : List Bool) (w : World) (hR : Blk w R 74 (pRow hs)) (hB : Blks w base g hs ss ys ns) (hl : hs.length = n) (hgl : g.length = n) (hg : graphOk g) (hst : Starts g ys ns ss) :
    Calls Tryz.prog 64 #[.slice (some ⟨R, 0, none⟩) n n] w fun e w' => ∃ ch : Bool, e = .returned (.bool ch) ∧ Blk w' R 74 (pRow hs) ∧ Blks w' base g hs ss (nextY g ys ns) (nextN g ys ns) ∧ (ch = false ↔ (nextY g ys ns = ys ∧ nextN g ys ns = ns)) ∧ Below base w w' := by
  have hn120 : n ≤ 120 := by rw [← hgl]; exact hg.1.2
  have HR := Lib.hid hR; have HB := Lib.hid hB; have HL := Lib.hid hl; have HN := Lib.hid hgl; have HG := Lib.hid hg; have HST := Lib.hid hst; clear hR hB hl hgl hg hst
  go_enter Tryz.func64, Tryz.ntmps64
  go_wp2
  go_loopw [3, 9] (fun c i wr => ∃ (k : Nat) (ch : Bool), k ≤ n ∧ i = .int .i64 k ∧ c = .bool ch ∧ Blk wr R 74 (pRow hs) ∧ Blks wr base g hs ss (stepF (farY g ys ns) ys k) (stepF (farN g ys ns) ns k) ∧ SpreadOk g ys ns k ch ∧ Below base w wr) (fun _ i _ => n - (intOf i).toNat)
  case atStart => exact ⟨0, false, Nat.zero_le _, rfl, rfl, HR.out, by rw [stepF_zero, stepF_zero]; exact HB.out, .inl ⟨rfl, by rw [stepF_zero, stepF_zero]⟩, Below.refl _ _⟩
  case round =>
    obtain ⟨k, ch, hk, rfl, rfl, hR, hB, hok, hbw⟩ := hrel
    by_cases hkn : k < n
    · have hki : (k : Int) < n := by omega
      obtain ⟨p, hgp⟩ : ∃ p, g[k]? = some p := ⟨_, List.getElem?_eq_getElem (by rw [HN.out]; omega)⟩
      obtain ⟨x, hx⟩ : ∃ x, hs[k]? = some x := ⟨_, List.getElem?_eq_getElem (by rw [HL.out]; omega)⟩
      obtain ⟨yv, hyv⟩ := bRow_some (rs := ys) (n := n) (by have := hB.yl; rw [stepF_len] at this; rw [this, HL.out]) hkn
      obtain ⟨nv, hnv⟩ := bRow_some (rs := ns) (n := n) (by have := hB.nl; rw [stepF_len] at this; rw [this, HL.out]) hkn
      have d0 := pRow_cell hR hx
      have hbk := hB.ptr hx hgp (getD_ofB (HST.out k (by rw [HN.out]; exact hkn))) (getD_ofB (stepF_at (P := farY g ys ns) hyv)) (getD_ofB (stepF_at (P := farN g ys ns) hnv))
      have sy := StepN.of (P := farY g ys ns) hyv
      have sn := StepN.of (P := farN g ys ns) hnv
      have hlow := hB.low x (List.mem_of_getElem? hx)
      by_cases h0 : p.op = 0
      · have hd : (p.op == 0) = true := by simp [h0]
        have c3 := hbk.cell 3
        simp [bkCells] at c3
        have HE1 := Lib.hid (stepF_same (P := farY g ys ns) hyv (by simp [farY, hgp, h0])); have HE2 := Lib.hid (stepF_same (P := farN g ys ns) hnv (by simp [farN, hgp, h0]))
        have HRx := Lib.hid hR; have HBx := Lib.hid hB; have HOx := Lib.hid hok
        clear hR hB hok hbk sy sn hgp hx hyv hnv h0
        go_wp2
        exact ⟨⟨k + 1, ch, by omega, by go_num, rfl, HRx.out, by rw [HE1.out, HE2.out]; exact HBx.out, by unfold SpreadOk; rw [HE1.out, HE2.out]; exact HOx.out, hbw⟩, by simp [intOf]; omega⟩
      · have hd : (p.op == 0) = false := by simp [h0]
        obtain ⟨y, nn, hy, hnn, hyk, hnk⟩ := look_ways HG.out hgp h0
        obtain ⟨xy, hxy⟩ : ∃ x, hs[y]? = some x := ⟨_, List.getElem?_eq_getElem (by rw [HL.out]; omega)⟩
        obtain ⟨xn, hxn⟩ : ∃ x, hs[nn]? = some x := ⟨_, List.getElem?_eq_getElem (by rw [HL.out]; omega)⟩
        obtain ⟨py, hpy⟩ : ∃ p, g[y]? = some p := ⟨_, List.getElem?_eq_getElem (by rw [HN.out]; omega)⟩
        obtain ⟨pn, hpn⟩ : ∃ p, g[nn]? = some p := ⟨_, List.getElem?_eq_getElem (by rw [HN.out]; omega)⟩
        have ty : wr.cell? ⟨xy, 7, none⟩ = some (.int .i64 (stAt g ys ns y : Nat)) := (hB.ptr hxy hpy (getD_ofB (HST.out y (by rw [HN.out]; omega))) rfl rfl).cell 7
        have tn : wr.cell? ⟨xn, 7, none⟩ = some (.int .i64 (stAt g ys ns nn : Nat)) := (hB.ptr hxn hpn (getD_ofB (HST.out nn (by rw [HN.out]; omega))) rfl rfl).cell 7
        have hbk2 := hbk
        rw [hy, hnn, wayV_look h0 hxy, wayV_look h0 hxn] at hbk2
        have hne1 : ¬ xy = x := fun e => by subst e; have := nodup_get hB.nd hxy hx; omega
        have hne2 : ¬ xn = x := fun e => by subst e; have := nodup_get hB.nd hxn hx; omega
        have FY : farY g ys ns k = decide ((stAt g ys ns y : Int) - (stAt g ys ns k + testAt g k) > 6) := by unfold farY; rw [hgp]; simp [h0, hy]
        have FN : farN g ys ns k = decide ((stAt g ys ns nn : Int) - (stAt g ys ns k + testAt g k) > 6) := by unfold farN; rw [hgp]; simp [h0, hnn]
        rw [tstP_at hgp] at FY FN
        rw [FY] at sy
        rw [FN] at sn
        have s1 : stAt g ys ns k ≤ 600 := Nat.le_trans (stAt_le g ys ns k) (by rw [HN.out]; omega)
        have s2 : stAt g ys ns y ≤ 600 := Nat.le_trans (stAt_le g ys ns y) (by rw [HN.out]; omega)
        have s3 : stAt g ys ns nn ≤ 600 := Nat.le_trans (stAt_le g ys ns nn) (by rw [HN.out]; omega)
        have s4 := tstP_le p
        have HSO := Lib.hid (hok.next sy sn)
        have hRx : R ≠ x := blk_apart hR hbk (by decide)
        have HRN := Lib.hid hRx
        clear hRx
        obtain ⟨-, -, -, c3, -, -, -, c7, c8, c9, c10, c11⟩ := bk_cells hbk2
        have f10 := hbk2.frozen 10
        have f11 := hbk2.frozen 11
        have HRx := Lib.hid hR; have HBx := Lib.hid hB; have HX := Lib.hid hx; have SY := Lib.hid sy; have SN := Lib.hid sn
        have HLK := Lib.hid (lookAt_any x p (stAt g ys ns k) (wayV hs p p.yes) (wayV hs p p.no) yv nv wr hbk (by omega))
        clear hR hB hok hbk hbk2 sy sn hgp hx hyv hnv h0 FY FN hxy hxn hpy hpn hy hnn
        generalize stAt g ys ns k = SK at *
        generalize stAt g ys ns y = SYv at *
        generalize stAt g ys ns nn = SNv at *
        generalize tstP p = TK at *
        rcases far_cases (v := yv) (a := (SYv : Int) - (SK + TK)) with rfl | ⟨rfl, hfy⟩ | ⟨rfl, hfy⟩
        case' inl => have e1 : stepF (farY g ys ns) ys (k + 1) = stepF (farY g ys ns) ys k := SY.out.same rfl
        case' inr.inl =>
          have hcy : decide ((SYv : Int) - (SK + TK) > 6) = false := by simp; omega
          have e1 : stepF (farY g ys ns) ys (k + 1) = stepF (farY g ys ns) ys k := SY.out.same (by rw [hcy]; rfl)
        case' inr.inr =>
          have hcy : decide ((SYv : Int) - (SK + TK) > 6) = true := by simp; omega
          have e1 : stepF (farY g ys ns) ys (k + 1) = (stepF (farY g ys ns) ys k).set k true := (SY.out.set_ (by rw [hcy]; rfl)).1
        all_goals
          rcases far_cases (v := nv) (a := (SNv : Int) - (SK + TK)) with rfl | ⟨rfl, hfn⟩ | ⟨rfl, hfn⟩
          rotate_left 1
          · have hcn : decide ((SNv : Int) - (SK + TK) > 6) = false := by simp; omega
            have e2 : stepF (farN g ys ns) ns (k + 1) = stepF (farN g ys ns) ns k := SN.out.same (by rw [hcn]; rfl)
            have HE1 := Lib.hid e1; have HE2 := Lib.hid e2
            have HSO1 := HSO.out
            try rw [hcy] at HSO1
            try rw [hcn] at HSO1
            have HSO2 := Lib.hid HSO1
            clear e1 e2 HSO1 HSO SY SN
            try clear hcy
            try clear hcn
            go_wp2_with (go_at_call 65; refine HLK.out.mono ?_; rintro e w' ⟨rfl, rfl⟩)
            refine ⟨⟨k + 1, _, by omega, by go_num, rfl, ?_, by rw [HE1.out, HE2.out]; first | exact HBx.out | exact HBx.out.set_yes HX.out true | exact HBx.out.set_no HX.out true | exact (HBx.out.set_yes HX.out true).set_no HX.out true, by simpa using HSO2.out, ?_⟩, by simp [intOf]; omega⟩
            all_goals first
              | exact HRx.out
              | exact HRx.out.far (p := ⟨x, 10, none⟩) HRN.out _
              | exact HRx.out.far (p := ⟨x, 11, none⟩) HRN.out _
              | exact (HRx.out.far (p := ⟨x, 10, none⟩) HRN.out _).far (p := ⟨x, 11, none⟩) HRN.out _
              | exact hbw
              | exact hbw.setCell (p := ⟨x, 10, none⟩) hlow _
              | exact hbw.setCell (p := ⟨x, 11, none⟩) hlow _
              | exact (hbw.setCell (p := ⟨x, 10, none⟩) hlow _).setCell (p := ⟨x, 11, none⟩) hlow _
          · have hcn : decide ((SNv : Int) - (SK + TK) > 6) = true := by simp; omega
            have e2 : stepF (farN g ys ns) ns (k + 1) = (stepF (farN g ys ns) ns k).set k true := (SN.out.set_ (by rw [hcn]; rfl)).1
            have HE1 := Lib.hid e1; have HE2 := Lib.hid e2
            have HSO1 := HSO.out
            try rw [hcy] at HSO1
            try rw [hcn] at HSO1
            have HSO2 := Lib.hid HSO1
            clear e1 e2 HSO1 HSO SY SN
            try clear hcy
            try clear hcn
            go_wp2_with (go_at_call 65; refine HLK.out.mono ?_; rintro e w' ⟨rfl, rfl⟩)
            refine ⟨⟨k + 1, _, by omega, by go_num, rfl, ?_, by rw [HE1.out, HE2.out]; first | exact HBx.out | exact HBx.out.set_yes HX.out true | exact HBx.out.set_no HX.out true | exact (HBx.out.set_yes HX.out true).set_no HX.out true, by simpa using HSO2.out, ?_⟩, by simp [intOf]; omega⟩
            all_goals first
              | exact HRx.out
              | exact HRx.out.far (p := ⟨x, 10, none⟩) HRN.out _
              | exact HRx.out.far (p := ⟨x, 11, none⟩) HRN.out _
              | exact (HRx.out.far (p := ⟨x, 10, none⟩) HRN.out _).far (p := ⟨x, 11, none⟩) HRN.out _
              | exact hbw
              | exact hbw.setCell (p := ⟨x, 10, none⟩) hlow _
              | exact hbw.setCell (p := ⟨x, 11, none⟩) hlow _
              | exact (hbw.setCell (p := ⟨x, 10, none⟩) hlow _).setCell (p := ⟨x, 11, none⟩) hlow _
          · have e2 : stepF (farN g ys ns) ns (k + 1) = stepF (farN g ys ns) ns k := SN.out.same rfl
            have HE1 := Lib.hid e1; have HE2 := Lib.hid e2
            have HSO1 := HSO.out
            try rw [hcy] at HSO1
            try rw [hcn] at HSO1
            have HSO2 := Lib.hid HSO1
            clear e1 e2 HSO1 HSO SY SN
            try clear hcy
            try clear hcn
            go_wp2_with (go_at_call 65; refine HLK.out.mono ?_; rintro e w' ⟨rfl, rfl⟩)
            refine ⟨⟨k + 1, _, by omega, by go_num, rfl, ?_, by rw [HE1.out, HE2.out]; first | exact HBx.out | exact HBx.out.set_yes HX.out true | exact HBx.out.set_no HX.out true | exact (HBx.out.set_yes HX.out true).set_no HX.out true, by simpa using HSO2.out, ?_⟩, by simp [intOf]; omega⟩
            all_goals first
              | exact HRx.out
              | exact HRx.out.far (p := ⟨x, 10, none⟩) HRN.out _
              | exact HRx.out.far (p := ⟨x, 11, none⟩) HRN.out _
              | exact (HRx.out.far (p := ⟨x, 10, none⟩) HRN.out _).far (p := ⟨x, 11, none⟩) HRN.out _
              | exact hbw
              | exact hbw.setCell (p := ⟨x, 10, none⟩) hlow _
              | exact hbw.setCell (p := ⟨x, 11, none⟩) hlow _
              | exact (hbw.setCell (p := ⟨x, 10, none⟩) hlow _).setCell (p := ⟨x, 11, none⟩) hlow _
    · obtain rfl : k = n := by omega
      have HO := Lib.hid hok; have HRx := Lib.hid hR; have HBx := Lib.hid hB; clear hok hR hB
      go_wp2
      go_ret
      exact ⟨ch, rfl, HRx.out, by unfold nextY nextN; rw [HN.out]; exact HBx.out, by have := HO.out; rw [← HN.out] at this; exact this.fin, hbw⟩
end Go.Proofs.YtgdelnpielfhkaaGreatDoor

-- How impl lays the points of a graph: lay.
namespace Go.Proofs.YtgdelnpielfhkaaGreatDoor
open Go.RowKit
set_option linter.unusedSimpArgs false
set_option linter.unusedVariables false

set_option maxRecDepth 100000 in
set_option maxHeartbeats 8000000 in
theorem lay_any (R n base : Nat) (g : List Pt) (hs ss : List Nat) (ys ns : List Bool) (w : World) (hR : Blk w R 74 (pRow hs)) (hB : Blks w base g hs ss ys ns) (hl : hs.length = n) (hgl : g.length = n) (hg : graphOk g) :
    Calls Tryz.prog 33 #[.slice (some ⟨R, 0, none⟩) n n] w fun e w' => ∃ (ss' : List Nat) (ys' ns' : List Bool), e = .returned (.tuple #[]) ∧ Blk w' R 74 (pRow hs) ∧ Blks w' base g hs ss' ys' ns' ∧ Starts g ys' ns' ss' ∧ LayRel g ys ns ys' ns' ∧ Below base w w' := by
  have hn120 : n ≤ 120 := by rw [← hgl]; exact hg.1.2
  have HR := Lib.hid hR; have HB := Lib.hid hB; have HL := Lib.hid hl; have HN := Lib.hid hgl; have HG := Lib.hid hg; clear hR hB hl hgl hg
  go_enter Tryz.func33, Tryz.ntmps33
  go_wp2
  go_step3
  go_wp2
  go_step3
  go_wp2
  go_loopg [] (nearN ys + nearN ns) (fun gk wr => ∃ (ss' : List Nat) (ys' ns' : List Bool), gk = nearN ys' + nearN ns' ∧ Blk wr R 74 (pRow hs) ∧ Blks wr base g hs ss' ys' ns' ∧ Hid (∀ a b, LayRel g ys' ns' a b → LayRel g ys ns a b) ∧ Below base w wr)
  case atStart => exact ⟨ss, ys, ns, rfl, HR.out, HB.out, Lib.hid (fun a b h => h), Below.refl _ _⟩
  case round =>
    obtain ⟨ss', ys', ns', hgk, hR, hB, HLR, hbw⟩ := hrel
    have hts : ∀ k, tailSum (szAt g ys' ns') n k ≤ 600 := fun k => Nat.le_trans (tailSum_le (szAt_le g ys' ns') n _ k rfl) (by omega)
    have HGK := Lib.hid hgk; have HTS := Lib.hid hts; have HRa := Lib.hid hR; have HBa := Lib.hid hB; clear hgk hts hR hB
    go_wp2
    go_loopg [2, 3] n (fun gk m i wx => ∃ (k : Nat) (z : Int) (ss2 : List Nat), k ≤ n ∧ z + 1 = k ∧ gk = k ∧ i = .int .i64 z ∧ m = .int .i64 (tailSum (szAt g ys' ns') n k : Nat) ∧ Blk wx R 74 (pRow hs) ∧ Blks wx base g hs ss2 ys' ns' ∧ Hid (∀ j, k ≤ j → j < n → ss2[j]? = some (stAt g ys' ns' j)) ∧ Below base w wx)
    case atStart => exact ⟨n, (n : Int) - 1, ss', Nat.le_refl _, by omega, rfl, by go_num, by rw [tailSum_end]; rfl, HRa.out, HBa.out, Lib.hid (fun j h1 h2 => absurd h1 (by omega)), hbw⟩
    case round =>
      obtain ⟨k, z, ss2, hk, hkz, hgk2, rfl, rfl, hR, hB, HST, hbw2⟩ := hrel
      clear hbw
      by_cases hge : 0 ≤ z
      · obtain ⟨m, rfl⟩ : ∃ m : Nat, z = m := ⟨z.toNat, by omega⟩
        obtain rfl : k = m + 1 := by omega
        have hmn : m < n := by omega
        have hmi : (m : Int) < n := by omega
        obtain ⟨p, hgp⟩ : ∃ p, g[m]? = some p := ⟨_, List.getElem?_eq_getElem (by rw [HN.out]; omega)⟩
        obtain ⟨x, hx⟩ : ∃ x, hs[m]? = some x := ⟨_, List.getElem?_eq_getElem (by rw [HL.out]; omega)⟩
        have d0 := pRow_cell hR hx
        have hRx : R ≠ x := blk_apart hR (hB.ptr hx hgp rfl rfl rfl) (by decide)
        have hRx' : x ≠ R := Ne.symm hRx
        have hlow := hB.low x (List.mem_of_getElem? hx)
        have f7 := (hB.ptr hx hgp rfl rfl rfl).frozen 7
        have e7 : ∃ v, wr.cell? ⟨x, 7, none⟩ = some v := (hB.ptr hx hgp rfl rfl rfl).some_ (by simp [bkCells])
        obtain ⟨v7, e7⟩ := e7
        have hB2 := hB.set_start hx (tailSum (szAt g ys' ns') n (m + 1))
        have hR2 := hR.far (p := ⟨x, 7, none⟩) hRx (.int .i64 ((tailSum (szAt g ys' ns') n (m + 1) : Nat) : Int))
        have hb2 := hbw2.setCell (p := ⟨x, 7, none⟩) hlow (.int .i64 ((tailSum (szAt g ys' ns') n (m + 1) : Nat) : Int))
        have h600 := HTS.out (m + 1)
        have hsl : m < ss2.length := by rw [hB.sl, HL.out]; exact hmn
        have HE := Lib.hid (end_any x p (tailSum (szAt g ys' ns') n (m + 1)) (wayV hs p p.yes) (wayV hs p p.no) (ys'.getD m false) (ns'.getD m false) _ (hB2.ptr hx hgp (getD_set_self hsl) rfl rfl) (by omega))
        have hz5 := szAt_le g ys' ns' m
        have HS := Lib.hid (tailSum_step (f := szAt g ys' ns') hmn); have HZ := Lib.hid (szP_at (ys := ys') (ns := ns') hgp)
        have hz6 : szP p (ys'.getD m false) (ns'.getD m false) ≤ 5 := by rw [← HZ.out]; exact hz5
        have HB2 := Lib.hid hB2; have HR2 := Lib.hid hR2; have HSL := Lib.hid hsl
        clear hB hR hB2 hR2 hgp hx hsl
        go_wp2_with (go_at_call 63; refine HE.out.mono ?_; rintro e w' ⟨rfl, rfl⟩)
        go_roundg m
        case measure => omega
        case rel =>
          refine ⟨m, (m : Int) - 1, ss2.set m (tailSum (szAt g ys' ns') n (m + 1)), by omega, by omega, rfl, by go_num, ?_, HR2.out, HB2.out, Lib.hid (fun j h1 h2 => ?_), hb2⟩
          · rw [HS.out, HZ.out]; go_num
          · by_cases e : m = j
            · subst e
              rw [List.getElem?_set_self HSL.out]
              unfold stAt
              rw [HN.out]
            · rw [List.getElem?_set_ne e]
              exact HST.out j (by omega) h2
      · obtain rfl : k = 0 := by omega
        have hst' : Starts g ys' ns' ss2 := fun j hj => HST.out j (Nat.zero_le _) (by rw [← HN.out]; exact hj)
        have HSP := Lib.hid (spread_any R n base g hs ss2 ys' ns' _ hR hB HL.out HN.out HG.out hst')
        have HST2 := Lib.hid hst'
        have HBx := Lib.hid hB
        clear hR hB HST hst'
        go_wp2_with fail
        refine HSP.out.mono ?_; rintro e w2 ⟨ch, rfl, hR2, hB2, hch, hb2⟩
        have hb3 := hbw2.trans hb2
        cases ch
        case' false =>
          obtain ⟨e1, e2⟩ := hch.1 rfl
          rw [e1, e2] at hB2
          have HR2 := Lib.hid hR2; have HB2 := Lib.hid hB2; have HD := Lib.hid (HLR.out _ _ (.done ⟨e1, e2⟩))
          clear hch e1 e2 hR2 hB2
          go_wp2
          first | rw [Exit.noGoto_normal] | (show bodyPost _ _ _ _ _ _ _) | (unfold Exit.noGoto; simp only [])
          go_end0
          exact ⟨ss2, ys', ns', rfl, HR2.out, HB2.out, HST2.out, HD.out, hb3⟩
        case' true =>
          have hne : ¬ (nextY g ys' ns' = ys' ∧ nextN g ys' ns' = ns') := fun e => by have := hch.2 e; cases this
          have HNE := Lib.hid hne; have HR2 := Lib.hid hR2; have HB2 := Lib.hid hB2
          clear hch hne hR2 hB2
          go_wp2
          go_roundg (nearN (nextY g ys' ns') + nearN (nextN g ys' ns'))
          case measure =>
            rw [HGK.out]
            have h1 := stepF_near (farY g ys' ns') ys' g.length
            have h2 := stepF_near (farN g ys' ns') ns' g.length
            unfold nextY nextN
            rcases Decidable.em (stepF (farY g ys' ns') ys' g.length = ys') with e1 | e1
            · have := h2.2 (fun e2 => HNE.out ⟨e1, e2⟩)
              omega
            · have := h1.2 e1
              omega
          case rel => exact ⟨ss2, _, _, rfl, HR2.out, HB2.out, Lib.hid (fun a b h => HLR.out a b (.more HNE.out h)), hb3⟩
end Go.Proofs.YtgdelnpielfhkaaGreatDoor
