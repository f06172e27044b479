/- Joined texts: BlkA BlkWrite GraphMk MakeA. -/
import Derived.Test.YtdjgicapbpoigaaGreatDoorLayB
import Derived.Deep.RegionHeld3
import Derived.Deep.LoopGhost
import Derived.Test.YtdjgicapbpoigaaGreatDoorKit
import Derived.Deep.CutBlock
import Derived.Test.YtdjgicapbpoigaaGreatDoorMak
import Derived.Test.YtdjgicapbpoigaaGreatDoorPolSA
import Derived.Test.YtdjgicapbpoigaaGreatDoorCodeSA
import Derived.Test.YtdjgicapbpoigaaGreatDoorLinesI
import Derived.Test.YtdjgicapbpoigaaGreatDoorPolK
-- Joined texts: Blk BlkOf BlkLay BlkLay2.
namespace Go.Proofs.YtdjgicapbpoigaaGreatDoor
open Go.RowKit
set_option linter.unusedSimpArgs false
set_option linter.unusedVariables false

def ptrV (h : Nat) : Value := .pointer (some ⟨h, 0, none⟩)
def pRow (hs : List Nat) : Array Value := (hs.map ptrV).toArray
theorem pRow_get (hs : List Nat) (k : Nat) : (pRow hs)[k]? = hs[k]?.map ptrV := by simp [pRow]
def bkCells (p : Pt) (st : Nat) (y n : Value) (yf nf : Bool) : Array Value :=
 #[.int .i64 p.verdict, .int .i64 p.field, .int .i64 p.mask, .int .i64 p.op, .int .i64 p.value, .int .i64 p.yes, .int .i64 p.no, .int .i64 (st : Int), y, n, .bool yf, .bool nf]
def wayV (hs : List Nat) (p : Pt) (k : Int) : Value := if p.op = 0 then .pointer none else match hs[k.toNat]? with
 | some h => ptrV h
 | none => .pointer none
structure Blks (w : World) (base : Nat) (g : List Pt) (hs : List Nat) (ss : List Nat) (ys ns : List Bool) : Prop where
 sl : ss.length = hs.length
 yl : ys.length = hs.length
 nl : ns.length = hs.length
 nd : hs.Nodup
 low : ∀ h ∈ hs, base ≤ h
 at_ : ∀ (i h : Nat) (p : Pt), hs[i]? = some h → g[i]? = some p → Blk w h 213 (bkCells p (ss.getD i 0) (wayV hs p p.yes) (wayV hs p p.no) (ys.getD i false) (ns.getD i false))

theorem Blks.below {w w' : World} {base B : Nat} {g : List Pt} {hs ss : List Nat} {ys ns : List Bool} (h : Blks w base g hs ss ys ns) (hl : hs.length ≤ g.length) (hb : Below B w w') (hB : ∀ x ∈ hs, x < B) : Blks w' base g hs ss ys ns :=
 ⟨h.sl, h.yl, h.nl, h.nd, h.low, fun i x p hi hp => (h.at_ i x p hi hp).below hb (hB x (List.mem_of_getElem? hi))⟩
theorem Blks.lt {w : World} {base : Nat} {g : List Pt} {hs ss : List Nat} {ys ns : List Bool} (h : Blks w base g hs ss ys ns) (hl : hs.length ≤ g.length) : ∀ x ∈ hs, x < w.heap.size := by
 intro x hx
 obtain ⟨i, hi, e⟩ := List.getElem_of_mem hx
 exact (h.at_ i x g[i] (by rw [← e]; exact List.getElem?_eq_getElem hi) (List.getElem?_eq_getElem (by omega))).lt
theorem Blks.next {w w' : World} {base : Nat} {g : List Pt} {hs ss : List Nat} {ys ns : List Bool} (h : Blks w base g hs ss ys ns) (hl : hs.length ≤ g.length) (hb : Below w.heap.size w w') : Blks w' base g hs ss ys ns := h.below hl hb (h.lt hl)
theorem nodup_get {hs : List Nat} (h : hs.Nodup) {i j x : Nat} (hi : hs[i]? = some x) (hj : hs[j]? = some x) : i = j := by
 obtain ⟨a, b⟩ := List.getElem?_eq_some_iff.1 hi
 obtain ⟨c, d⟩ := List.getElem?_eq_some_iff.1 hj
 exact (List.getElem_inj h).1 (b.trans d.symm)
theorem getD_ofB {α : Type} {l : List α} {k : Nat} {d x : α} (h : l[k]? = some x) : l.getD k d = x := by rw [List.getD_eq_getElem?_getD, h]; rfl
theorem getD_set_ne {α : Type} {l : List α} {k i : Nat} {d x : α} (h : k ≠ i) : (l.set k x).getD i d = l.getD i d := by
 rw [List.getD_eq_getElem?_getD, List.getD_eq_getElem?_getD, List.getElem?_set_ne h]
theorem getD_set_self {α : Type} {l : List α} {k : Nat} {d x : α} (h : k < l.length) : (l.set k x).getD k d = x := by
 rw [List.getD_eq_getElem?_getD, List.getElem?_set_self h]; rfl
theorem Blks.set_at {w : World} {base : Nat} {g : List Pt} {hs ss ss' : List Nat} {ys ns ys' ns' : List Bool} (h : Blks w base g hs ss ys ns) {k x : Nat} (hk : hs[k]? = some x) (c : Nat) (v : Value)
   (hsl : ss'.length = ss.length) (hyl : ys'.length = ys.length) (hnl : ns'.length = ns.length)
   (same : ∀ i, i ≠ k → ss'.getD i 0 = ss.getD i 0 ∧ ys'.getD i false = ys.getD i false ∧ ns'.getD i false = ns.getD i false)
   (here : ∀ (p : Pt) (a b : Value), (bkCells p (ss.getD k 0) a b (ys.getD k false) (ns.getD k false)).setIfInBounds c v = bkCells p (ss'.getD k 0) a b (ys'.getD k false) (ns'.getD k false)) :
   Blks (w.setCell ⟨x, c, none⟩ v) base g hs ss' ys' ns' := by
 refine ⟨hsl.trans h.sl, hyl.trans h.yl, hnl.trans h.nl, h.nd, h.low, fun i y p hi hp => ?_⟩
 by_cases e : i = k
 · subst e
   rw [hk] at hi
   cases hi
   have := (h.at_ i x p hk hp).set_ c v
   rwa [here] at this
 · obtain ⟨e1, e2, e3⟩ := same i e
   have hne : y ≠ x := fun e' => e (nodup_get h.nd hi (e' ▸ hk))
   rw [e1, e2, e3]
   exact (h.at_ i y p hi hp).far (p := ⟨x, c, none⟩) hne _
theorem Blks.set_start {w : World} {base : Nat} {g : List Pt} {hs ss : List Nat} {ys ns : List Bool} (h : Blks w base g hs ss ys ns) {k x : Nat} (hk : hs[k]? = some x) (s : Nat) : Blks (w.setCell ⟨x, 7, none⟩ (.int .i64 (s : Int))) base g hs (ss.set k s) ys ns := by
 have hl : k < ss.length := by rw [h.sl]; exact (List.getElem?_eq_some_iff.1 hk).1
 refine h.set_at hk 7 _ (by simp) rfl rfl (fun i hi => ⟨getD_set_ne (Ne.symm hi), rfl, rfl⟩) (fun p a b => ?_)
 rw [getD_set_self hl]
 simp [bkCells]
theorem Blks.set_yes {w : World} {base : Nat} {g : List Pt} {hs ss : List Nat} {ys ns : List Bool} (h : Blks w base g hs ss ys ns) {k x : Nat} (hk : hs[k]? = some x) (b : Bool) : Blks (w.setCell ⟨x, 10, none⟩ (.bool b)) base g hs ss (ys.set k b) ns := by
 have hl : k < ys.length := by rw [h.yl]; exact (List.getElem?_eq_some_iff.1 hk).1
 refine h.set_at hk 10 _ rfl (by simp) rfl (fun i hi => ⟨rfl, getD_set_ne (Ne.symm hi), rfl⟩) (fun p a c => ?_)
 rw [getD_set_self hl]
 simp [bkCells]
theorem Blks.set_no {w : World} {base : Nat} {g : List Pt} {hs ss : List Nat} {ys ns : List Bool} (h : Blks w base g hs ss ys ns) {k x : Nat} (hk : hs[k]? = some x) (b : Bool) : Blks (w.setCell ⟨x, 11, none⟩ (.bool b)) base g hs ss ys (ns.set k b) := by
 have hl : k < ns.length := by rw [h.nl]; exact (List.getElem?_eq_some_iff.1 hk).1
 refine h.set_at hk 11 _ rfl rfl (by simp) (fun i hi => ⟨rfl, rfl, getD_set_ne (Ne.symm hi)⟩) (fun p a c => ?_)
 rw [getD_set_self hl]
 simp [bkCells]

theorem bk_cells {w : World} {h : Nat} {p : Pt} {st : Nat} {y n : Value} {yf nf : Bool} (hb : Blk w h 213 (bkCells p st y n yf nf)) :
   w.cell? ⟨h, 0, none⟩ = some (.int .i64 p.verdict) ∧ w.cell? ⟨h, 1, none⟩ = some (.int .i64 p.field) ∧ w.cell? ⟨h, 2, none⟩ = some (.int .i64 p.mask) ∧ w.cell? ⟨h, 3, none⟩ = some (.int .i64 p.op) ∧ w.cell? ⟨h, 4, none⟩ = some (.int .i64 p.value) ∧ w.cell? ⟨h, 5, none⟩ = some (.int .i64 p.yes) ∧ w.cell? ⟨h, 6, none⟩ = some (.int .i64 p.no) ∧
   w.cell? ⟨h, 7, none⟩ = some (.int .i64 (st : Int)) ∧ w.cell? ⟨h, 8, none⟩ = some y ∧ w.cell? ⟨h, 9, none⟩ = some n ∧ w.cell? ⟨h, 10, none⟩ = some (.bool yf) ∧ w.cell? ⟨h, 11, none⟩ = some (.bool nf) :=
 ⟨hb.cell 0, hb.cell 1, hb.cell 2, hb.cell 3, hb.cell 4, hb.cell 5, hb.cell 6, hb.cell 7, hb.cell 8, hb.cell 9, hb.cell 10, hb.cell 11⟩

def tstP (p : Pt) : Nat := if p.mask = 4294967295 then 2 else 3
theorem tstP_le (p : Pt) : tstP p ≤ 3 := by unfold tstP; split <;> omega
theorem tstP_at {g : List Pt} {i : Nat} {p : Pt} (h : g[i]? = some p) : testAt g i = tstP p := by unfold testAt tstP; rw [h]
def szP (p : Pt) (yf nf : Bool) : Nat := if p.op = 0 then 1 else tstP p + yf.toNat + nf.toNat
theorem szP_at {g : List Pt} {ys ns : List Bool} {i : Nat} {p : Pt} (h : g[i]? = some p) : szAt g ys ns i = szP p (ys.getD i false) (ns.getD i false) := by
 unfold szAt szP tstP
 rw [h, List.getD_eq_getElem?_getD, List.getD_eq_getElem?_getD]
 simp only []
 split
 · rfl
 · split <;> omega

set_option maxHeartbeats 1000000 in
theorem lookAt_any (h : Nat) (p : Pt) (st : Nat) (y n : Value) (yf nf : Bool) (w : World) (hb : Blk w h 213 (bkCells p st y n yf nf)) (hs : st ≤ 1000) :
   Calls Tryz.prog 119 #[.pointer (some ⟨h, 0, none⟩)] w fun e w' => e = .returned (.int .i64 ((st : Int) + tstP p - 1)) ∧ w = w' := by
 obtain ⟨c0, c1, c2, c3, c4, c5, c6, c7, -, -, c10, c11⟩ := bk_cells hb
 clear hb
 rcases Decidable.em (p.mask = 4294967295) with hm | hm
 · have hdm : (p.mask != 4294967295) = false := by simp [hm]
   have HT := Lib.hid (show tstP p = 2 by unfold tstP; rw [if_pos hm])
   clear hm
   go_enter Tryz.func119, Tryz.ntmps119
   go_wp2
   go_ret
   exact ⟨ret_int (by rw [HT.out]; omega), rfl⟩
 · have hdm : (p.mask != 4294967295) = true := by simp [hm]
   have HT := Lib.hid (show tstP p = 3 by unfold tstP; rw [if_neg hm])
   clear hm
   go_enter Tryz.func119, Tryz.ntmps119
   go_wp2
   go_ret
   exact ⟨ret_int (by rw [HT.out]; omega), rfl⟩

set_option maxHeartbeats 1000000 in
theorem end_any (h : Nat) (p : Pt) (st : Nat) (y n : Value) (yf nf : Bool) (w : World) (hb : Blk w h 213 (bkCells p st y n yf nf)) (hs : st ≤ 1000) :
   Calls Tryz.prog 117 #[.pointer (some ⟨h, 0, none⟩)] w fun e w' => e = .returned (.int .i64 ((st : Int) + szP p yf nf)) ∧ w = w' := by
 have HB := Lib.hid hb
 obtain ⟨c0, c1, c2, c3, c4, c5, c6, c7, -, -, c10, c11⟩ := bk_cells hb
 have ht := tstP_le p
 clear hb
 by_cases h0 : p.op = 0
 · have hd : (p.op == 0) = true := by simp [h0]
   have HZ := Lib.hid (show szP p yf nf = 1 by unfold szP; rw [if_pos h0])
   clear h0
   go_enter Tryz.func117, Tryz.ntmps117
   go_wp2
   go_ret
   exact ⟨ret_int (by rw [HZ.out]; omega), rfl⟩
 · have hd : (p.op == 0) = false := by simp [h0]
   have HZ := Lib.hid (show szP p yf nf = tstP p + yf.toNat + nf.toNat by unfold szP; rw [if_neg h0])
   clear h0
   cases yf <;> cases nf
   all_goals
     go_enter Tryz.func117, Tryz.ntmps117
     go_wp2_with (go_at_call 119; refine (lookAt_any h p st y n _ _ _ (by exact HB.out) hs).mono ?_; rintro e w' ⟨rfl, rfl⟩)
     go_ret
     exact ⟨ret_int (by rw [HZ.out]; simp; try omega), rfl⟩
end Go.Proofs.YtdjgicapbpoigaaGreatDoor

namespace Go.Proofs.YtdjgicapbpoigaaGreatDoor
open Go.RowKit
set_option linter.unusedSimpArgs false
set_option linter.unusedVariables false

theorem info_bkp : (Tryz.prog.info? 145).map (fun i => (i.zero, i.size, i.bytes)) = some (some (.pointer none), 1, 8) := by kernel_rfl
theorem wayV_more {hs : List Nat} {p : Pt} {k : Int} (x : Nat) (h : p.op ≠ 0 → k.toNat < hs.length) : wayV (hs ++ [x]) p k = wayV hs p k := by
 unfold wayV
 split
 · rfl
 · rename_i h0
   rw [List.getElem?_append_left (h h0)]
theorem Blks.snoc {w : World} {base x s : Nat} {g : List Pt} {hs ss : List Nat} {ys ns : List Bool} {p : Pt} {yf nf : Bool} (h : Blks w base g hs ss ys ns) (hg : graphOk g) (hx : x ∉ hs) (hb : base ≤ x) (hp : g[hs.length]? = some p)
   (hk : Blk w x 213 (bkCells p s (wayV hs p p.yes) (wayV hs p p.no) yf nf)) : Blks w base g (hs ++ [x]) (ss ++ [s]) (ys ++ [yf]) (ns ++ [nf]) := by
 refine ⟨by simp [h.sl], by simp [h.yl], by simp [h.nl], ?_, ?_, ?_⟩
 · rw [List.nodup_append]
   exact ⟨h.nd, by simp, fun a ha b hb e => by simp at hb; subst hb; subst e; exact hx ha⟩
 · intro y hy
   rcases List.mem_append.1 hy with h1 | h1
   · exact h.low y h1
   · simp at h1; omega
 · intro i y q hi hq
   have hw : ∀ m : Nat, m ≤ hs.length → g[m]? = some q → wayV (hs ++ [x]) q q.yes = wayV hs q q.yes ∧ wayV (hs ++ [x]) q q.no = wayV hs q q.no := by
     intro m hm hq'
     refine ⟨wayV_more x fun h0 => ?_, wayV_more x fun h0 => ?_⟩
     all_goals
       obtain ⟨a, b, e1, e2, h1, h2⟩ := look_ways hg hq' h0
       omega
   have hlen : i < hs.length + 1 := by have := (List.getElem?_eq_some_iff.1 hi).1; simpa using this
   by_cases e : i = hs.length
   · subst e
     rw [hp] at hq
     cases hq
     have e1 : y = x := by
       rw [List.getElem?_append_right (Nat.le_refl _)] at hi
       simp at hi
       exact hi.symm
     subst e1
     obtain ⟨a, b⟩ := hw hs.length (Nat.le_refl _) hp
     rw [a, b]
     have d1 : (ss ++ [s]).getD hs.length 0 = s := by rw [← h.sl]; simp [List.getD_eq_getElem?_getD]
     have d2 : (ys ++ [yf]).getD hs.length false = yf := by rw [← h.yl]; simp [List.getD_eq_getElem?_getD]
     have d3 : (ns ++ [nf]).getD hs.length false = nf := by rw [← h.nl]; simp [List.getD_eq_getElem?_getD]
     rw [d1, d2, d3]
     exact hk
   · have hi' : i < hs.length := by omega
     rw [List.getElem?_append_left hi'] at hi
     obtain ⟨a, b⟩ := hw i (by omega) hq
     rw [a, b]
     have d1 : (ss ++ [s]).getD i 0 = ss.getD i 0 := by rw [List.getD_eq_getElem?_getD, List.getD_eq_getElem?_getD, List.getElem?_append_left (by rw [h.sl]; exact hi')]
     have d2 : (ys ++ [yf]).getD i false = ys.getD i false := by rw [List.getD_eq_getElem?_getD, List.getD_eq_getElem?_getD, List.getElem?_append_left (by rw [h.yl]; exact hi')]
     have d3 : (ns ++ [nf]).getD i false = ns.getD i false := by rw [List.getD_eq_getElem?_getD, List.getD_eq_getElem?_getD, List.getElem?_append_left (by rw [h.nl]; exact hi')]
     rw [d1, d2, d3]
     exact h.at_ i y q hi hq

theorem set_two {p : Pt} {s : Nat} {a b y n : Value} {yf nf : Bool} : ((bkCells p s a b yf nf).setIfInBounds 8 y).setIfInBounds 9 n = bkCells p s y n yf nf := by simp [bkCells]
theorem set_two' {p : Pt} {s : Nat} {a b y n : Value} {yf nf : Bool} : ((bkCells p s a b yf nf).setIfInBounds 9 n).setIfInBounds 8 y = bkCells p s y n yf nf := by simp [bkCells]
theorem rep_snoc {α : Type} (k : Nat) (a : α) : List.replicate k a ++ [a] = List.replicate (k + 1) a := by rw [List.replicate_succ']

theorem blk_next2 (w : World) (o : Obj) (t : TypeId) (cs : Array Value) : Blk ((w.alloc o).alloc (.cells cs t)) (w.heap.size + 1) t cs := by
 have := Blk.new (w.alloc o) t cs
 rwa [show (w.alloc o).heap.size = w.heap.size + 1 by simp] at this
def PtrTo (cur : Array Value) (hs : List Nat) : Prop := ∀ (j h : Nat), hs[j]? = some h → cur[j]? = some (ptrV h)
theorem PtrTo.snoc {cur : Array Value} {hs : List Nat} (h : PtrTo cur hs) {k : Nat} (hk : hs.length = k) (hlt : k < cur.size) (x : Nat) : PtrTo (cur.setIfInBounds k (ptrV x)) (hs ++ [x]) := by
 intro j y hj
 have hl : j < hs.length + 1 := by have := (List.getElem?_eq_some_iff.1 hj).1; simpa using this
 rw [Array.getElem?_setIfInBounds]
 by_cases e : k = j
 · subst e
   rw [if_pos rfl, if_pos hlt]
   rw [List.getElem?_append_right (by omega), hk] at hj
   simp at hj
   rw [hj]
 · rw [if_neg e]
   rw [List.getElem?_append_left (by omega)] at hj
   exact h j y hj
theorem PtrTo.row {cur : Array Value} {hs : List Nat} (h : PtrTo cur hs) (hl : cur.size = hs.length) : cur = pRow hs := by
 apply Array.ext_getElem?
 intro j
 rw [pRow_get]
 cases e : hs[j]? with
 | some x => rw [h j x e]; rfl
 | none =>
   have := List.getElem?_eq_none_iff.1 e
   rw [Array.getElem?_eq_none (by omega)]; rfl

set_option maxRecDepth 100000 in
set_option maxHeartbeats 8000000 in
theorem blocksOf_any (A : Option Addr) (n c : Nat) (g : List Pt) (w : World) (hA : SlA w 7 A n c (g.map Pt.cells)) (hg : graphOk g) :
   Calls Tryz.prog 79 #[.slice A n c] w fun e w' => ∃ hs : List Nat, e = .returned (.slice (some ⟨w.heap.size, 0, none⟩) n n) ∧ hs.length = n ∧ Blk w' w.heap.size 145 (pRow hs) ∧ Blks w' (w.heap.size + 1) g hs (List.replicate n 0) (List.replicate n false) (List.replicate n false) ∧ Below w.heap.size w w' := by
 have hl : g.length = n := by have := hA.len; simpa using this
 have hn120 : n ≤ 120 := by rw [← hl]; exact hg.1.2
 have hc := hA.cap
 have hm := hA.max
 unfold maxLen at hm
 have hmk := fun W => run_make_row' (P := Tryz.prog) 142 145 (.pointer none) 8 Tryz.underlying142 info_bkp rfl .i64 .i64 n (by omega) (by omega) W
 have HN := Lib.hid hl; have HG := Lib.hid hg; have HA := Lib.hid hA; clear hl hg hA
 go_enter Tryz.func79, Tryz.ntmps79
 go_wp2
 clear hmk
 go_loopw [11] (fun i wr => ∃ (k : Nat) (hs : List Nat) (cur : Array Value), k ≤ n ∧ i = .int .i64 k ∧ hs.length = k ∧ Blk wr w.heap.size 145 cur ∧ cur.size = n ∧ PtrTo cur hs ∧ Blks wr (w.heap.size + 1) g hs (List.replicate k 0) (List.replicate k false) (List.replicate k false) ∧ Below w.heap.size w wr) (fun i _ => n - (intOf i).toNat)
 case atStart =>
   refine ⟨0, [], _, Nat.zero_le _, rfl, rfl, Blk.new w _ _, by simp [size_madeCells], fun j h hj => by simp at hj, ⟨rfl, rfl, rfl, by simp, by simp, fun i h p hi => by simp at hi⟩, by go_grown⟩
 case round =>
   obtain ⟨k, hs, cur, hk, rfl, hsl, hB, hcs, hpt, hbk, hbw⟩ := hrel
   have hz := hbw.size
   have hBl := hB.lt
   by_cases hlt : k < n
   · have hki : (k : Int) < n := by omega
     obtain ⟨b, off, p, rfl, hab, hgp, hcell⟩ := pts_get HA.out hlt
     obtain ⟨c0, c1, c2, c3, c4, c5, c6⟩ := hcell wr _ hbw hab
     obtain ⟨x0, e0⟩ := hB.some_ (i := k) (by omega)
     have f0 := hB.frozen k
     have hpt2 := hpt.snoc hsl (by omega) (wr.heap.size + 1)
     obtain ⟨W0, hW0⟩ : ∃ W, W = wr.setCell ⟨w.heap.size, k, none⟩ (.pointer (some ⟨wr.heap.size + 1, 0, none⟩)) := ⟨_, rfl⟩
     have hz0 : W0.heap.size = wr.heap.size := by rw [hW0]; simp
     obtain ⟨W, hW⟩ : ∃ W, W = (W0.alloc (.cells #[.int .i64 p.verdict, .int .i64 p.field, .int .i64 p.mask, .int .i64 p.op, .int .i64 p.value, .int .i64 p.yes, .int .i64 p.no] 151)).alloc (.cells #[.int .i64 p.verdict, .int .i64 p.field, .int .i64 p.mask, .int .i64 p.op, .int .i64 p.value, .int .i64 p.yes, .int .i64 p.no, .int .i64 0, .pointer none, .pointer none, .bool false, .bool false] 213) := ⟨_, rfl⟩
     have P1 : Blk W wr.heap.size 151 #[.int .i64 p.verdict, .int .i64 p.field, .int .i64 p.mask, .int .i64 p.op, .int .i64 p.value, .int .i64 p.yes, .int .i64 p.no] := by
       rw [hW, ← hz0]; exact (Blk.new W0 _ _).alloc _
     have P2 : Blk W (wr.heap.size + 1) 213 (bkCells p 0 (.pointer none) (.pointer none) false false) := by
       rw [hW, ← hz0]; exact blk_next2 W0 _ _ _
     have P3 : Blk W w.heap.size 145 (cur.setIfInBounds k (ptrV (wr.heap.size + 1))) := by
       rw [hW, hW0]; exact ((hB.set_ k _).alloc _).alloc _
     have hll : hs.length ≤ g.length := by rw [HN.out]; omega
     have P5 : Blks W (w.heap.size + 1) g hs (List.replicate k 0) (List.replicate k false) (List.replicate k false) := by
       rw [hW, hW0]
       refine ⟨hbk.sl, hbk.yl, hbk.nl, hbk.nd, hbk.low, fun i x q hi hq => (((hbk.at_ i x q hi hq).far (p := ⟨w.heap.size, k, none⟩) ?_ _).alloc _).alloc _⟩
       have := hbk.low x (List.mem_of_getElem? hi)
       simp; omega
     have P6 : Below w.heap.size w W := by
       rw [hW, hW0]; exact ((hbw.setCell (p := ⟨w.heap.size, k, none⟩) (Nat.le_refl _) _).alloc (by simpa using hz) _).alloc (by simp; omega) _
     have hcs2 : (cur.setIfInBounds k (ptrV (wr.heap.size + 1))).size = n := by simpa using hcs
     have hx1 : wr.heap.size + 1 ∉ hs := fun h => by have := hbk.lt hll _ h; omega
     have HW := Lib.hid hW; have HW0 := Lib.hid hW0; have HP := Lib.hid hgp
     have hn1 : ¬ wr.heap.size = w.heap.size := by omega
     have hn2 : ¬ wr.heap.size + 1 = w.heap.size := by omega
     by_cases h0 : p.op = 0
     · have hd : (p.op == 0) = true := by simp [h0]
       have hy : wayV hs p p.yes = .pointer none ∧ wayV hs p p.no = .pointer none := by unfold wayV; rw [if_pos h0, if_pos h0]; exact ⟨rfl, rfl⟩
       have HX := Lib.hid (P5.snoc HG.out hx1 (by omega) (by rw [hsl]; exact HP.out) (by rw [hy.1, hy.2]; exact P2)); have HX3 := Lib.hid P3; have HX6 := Lib.hid P6; have HPT := Lib.hid hpt2; have HCS := Lib.hid hcs2
       clear hW hW0 hgp hbk P1 P2 P3 P5 P6 hpt hpt2 hcs2 hcell h0 hy  hz0
       go_wp2
       rw [← HW0.out, ← HW.out]
       refine ⟨⟨k + 1, hs ++ [wr.heap.size + 1], _, by omega, by go_num, by simp [hsl], HX3.out, HCS.out, HPT.out, ?_, HX6.out⟩, by simp [intOf]; omega⟩
       have := HX.out
       rwa [rep_snoc, rep_snoc] at this
     · have hd : (p.op == 0) = false := by simp [h0]
       obtain ⟨y, nn, hy, hnn, hyk, hnk⟩ := look_ways HG.out hgp h0
       obtain ⟨hyv, hyg⟩ : ∃ x, hs[y]? = some x := ⟨_, List.getElem?_eq_getElem (by omega)⟩
       obtain ⟨hnv, hng⟩ : ∃ x, hs[nn]? = some x := ⟨_, List.getElem?_eq_getElem (by omega)⟩
       have wy : wayV hs p p.yes = .pointer (some ⟨hyv, 0, none⟩) := by unfold wayV; rw [if_neg h0, hy, Int.toNat_natCast, hyg]; rfl
       have wn : wayV hs p p.no = .pointer (some ⟨hnv, 0, none⟩) := by unfold wayV; rw [if_neg h0, hnn, Int.toNat_natCast, hng]; rfl
       have d5 : W.cell? ⟨wr.heap.size, 5, none⟩ = some (.int .i64 (y : Int)) := by rw [← hy]; exact P1.cell 5
       have d6 : W.cell? ⟨wr.heap.size, 6, none⟩ = some (.int .i64 (nn : Int)) := by rw [← hnn]; exact P1.cell 6
       have dk : W.cell? ⟨w.heap.size, k, none⟩ = some (.pointer (some ⟨wr.heap.size + 1, 0, none⟩)) := by rw [P3.cell, Array.getElem?_setIfInBounds, if_pos rfl, if_pos (by omega)]; rfl
       have dy : W.cell? ⟨w.heap.size, y, none⟩ = some (.pointer (some ⟨hyv, 0, none⟩)) := by rw [P3.cell, Array.getElem?_setIfInBounds, if_neg (by omega)]; exact hpt y hyv hyg
       have dn : W.cell? ⟨w.heap.size, nn, none⟩ = some (.pointer (some ⟨hnv, 0, none⟩)) := by rw [P3.cell, Array.getElem?_setIfInBounds, if_neg (by omega)]; exact hpt nn hnv hng
       have e8 : W.cell? ⟨wr.heap.size + 1, 8, none⟩ = some (.pointer none) := P2.cell 8
       have e9 : W.cell? ⟨wr.heap.size + 1, 9, none⟩ = some (.pointer none) := P2.cell 9
       have f8 := P2.frozen 8
       have f9 := P2.frozen 9
       have hyi : (y : Int) < n := by omega
       have hni : (nn : Int) < n := by omega
       have X1 : Blk ((W.drew.setCell ⟨wr.heap.size + 1, 8, none⟩ (.pointer (some ⟨hyv, 0, none⟩))).setCell ⟨wr.heap.size + 1, 9, none⟩ (.pointer (some ⟨hnv, 0, none⟩))) (wr.heap.size + 1) 213 (bkCells p 0 (wayV hs p p.yes) (wayV hs p p.no) false false) := by
         rw [wy, wn, ← set_two]; exact (P2.drew.set_ 8 _).set_ 9 _
       have X2 : Blk ((W.drew.setCell ⟨wr.heap.size + 1, 9, none⟩ (.pointer (some ⟨hnv, 0, none⟩))).setCell ⟨wr.heap.size + 1, 8, none⟩ (.pointer (some ⟨hyv, 0, none⟩))) (wr.heap.size + 1) 213 (bkCells p 0 (wayV hs p p.yes) (wayV hs p p.no) false false) := by
         rw [wy, wn, ← set_two']; exact (P2.drew.set_ 9 _).set_ 8 _
       have HX1 := Lib.hid X1; have HX2 := Lib.hid X2; have HP3 := Lib.hid P3; have HP5 := Lib.hid P5; have HP6 := Lib.hid P6; have HPT := Lib.hid hpt2; have HCS := Lib.hid hcs2
       have hnk1 : ∀ x ∈ hs, x ≠ wr.heap.size + 1 := fun x hx e => hx1 (e ▸ hx)
       have HNK := Lib.hid hnk1; have HX0 := Lib.hid hx1
       clear hW hW0 hgp hbk P1 P2 P3 P5 P6 hpt hpt2 hcs2 hcell h0 hy hnn  hz0 X1 X2 hyg hng wy wn hnk1 hx1
       go_wp2
       rw [← HW0.out, ← HW.out]
       go_region_held3 (fun w' => w'.cell? ⟨w.heap.size, k, none⟩ = some (.pointer (some ⟨wr.heap.size + 1, 0, none⟩)) ∧ w'.cell? ⟨w.heap.size, y, none⟩ = some (.pointer (some ⟨hyv, 0, none⟩)) ∧ w'.cell? ⟨w.heap.size, nn, none⟩ = some (.pointer (some ⟨hnv, 0, none⟩)) ∧ w'.cell? ⟨wr.heap.size, 5, none⟩ = some (.int .i64 (y : Int)) ∧ w'.cell? ⟨wr.heap.size, 6, none⟩ = some (.int .i64 (nn : Int))) (go_keep) (fail)
       all_goals
         go_wp2
         refine ⟨⟨k + 1, hs ++ [wr.heap.size + 1], _, by omega, by go_num, by simp [hsl], (HP3.out.drew.far (p := ⟨wr.heap.size + 1, _, none⟩) (by simp; omega) _).far (p := ⟨wr.heap.size + 1, _, none⟩) (by simp; omega) _, HCS.out, HPT.out, ?_, (HP6.out.drew.setCell (p := ⟨wr.heap.size + 1, _, none⟩) (by simp; omega) _).setCell (p := ⟨wr.heap.size + 1, _, none⟩) (by simp; omega) _⟩, by simp [intOf]; omega⟩
         rw [← rep_snoc, ← rep_snoc]
         refine Blks.snoc ⟨HP5.out.sl, HP5.out.yl, HP5.out.nl, HP5.out.nd, HP5.out.low, fun i x q hi hq => (((HP5.out.at_ i x q hi hq).drew).far (p := ⟨wr.heap.size + 1, _, none⟩) (HNK.out x (List.mem_of_getElem? hi)) _).far (p := ⟨wr.heap.size + 1, _, none⟩) (HNK.out x (List.mem_of_getElem? hi)) _⟩ HG.out HX0.out (by omega) (by rw [hsl]; exact HP.out) ?_
         first | exact HX1.out | exact HX2.out
   · obtain rfl : k = n := by omega
     have HX := Lib.hid (hpt.row (by omega)); have HB := Lib.hid hB; have HK := Lib.hid hbk
     clear hpt hB hbk
     go_wp2
     go_ret
     exact ⟨hs, rfl, hsl, by rw [← HX.out]; exact HB.out, HK.out, hbw⟩
end Go.Proofs.YtdjgicapbpoigaaGreatDoor

namespace Go.Proofs.YtdjgicapbpoigaaGreatDoor
open Go.RowKit
set_option linter.unusedSimpArgs false
set_option linter.unusedVariables false

theorem Blks.ptr {w : World} {base : Nat} {g : List Pt} {hs ss : List Nat} {ys ns : List Bool} (h : Blks w base g hs ss ys ns) {i x : Nat} {p : Pt} (hi : hs[i]? = some x) (hp : g[i]? = some p) {s : Nat} {yv nv : Bool} (he : ss.getD i 0 = s) (hy : ys.getD i false = yv) (hn : ns.getD i false = nv) :
   Blk w x 213 (bkCells p s (wayV hs p p.yes) (wayV hs p p.no) yv nv) := by
 have := h.at_ i x p hi hp
 rwa [he, hy, hn] at this
theorem wayV_look {hs : List Nat} {p : Pt} {y x : Nat} (h0 : p.op ≠ 0) (hy : hs[y]? = some x) : wayV hs p (y : Int) = .pointer (some ⟨x, 0, none⟩) := by
 unfold wayV; rw [if_neg h0, Int.toNat_natCast, hy]; rfl
theorem pRow_cell {w : World} {R k x : Nat} {hs : List Nat} {t : TypeId} (h : Blk w R t (pRow hs)) (hk : hs[k]? = some x) : w.cell? ⟨R, k, none⟩ = some (.pointer (some ⟨x, 0, none⟩)) := by
 rw [h.cell, pRow_get, hk]; rfl
theorem far_cases {v : Bool} {a : Int} : v = true ∨ (v = false ∧ ¬ (a > 6)) ∨ (v = false ∧ a > 6) := by
 cases v
 · by_cases h : a > 6
   · exact .inr (.inr ⟨rfl, h⟩)
   · exact .inr (.inl ⟨rfl, h⟩)
 · exact .inl rfl
structure StepN (P : Nat → Bool) (l : List Bool) (k : Nat) (v : Bool) (c : Bool) : Prop where
 same : c = false → stepF P l (k + 1) = stepF P l k
 set_ : c = true → stepF P l (k + 1) = (stepF P l k).set k true ∧ nearN (stepF P l (k + 1)) + 1 = nearN (stepF P l k)
theorem StepN.of {P : Nat → Bool} {l : List Bool} {k : Nat} {v : Bool} (h : l[k]? = some v) : StepN P l k v (!v && P k) := by
 refine ⟨fun hc => stepF_same h ?_, fun hc => ?_⟩
 · cases v
   · simpa using hc
   · rfl
 · cases v
   · have hP : P k = true := by simpa using hc
     have e : stepF P l (k + 1) = (stepF P l k).set k true := by rw [stepF_set h, hP]; rfl
     exact ⟨e, by rw [e]; exact nearN_set (stepF_at h)⟩
   · simp at hc

def SpreadOk (g : List Pt) (ys ns : List Bool) (k : Nat) (ch : Bool) : Prop :=
 (ch = false ∧ nearN (stepF (farY g ys ns) ys k) + nearN (stepF (farN g ys ns) ns k) = nearN ys + nearN ns) ∨ (ch = true ∧ nearN (stepF (farY g ys ns) ys k) + nearN (stepF (farN g ys ns) ns k) < nearN ys + nearN ns)
theorem SpreadOk.next {g : List Pt} {ys ns : List Bool} {k : Nat} {ch yv nv cy cn : Bool} (h : SpreadOk g ys ns k ch) (hy : StepN (farY g ys ns) ys k yv cy) (hn : StepN (farN g ys ns) ns k nv cn) : SpreadOk g ys ns (k + 1) (ch || cy || cn) := by
 have e1 : (cy = false ∧ nearN (stepF (farY g ys ns) ys (k + 1)) = nearN (stepF (farY g ys ns) ys k)) ∨ (cy = true ∧ nearN (stepF (farY g ys ns) ys (k + 1)) + 1 = nearN (stepF (farY g ys ns) ys k)) := by
   cases hc : cy
   · exact .inl ⟨rfl, by rw [hy.same hc]⟩
   · exact .inr ⟨rfl, (hy.set_ hc).2⟩
 have e2 : (cn = false ∧ nearN (stepF (farN g ys ns) ns (k + 1)) = nearN (stepF (farN g ys ns) ns k)) ∨ (cn = true ∧ nearN (stepF (farN g ys ns) ns (k + 1)) + 1 = nearN (stepF (farN g ys ns) ns k)) := by
   cases hc : cn
   · exact .inl ⟨rfl, by rw [hn.same hc]⟩
   · exact .inr ⟨rfl, (hn.set_ hc).2⟩
 unfold SpreadOk at h ⊢
 rcases e1 with ⟨rfl, e1⟩ | ⟨rfl, e1⟩ <;> rcases e2 with ⟨rfl, e2⟩ | ⟨rfl, e2⟩ <;> rcases h with ⟨rfl, h⟩ | ⟨rfl, h⟩
 all_goals first
   | exact .inl ⟨rfl, by omega⟩
   | exact .inr ⟨rfl, by omega⟩
theorem SpreadOk.fin {g : List Pt} {ys ns : List Bool} {ch : Bool} (h : SpreadOk g ys ns g.length ch) : ch = false ↔ (nextY g ys ns = ys ∧ nextN g ys ns = ns) := by
 unfold nextY nextN
 have n1 := stepF_near (farY g ys ns) ys g.length
 have n2 := stepF_near (farN g ys ns) ns g.length
 constructor
 · intro hok
   rcases h with ⟨_, h⟩ | ⟨h, _⟩
   · refine ⟨Decidable.byContradiction fun hne => ?_, Decidable.byContradiction fun hne => ?_⟩
     · have := n1.2 hne; omega
     · have := n2.2 hne; omega
   · rw [hok] at h; cases h
 · rintro ⟨h1, h2⟩
   rcases h with ⟨h, _⟩ | ⟨_, h⟩
   · exact h
   · rw [h1, h2] at h; omega

set_option maxRecDepth 100000 in
set_option maxHeartbeats 8000000 in
theorem spread_any (R n base : Nat) (g : List Pt) (hs ss : List Nat) (ys ns : List Bool) (w : World) (hR : Blk w R 145 (pRow hs)) (hB : Blks w base g hs ss ys ns) (hl : hs.length = n) (hgl : g.length = n) (hg : graphOk g) (hst : Starts g ys ns ss) :
   Calls Tryz.prog 118 #[.slice (some ⟨R, 0, none⟩) n n] w fun e w' => ∃ ch : Bool, e = .returned (.bool ch) ∧ Blk w' R 145 (pRow hs) ∧ Blks w' base g hs ss (nextY g ys ns) (nextN g ys ns) ∧ (ch = false ↔ (nextY g ys ns = ys ∧ nextN g ys ns = ns)) ∧ Below base w w' := by
 have hn120 : n ≤ 120 := by rw [← hgl]; exact hg.1.2
 have HR := Lib.hid hR; have HB := Lib.hid hB; have HL := Lib.hid hl; have HN := Lib.hid hgl; have HG := Lib.hid hg; have HST := Lib.hid hst; clear hR hB hl hgl hg hst
 go_enter Tryz.func118, Tryz.ntmps118
 go_wp2
 go_loopw [3, 9] (fun c i wr => ∃ (k : Nat) (ch : Bool), k ≤ n ∧ i = .int .i64 k ∧ c = .bool ch ∧ Blk wr R 145 (pRow hs) ∧ Blks wr base g hs ss (stepF (farY g ys ns) ys k) (stepF (farN g ys ns) ns k) ∧ SpreadOk g ys ns k ch ∧ Below base w wr) (fun _ i _ => n - (intOf i).toNat)
 case atStart => exact ⟨0, false, Nat.zero_le _, rfl, rfl, HR.out, by rw [stepF_zero, stepF_zero]; exact HB.out, .inl ⟨rfl, by rw [stepF_zero, stepF_zero]⟩, Below.refl _ _⟩
 case round =>
   obtain ⟨k, ch, hk, rfl, rfl, hR, hB, hok, hbw⟩ := hrel
   by_cases hkn : k < n
   · have hki : (k : Int) < n := by omega
     obtain ⟨p, hgp⟩ : ∃ p, g[k]? = some p := ⟨_, List.getElem?_eq_getElem (by rw [HN.out]; omega)⟩
     obtain ⟨x, hx⟩ : ∃ x, hs[k]? = some x := ⟨_, List.getElem?_eq_getElem (by rw [HL.out]; omega)⟩
     obtain ⟨yv, hyv⟩ := bRow_some (rs := ys) (n := n) (by have := hB.yl; rw [stepF_len] at this; rw [this, HL.out]) hkn
     obtain ⟨nv, hnv⟩ := bRow_some (rs := ns) (n := n) (by have := hB.nl; rw [stepF_len] at this; rw [this, HL.out]) hkn
     have d0 := pRow_cell hR hx
     have hbk := hB.ptr hx hgp (getD_ofB (HST.out k (by rw [HN.out]; exact hkn))) (getD_ofB (stepF_at (P := farY g ys ns) hyv)) (getD_ofB (stepF_at (P := farN g ys ns) hnv))
     have sy := StepN.of (P := farY g ys ns) hyv
     have sn := StepN.of (P := farN g ys ns) hnv
     have hlow := hB.low x (List.mem_of_getElem? hx)
     by_cases h0 : p.op = 0
     · have hd : (p.op == 0) = true := by simp [h0]
       have c3 := hbk.cell 3
       simp [bkCells] at c3
       have HE1 := Lib.hid (stepF_same (P := farY g ys ns) hyv (by simp [farY, hgp, h0])); have HE2 := Lib.hid (stepF_same (P := farN g ys ns) hnv (by simp [farN, hgp, h0]))
       have HRx := Lib.hid hR; have HBx := Lib.hid hB; have HOx := Lib.hid hok
       clear hR hB hok hbk sy sn hgp hx hyv hnv h0
       go_wp2
       exact ⟨⟨k + 1, ch, by omega, by go_num, rfl, HRx.out, by rw [HE1.out, HE2.out]; exact HBx.out, by unfold SpreadOk; rw [HE1.out, HE2.out]; exact HOx.out, hbw⟩, by simp [intOf]; omega⟩
     · have hd : (p.op == 0) = false := by simp [h0]
       obtain ⟨y, nn, hy, hnn, hyk, hnk⟩ := look_ways HG.out hgp h0
       obtain ⟨xy, hxy⟩ : ∃ x, hs[y]? = some x := ⟨_, List.getElem?_eq_getElem (by rw [HL.out]; omega)⟩
       obtain ⟨xn, hxn⟩ : ∃ x, hs[nn]? = some x := ⟨_, List.getElem?_eq_getElem (by rw [HL.out]; omega)⟩
       obtain ⟨py, hpy⟩ : ∃ p, g[y]? = some p := ⟨_, List.getElem?_eq_getElem (by rw [HN.out]; omega)⟩
       obtain ⟨pn, hpn⟩ : ∃ p, g[nn]? = some p := ⟨_, List.getElem?_eq_getElem (by rw [HN.out]; omega)⟩
       have ty : wr.cell? ⟨xy, 7, none⟩ = some (.int .i64 (stAt g ys ns y : Nat)) := (hB.ptr hxy hpy (getD_ofB (HST.out y (by rw [HN.out]; omega))) rfl rfl).cell 7
       have tn : wr.cell? ⟨xn, 7, none⟩ = some (.int .i64 (stAt g ys ns nn : Nat)) := (hB.ptr hxn hpn (getD_ofB (HST.out nn (by rw [HN.out]; omega))) rfl rfl).cell 7
       have hbk2 := hbk
       rw [hy, hnn, wayV_look h0 hxy, wayV_look h0 hxn] at hbk2
       have hne1 : ¬ xy = x := fun e => by subst e; have := nodup_get hB.nd hxy hx; omega
       have hne2 : ¬ xn = x := fun e => by subst e; have := nodup_get hB.nd hxn hx; omega
       have FY : farY g ys ns k = decide ((stAt g ys ns y : Int) - (stAt g ys ns k + testAt g k) > 6) := by unfold farY; rw [hgp]; simp [h0, hy]
       have FN : farN g ys ns k = decide ((stAt g ys ns nn : Int) - (stAt g ys ns k + testAt g k) > 6) := by unfold farN; rw [hgp]; simp [h0, hnn]
       rw [tstP_at hgp] at FY FN
       rw [FY] at sy
       rw [FN] at sn
       have s1 : stAt g ys ns k ≤ 600 := Nat.le_trans (stAt_le g ys ns k) (by rw [HN.out]; omega)
       have s2 : stAt g ys ns y ≤ 600 := Nat.le_trans (stAt_le g ys ns y) (by rw [HN.out]; omega)
       have s3 : stAt g ys ns nn ≤ 600 := Nat.le_trans (stAt_le g ys ns nn) (by rw [HN.out]; omega)
       have s4 := tstP_le p
       have HSO := Lib.hid (hok.next sy sn)
       have hRx : R ≠ x := blk_apart hR hbk (by decide)
       have HRN := Lib.hid hRx
       clear hRx
       obtain ⟨-, -, -, c3, -, -, -, c7, c8, c9, c10, c11⟩ := bk_cells hbk2
       have f10 := hbk2.frozen 10
       have f11 := hbk2.frozen 11
       have HRx := Lib.hid hR; have HBx := Lib.hid hB; have HX := Lib.hid hx; have SY := Lib.hid sy; have SN := Lib.hid sn
       have HLK := Lib.hid (lookAt_any x p (stAt g ys ns k) (wayV hs p p.yes) (wayV hs p p.no) yv nv wr hbk (by omega))
       clear hR hB hok hbk hbk2 sy sn hgp hx hyv hnv h0 FY FN hxy hxn hpy hpn hy hnn
       generalize stAt g ys ns k = SK at *
       generalize stAt g ys ns y = SYv at *
       generalize stAt g ys ns nn = SNv at *
       generalize tstP p = TK at *
       rcases far_cases (v := yv) (a := (SYv : Int) - (SK + TK)) with rfl | ⟨rfl, hfy⟩ | ⟨rfl, hfy⟩
       case' inl => have e1 : stepF (farY g ys ns) ys (k + 1) = stepF (farY g ys ns) ys k := SY.out.same rfl
       case' inr.inl =>
         have hcy : decide ((SYv : Int) - (SK + TK) > 6) = false := by simp; omega
         have e1 : stepF (farY g ys ns) ys (k + 1) = stepF (farY g ys ns) ys k := SY.out.same (by rw [hcy]; rfl)
       case' inr.inr =>
         have hcy : decide ((SYv : Int) - (SK + TK) > 6) = true := by simp; omega
         have e1 : stepF (farY g ys ns) ys (k + 1) = (stepF (farY g ys ns) ys k).set k true := (SY.out.set_ (by rw [hcy]; rfl)).1
       all_goals
         rcases far_cases (v := nv) (a := (SNv : Int) - (SK + TK)) with rfl | ⟨rfl, hfn⟩ | ⟨rfl, hfn⟩
         rotate_left 1
         · have hcn : decide ((SNv : Int) - (SK + TK) > 6) = false := by simp; omega
           have e2 : stepF (farN g ys ns) ns (k + 1) = stepF (farN g ys ns) ns k := SN.out.same (by rw [hcn]; rfl)
           have HE1 := Lib.hid e1; have HE2 := Lib.hid e2
           have HSO1 := HSO.out
           try rw [hcy] at HSO1
           try rw [hcn] at HSO1
           have HSO2 := Lib.hid HSO1
           clear e1 e2 HSO1 HSO SY SN
           try clear hcy
           try clear hcn
           go_wp2_with (go_at_call 119; refine HLK.out.mono ?_; rintro e w' ⟨rfl, rfl⟩)
           refine ⟨⟨k + 1, _, by omega, by go_num, rfl, ?_, by rw [HE1.out, HE2.out]; first | exact HBx.out | exact HBx.out.set_yes HX.out true | exact HBx.out.set_no HX.out true | exact (HBx.out.set_yes HX.out true).set_no HX.out true, by simpa using HSO2.out, ?_⟩, by simp [intOf]; omega⟩
           all_goals first
             | exact HRx.out
             | exact HRx.out.far (p := ⟨x, 10, none⟩) HRN.out _
             | exact HRx.out.far (p := ⟨x, 11, none⟩) HRN.out _
             | exact (HRx.out.far (p := ⟨x, 10, none⟩) HRN.out _).far (p := ⟨x, 11, none⟩) HRN.out _
             | exact hbw
             | exact hbw.setCell (p := ⟨x, 10, none⟩) hlow _
             | exact hbw.setCell (p := ⟨x, 11, none⟩) hlow _
             | exact (hbw.setCell (p := ⟨x, 10, none⟩) hlow _).setCell (p := ⟨x, 11, none⟩) hlow _
         · have hcn : decide ((SNv : Int) - (SK + TK) > 6) = true := by simp; omega
           have e2 : stepF (farN g ys ns) ns (k + 1) = (stepF (farN g ys ns) ns k).set k true := (SN.out.set_ (by rw [hcn]; rfl)).1
           have HE1 := Lib.hid e1; have HE2 := Lib.hid e2
           have HSO1 := HSO.out
           try rw [hcy] at HSO1
           try rw [hcn] at HSO1
           have HSO2 := Lib.hid HSO1
           clear e1 e2 HSO1 HSO SY SN
           try clear hcy
           try clear hcn
           go_wp2_with (go_at_call 119; refine HLK.out.mono ?_; rintro e w' ⟨rfl, rfl⟩)
           refine ⟨⟨k + 1, _, by omega, by go_num, rfl, ?_, by rw [HE1.out, HE2.out]; first | exact HBx.out | exact HBx.out.set_yes HX.out true | exact HBx.out.set_no HX.out true | exact (HBx.out.set_yes HX.out true).set_no HX.out true, by simpa using HSO2.out, ?_⟩, by simp [intOf]; omega⟩
           all_goals first
             | exact HRx.out
             | exact HRx.out.far (p := ⟨x, 10, none⟩) HRN.out _
             | exact HRx.out.far (p := ⟨x, 11, none⟩) HRN.out _
             | exact (HRx.out.far (p := ⟨x, 10, none⟩) HRN.out _).far (p := ⟨x, 11, none⟩) HRN.out _
             | exact hbw
             | exact hbw.setCell (p := ⟨x, 10, none⟩) hlow _
             | exact hbw.setCell (p := ⟨x, 11, none⟩) hlow _
             | exact (hbw.setCell (p := ⟨x, 10, none⟩) hlow _).setCell (p := ⟨x, 11, none⟩) hlow _
         · have e2 : stepF (farN g ys ns) ns (k + 1) = stepF (farN g ys ns) ns k := SN.out.same rfl
           have HE1 := Lib.hid e1; have HE2 := Lib.hid e2
           have HSO1 := HSO.out
           try rw [hcy] at HSO1
           try rw [hcn] at HSO1
           have HSO2 := Lib.hid HSO1
           clear e1 e2 HSO1 HSO SY SN
           try clear hcy
           try clear hcn
           go_wp2_with (go_at_call 119; refine HLK.out.mono ?_; rintro e w' ⟨rfl, rfl⟩)
           refine ⟨⟨k + 1, _, by omega, by go_num, rfl, ?_, by rw [HE1.out, HE2.out]; first | exact HBx.out | exact HBx.out.set_yes HX.out true | exact HBx.out.set_no HX.out true | exact (HBx.out.set_yes HX.out true).set_no HX.out true, by simpa using HSO2.out, ?_⟩, by simp [intOf]; omega⟩
           all_goals first
             | exact HRx.out
             | exact HRx.out.far (p := ⟨x, 10, none⟩) HRN.out _
             | exact HRx.out.far (p := ⟨x, 11, none⟩) HRN.out _
             | exact (HRx.out.far (p := ⟨x, 10, none⟩) HRN.out _).far (p := ⟨x, 11, none⟩) HRN.out _
             | exact hbw
             | exact hbw.setCell (p := ⟨x, 10, none⟩) hlow _
             | exact hbw.setCell (p := ⟨x, 11, none⟩) hlow _
             | exact (hbw.setCell (p := ⟨x, 10, none⟩) hlow _).setCell (p := ⟨x, 11, none⟩) hlow _
   · obtain rfl : k = n := by omega
     have HO := Lib.hid hok; have HRx := Lib.hid hR; have HBx := Lib.hid hB; clear hok hR hB
     go_wp2
     go_ret
     exact ⟨ch, rfl, HRx.out, by unfold nextY nextN; rw [HN.out]; exact HBx.out, by have := HO.out; rw [← HN.out] at this; exact this.fin, hbw⟩
end Go.Proofs.YtdjgicapbpoigaaGreatDoor

namespace Go.Proofs.YtdjgicapbpoigaaGreatDoor
open Go.RowKit
set_option linter.unusedSimpArgs false
set_option linter.unusedVariables false

set_option maxRecDepth 100000 in
set_option maxHeartbeats 8000000 in
theorem lay_any (R n base : Nat) (g : List Pt) (hs ss : List Nat) (ys ns : List Bool) (w : World) (hR : Blk w R 145 (pRow hs)) (hB : Blks w base g hs ss ys ns) (hl : hs.length = n) (hgl : g.length = n) (hg : graphOk g) :
   Calls Tryz.prog 80 #[.slice (some ⟨R, 0, none⟩) n n] w fun e w' => ∃ (ss' : List Nat) (ys' ns' : List Bool), e = .returned (.tuple #[]) ∧ Blk w' R 145 (pRow hs) ∧ Blks w' base g hs ss' ys' ns' ∧ Starts g ys' ns' ss' ∧ LayRel g ys ns ys' ns' ∧ Below base w w' := by
 have hn120 : n ≤ 120 := by rw [← hgl]; exact hg.1.2
 have HR := Lib.hid hR; have HB := Lib.hid hB; have HL := Lib.hid hl; have HN := Lib.hid hgl; have HG := Lib.hid hg; clear hR hB hl hgl hg
 go_enter Tryz.func80, Tryz.ntmps80
 go_wp2
 go_step3
 go_wp2
 go_step3
 go_wp2
 go_loopg [] (nearN ys + nearN ns) (fun gk wr => ∃ (ss' : List Nat) (ys' ns' : List Bool), gk = nearN ys' + nearN ns' ∧ Blk wr R 145 (pRow hs) ∧ Blks wr base g hs ss' ys' ns' ∧ Hid (∀ a b, LayRel g ys' ns' a b → LayRel g ys ns a b) ∧ Below base w wr)
 case atStart => exact ⟨ss, ys, ns, rfl, HR.out, HB.out, Lib.hid (fun a b h => h), Below.refl _ _⟩
 case round =>
   obtain ⟨ss', ys', ns', hgk, hR, hB, HLR, hbw⟩ := hrel
   have hts : ∀ k, tailSum (szAt g ys' ns') n k ≤ 600 := fun k => Nat.le_trans (tailSum_le (szAt_le g ys' ns') n _ k rfl) (by omega)
   have HGK := Lib.hid hgk; have HTS := Lib.hid hts; have HRa := Lib.hid hR; have HBa := Lib.hid hB; clear hgk hts hR hB
   go_wp2
   go_loopg [2, 3] n (fun gk m i wx => ∃ (k : Nat) (z : Int) (ss2 : List Nat), k ≤ n ∧ z + 1 = k ∧ gk = k ∧ i = .int .i64 z ∧ m = .int .i64 (tailSum (szAt g ys' ns') n k : Nat) ∧ Blk wx R 145 (pRow hs) ∧ Blks wx base g hs ss2 ys' ns' ∧ Hid (∀ j, k ≤ j → j < n → ss2[j]? = some (stAt g ys' ns' j)) ∧ Below base w wx)
   case atStart => exact ⟨n, (n : Int) - 1, ss', Nat.le_refl _, by omega, rfl, by go_num, by rw [tailSum_end]; rfl, HRa.out, HBa.out, Lib.hid (fun j h1 h2 => absurd h1 (by omega)), hbw⟩
   case round =>
     obtain ⟨k, z, ss2, hk, hkz, hgk2, rfl, rfl, hR, hB, HST, hbw2⟩ := hrel
     clear hbw
     by_cases hge : 0 ≤ z
     · obtain ⟨m, rfl⟩ : ∃ m : Nat, z = m := ⟨z.toNat, by omega⟩
       obtain rfl : k = m + 1 := by omega
       have hmn : m < n := by omega
       have hmi : (m : Int) < n := by omega
       obtain ⟨p, hgp⟩ : ∃ p, g[m]? = some p := ⟨_, List.getElem?_eq_getElem (by rw [HN.out]; omega)⟩
       obtain ⟨x, hx⟩ : ∃ x, hs[m]? = some x := ⟨_, List.getElem?_eq_getElem (by rw [HL.out]; omega)⟩
       have d0 := pRow_cell hR hx
       have hRx : R ≠ x := blk_apart hR (hB.ptr hx hgp rfl rfl rfl) (by decide)
       have hRx' : x ≠ R := Ne.symm hRx
       have hlow := hB.low x (List.mem_of_getElem? hx)
       have f7 := (hB.ptr hx hgp rfl rfl rfl).frozen 7
       have e7 : ∃ v, wr.cell? ⟨x, 7, none⟩ = some v := (hB.ptr hx hgp rfl rfl rfl).some_ (by simp [bkCells])
       obtain ⟨v7, e7⟩ := e7
       have hB2 := hB.set_start hx (tailSum (szAt g ys' ns') n (m + 1))
       have hR2 := hR.far (p := ⟨x, 7, none⟩) hRx (.int .i64 ((tailSum (szAt g ys' ns') n (m + 1) : Nat) : Int))
       have hb2 := hbw2.setCell (p := ⟨x, 7, none⟩) hlow (.int .i64 ((tailSum (szAt g ys' ns') n (m + 1) : Nat) : Int))
       have h600 := HTS.out (m + 1)
       have hsl : m < ss2.length := by rw [hB.sl, HL.out]; exact hmn
       have HE := Lib.hid (end_any x p (tailSum (szAt g ys' ns') n (m + 1)) (wayV hs p p.yes) (wayV hs p p.no) (ys'.getD m false) (ns'.getD m false) _ (hB2.ptr hx hgp (getD_set_self hsl) rfl rfl) (by omega))
       have hz5 := szAt_le g ys' ns' m
       have HS := Lib.hid (tailSum_step (f := szAt g ys' ns') hmn); have HZ := Lib.hid (szP_at (ys := ys') (ns := ns') hgp)
       have hz6 : szP p (ys'.getD m false) (ns'.getD m false) ≤ 5 := by rw [← HZ.out]; exact hz5
       have HB2 := Lib.hid hB2; have HR2 := Lib.hid hR2; have HSL := Lib.hid hsl
       clear hB hR hB2 hR2 hgp hx hsl
       go_wp2_with (go_at_call 117; refine HE.out.mono ?_; rintro e w' ⟨rfl, rfl⟩)
       go_roundg m
       case measure => omega
       case rel =>
         refine ⟨m, (m : Int) - 1, ss2.set m (tailSum (szAt g ys' ns') n (m + 1)), by omega, by omega, rfl, by go_num, ?_, HR2.out, HB2.out, Lib.hid (fun j h1 h2 => ?_), hb2⟩
         · rw [HS.out, HZ.out]; go_num
         · by_cases e : m = j
           · subst e
             rw [List.getElem?_set_self HSL.out]
             unfold stAt
             rw [HN.out]
           · rw [List.getElem?_set_ne e]
             exact HST.out j (by omega) h2
     · obtain rfl : k = 0 := by omega
       have hst' : Starts g ys' ns' ss2 := fun j hj => HST.out j (Nat.zero_le _) (by rw [← HN.out]; exact hj)
       have HSP := Lib.hid (spread_any R n base g hs ss2 ys' ns' _ hR hB HL.out HN.out HG.out hst')
       have HST2 := Lib.hid hst'
       have HBx := Lib.hid hB
       clear hR hB HST hst'
       go_wp2_with fail
       refine HSP.out.mono ?_; rintro e w2 ⟨ch, rfl, hR2, hB2, hch, hb2⟩
       have hb3 := hbw2.trans hb2
       cases ch
       case' false =>
         obtain ⟨e1, e2⟩ := hch.1 rfl
         rw [e1, e2] at hB2
         have HR2 := Lib.hid hR2; have HB2 := Lib.hid hB2; have HD := Lib.hid (HLR.out _ _ (.done ⟨e1, e2⟩))
         clear hch e1 e2 hR2 hB2
         go_wp2
         first | rw [Exit.noGoto_normal] | (show bodyPost _ _ _ _ _ _ _) | (unfold Exit.noGoto; simp only [])
         go_end0
         exact ⟨ss2, ys', ns', rfl, HR2.out, HB2.out, HST2.out, HD.out, hb3⟩
       case' true =>
         have hne : ¬ (nextY g ys' ns' = ys' ∧ nextN g ys' ns' = ns') := fun e => by have := hch.2 e; cases this
         have HNE := Lib.hid hne; have HR2 := Lib.hid hR2; have HB2 := Lib.hid hB2
         clear hch hne hR2 hB2
         go_wp2
         go_roundg (nearN (nextY g ys' ns') + nearN (nextN g ys' ns'))
         case measure =>
           rw [HGK.out]
           have h1 := stepF_near (farY g ys' ns') ys' g.length
           have h2 := stepF_near (farN g ys' ns') ns' g.length
           unfold nextY nextN
           rcases Decidable.em (stepF (farY g ys' ns') ys' g.length = ys') with e1 | e1
           · have := h2.2 (fun e2 => HNE.out ⟨e1, e2⟩)
             omega
           · have := h1.2 e1
             omega
         case rel => exact ⟨ss2, _, _, rfl, HR2.out, HB2.out, Lib.hid (fun a b h => HLR.out a b (.more HNE.out h)), hb3⟩
end Go.Proofs.YtdjgicapbpoigaaGreatDoor

-- How impl lays the points of a graph: block.write puts a point's places behind a program.
namespace Go.Proofs.YtdjgicapbpoigaaGreatDoor
open Go.RowKit
set_option linter.unusedSimpArgs false
set_option linter.unusedVariables false

theorem own_grown_below {w w' : World} {base n : Nat} {e : TypeId} {size : Nat} {v : Value} {xs : List Value} (h : w.ownsRow base e size v n xs) (hg : w.grownBy w' v.ownBlock) (hb : base ≤ w.heap.size) : Below base w w' :=
 (Below.refl base w).grown hg hb (fun k hk => (h.lt k hk).1)

set_option maxRecDepth 100000 in
set_option maxHeartbeats 16000000 in
theorem write_any (x k n base bs : Nat) (g : List Pt) (hs ss : List Nat) (ys ns : List Bool) (cv : Value) (XS : List In4) (w : World) (hB : Blks w base g hs ss ys ns) (hx : hs[k]? = some x) (hl : hs.length = n) (hgl : g.length = n) (hg : graphOk g) (hst : Starts g ys ns ss)
   (hlow : ∀ h ∈ hs, h < bs) (hbs : bs ≤ w.heap.size) (hown : w.ownsRow bs 63 4 cv XS.length (insR XS).flatten) (hXS : XS.length ≤ 1000) :
   Calls Tryz.prog 81 #[.pointer (some ⟨x, 0, none⟩), cv] w fun e w' => ∃ v', e = .returned v' ∧ w'.ownsRow bs 63 4 v' (XS ++ ptCode g ys ns k).length (insR (XS ++ ptCode g ys ns k)).flatten ∧ Below bs w w' := by
 have hn120 : n ≤ 120 := by rw [← hgl]; exact hg.1.2
 have hkn : k < n := by rw [← hl]; exact (List.getElem?_eq_some_iff.1 hx).1
 obtain ⟨p, hgp⟩ : ∃ p, g[k]? = some p := ⟨_, List.getElem?_eq_getElem (by omega)⟩
 obtain ⟨yv, hyv⟩ := bRow_some (rs := ys) (n := n) (by rw [hB.yl, hl]) hkn
 obtain ⟨nv, hnv⟩ := bRow_some (rs := ns) (n := n) (by rw [hB.nl, hl]) hkn
 have hbk := hB.ptr hx hgp (getD_ofB (hst k (by omega))) (getD_ofB hyv) (getD_ofB hnv)
 have hxb := hlow x (List.mem_of_getElem? hx)
 by_cases h0 : p.op = 0
 · have hp : ptCode g ys ns k = [⟨6, p.verdict, 0, 0⟩] := by unfold ptCode; rw [hgp]; simp only []; rw [if_pos h0]
   have HP := Lib.hid hp
   obtain ⟨c0, c1, c2, c3, c4, c5, c6, -⟩ := bk_cells hbk
   have hd : (p.op == 0) = true := by simp [h0]
   have O0 := hown.alloc (.cells #[.int .i64 p.verdict, .int .i64 p.field, .int .i64 p.mask, .int .i64 p.op, .int .i64 p.value, .int .i64 p.yes, .int .i64 p.no] 151)
   obtain ⟨W0, hW0⟩ : ∃ W, W = (w.alloc (.cells #[.int .i64 p.verdict, .int .i64 p.field, .int .i64 p.mask, .int .i64 p.op, .int .i64 p.value, .int .i64 p.yes, .int .i64 p.no] 151)) := ⟨_, rfl⟩
   rw [← hW0] at O0
   have hz0 : bs ≤ W0.heap.size := by rw [hW0]; simp; omega
   have hb0 : Below bs w W0 := by rw [hW0]; exact (Below.refl bs w).alloc hbs _
   have d0 : W0.cell? ⟨w.heap.size, 0, none⟩ = some (.int .i64 p.verdict) := by rw [hW0]; exact (Blk.new w _ _).cell 0
   have HW0 := Lib.hid hW0; have HO := Lib.hid O0
   clear hp h0 hB hst hg hgp hbk hx hown hyv hnv hW0 O0
   go_enter Tryz.func81, Tryz.ntmps81
   go_upto_region 3 with (fail)
   try rw [← HW0.out]
   go_wp2_with (at_builtin; go_must (refine wpList_app1 rfl (.tmp 16) (.tmp 20) _ rfl bs 63 Tryz.underlying38 info_Ins rfl (by omega) (by omega) cv XS.length (insR XS) rfl HO.out rfl (by simp [Value.oneCell']) rfl (by omega) hz0 ?_); intro v5 w5 hown5 hb5 _)
   have HO5 := Lib.hid hown5
   clear hown5
   go_wp2
   go_ret
   refine ⟨v5, rfl, ?_, ?_⟩
   · rw [HP.out]
     have := HO5.out
     simpa [insR, In4.cells] using this
   · exact hb0.trans hb5
 · obtain ⟨y, nn, hy, hnn, hyk, hnk⟩ := look_ways hg hgp h0
   obtain ⟨xy, hxy⟩ : ∃ x, hs[y]? = some x := ⟨_, List.getElem?_eq_getElem (by omega)⟩
   obtain ⟨xn, hxn⟩ : ∃ x, hs[nn]? = some x := ⟨_, List.getElem?_eq_getElem (by omega)⟩
   obtain ⟨py, hpy⟩ : ∃ p, g[y]? = some p := ⟨_, List.getElem?_eq_getElem (by omega)⟩
   obtain ⟨pn, hpn⟩ : ∃ p, g[nn]? = some p := ⟨_, List.getElem?_eq_getElem (by omega)⟩
   have BY := Lib.hid (hB.ptr hxy hpy (getD_ofB (hst y (by omega))) rfl rfl)
   have BN := Lib.hid (hB.ptr hxn hpn (getD_ofB (hst nn (by omega))) rfl rfl)
   have hyb := hlow xy (List.mem_of_getElem? hxy)
   have hnb := hlow xn (List.mem_of_getElem? hxn)
   rw [hy, hnn, wayV_look h0 hxy, wayV_look h0 hxn] at hbk
   have s1 : stAt g ys ns k ≤ 600 := Nat.le_trans (stAt_le g ys ns k) (by omega)
   have s2 : stAt g ys ns y ≤ 600 := Nat.le_trans (stAt_le g ys ns y) (by omega)
   have s3 : stAt g ys ns nn ≤ 600 := Nat.le_trans (stAt_le g ys ns nn) (by omega)
   have s4 := tstP_le p
   have hp : ptCode g ys ns k = [⟨1, p.field, 0, 0⟩] ++ (if p.mask = 4294967295 then [] else [⟨2, p.mask, 0, 0⟩]) ++
       [⟨if p.op = 3 then 4 else 3, p.value, if yv then 0 else (stAt g ys ns y : Int) - (stAt g ys ns k + tstP p), if nv then (yv.toNat : Int) else (stAt g ys ns nn : Int) - (stAt g ys ns k + tstP p)⟩] ++
       (if yv then [⟨5, (stAt g ys ns y : Int) - (stAt g ys ns k + tstP p) - 1, 0, 0⟩] else []) ++
       (if nv then [⟨5, (stAt g ys ns nn : Int) - (stAt g ys ns k + tstP p) - yv.toNat - 1, 0, 0⟩] else []) := by
     rw [← tstP_at hgp]
     unfold ptCode
     rw [hgp]
     simp only []
     rw [if_neg h0, hyv, hnv, hy, hnn]
     rfl
   obtain ⟨c0, c1, c2, c3, c4, c5, c6, -⟩ := bk_cells hbk
   have hd : (p.op == 0) = false := by simp [h0]
   have HP := Lib.hid hp; have HBK := Lib.hid hbk
   have HLA := Lib.hid (fun (W : World) (hW : Below bs w W) => lookAt_any x p (stAt g ys ns k) _ _ yv nv W (hbk.below hW hxb) (by omega))
   have P0 := Blk.new w 151 #[.int .i64 p.verdict, .int .i64 p.field, .int .i64 p.mask, .int .i64 p.op, .int .i64 p.value, .int .i64 p.yes, .int .i64 p.no]
   have hb0 : Below bs w (w.alloc (.cells #[.int .i64 p.verdict, .int .i64 p.field, .int .i64 p.mask, .int .i64 p.op, .int .i64 p.value, .int .i64 p.yes, .int .i64 p.no] 151)) := (Below.refl bs w).alloc hbs _
   have O0 := hown.alloc (.cells #[.int .i64 p.verdict, .int .i64 p.field, .int .i64 p.mask, .int .i64 p.op, .int .i64 p.value, .int .i64 p.yes, .int .i64 p.no] 151)
   obtain ⟨W0, hW0⟩ : ∃ W, W = (w.alloc (.cells #[.int .i64 p.verdict, .int .i64 p.field, .int .i64 p.mask, .int .i64 p.op, .int .i64 p.value, .int .i64 p.yes, .int .i64 p.no] 151)) := ⟨_, rfl⟩
   rw [← hW0] at O0 P0 hb0
   have hz0 : bs ≤ W0.heap.size := by rw [hW0]; simp; omega
   have d1 : W0.cell? ⟨w.heap.size, 1, none⟩ = some (.int .i64 p.field) := P0.cell 1
   have HW0 := Lib.hid hW0; have HP0 := Lib.hid P0; have HO0 := Lib.hid O0
   clear hp hB hst hg hgp hbk hx hown hyv hnv h0 P0 O0 hW0 hxy hxn hpy hpn hy hnn
   generalize tstP p = TK at *
   obtain ⟨pv, pf, pm, po, pl, pyy, pnn⟩ := p
   simp only at c0 c1 c2 c3 c4 c5 c6 hd d1
   generalize stAt g ys ns k = SK at *
   generalize stAt g ys ns y = SY at *
   generalize stAt g ys ns nn = SN at *
   go_enter Tryz.func81, Tryz.ntmps81
   go_upto_region 4 with (fail)
   try rw [← HW0.out]
   go_upto_region 5 with (at_builtin; go_must (refine wpList_app1g rfl (.tmp 22) (.tmp 26) _ rfl bs 63 Tryz.underlying38 info_Ins rfl (by omega) (by omega) cv XS.length (insR XS) rfl HO0.out rfl (by simp [Value.oneCell']) rfl (by omega) hz0 ?_); intro v2 V hown2 hg2 _)
   have HPV := Lib.hid (HP0.out.grown hg2 (own_far_type HO0.out HP0.out (by decide)))
   have hbV := hb0.trans (own_grown_below HO0.out hg2 hz0)
   obtain ⟨X1, hX1⟩ : ∃ l : List In4, l = XS ++ [⟨1, pf, 0, 0⟩] := ⟨_, rfl⟩
   have HOV := Lib.hid (show V.ownsRow bs 63 4 v2 X1.length (insR X1).flatten by rw [hX1]; exact own_eq hown2 (by simp) (by simp [insR, In4.cells]))
   have hL1 : X1.length ≤ 1001 := by rw [hX1]; simp; omega
   have HX1 := Lib.hid hX1
   clear hX1
   have hzV := Nat.le_trans hbs hbV.size
   have d2 := (show _ = some (Value.int .i64 pm) from HPV.out.cell 2)
   clear hown2 hg2 d1 HO0 HP0 hz0 hb0 HW0 c0 c1 c2 c3 c4 c5 c6
   rcases Decidable.em (pm = 4294967295) with hm4 | hm4
   case' inl =>
     have hdm : (pm != 4294967295) = false := by simp [hm4]
     obtain ⟨X2, hX2⟩ : ∃ l : List In4, l = X1 := ⟨_, rfl⟩
     have HX2 := Lib.hid (show XS ++ (([⟨1, pf, 0, 0⟩] : List In4) ++ if pm = 4294967295 then ([] : List In4) else [⟨2, pm, 0, 0⟩]) = X2 by rw [hX2, if_pos hm4, HX1.out]; simp)
     have hXl : X2.length ≤ 1002 := by rw [hX2]; omega
     rw [← hX2] at HOV
     clear hm4 hX2
     go_upto_region 7 with (fail)
   case' inr =>
     have hdm : (pm != 4294967295) = true := by simp [hm4]
     obtain ⟨X2, hX2⟩ : ∃ l : List In4, l = X1 ++ [⟨2, pm, 0, 0⟩] := ⟨_, rfl⟩
     have HX2 := Lib.hid (show XS ++ (([⟨1, pf, 0, 0⟩] : List In4) ++ if pm = 4294967295 then ([] : List In4) else [⟨2, pm, 0, 0⟩]) = X2 by rw [hX2, if_neg hm4, HX1.out]; simp)
     have hXl : X2.length ≤ 1002 := by rw [hX2]; simp; omega
     have HXE := Lib.hid hX2
     clear hm4 hX2
     go_upto_region 7 with (at_builtin; go_must (refine wpList_app1g rfl (.tmp 31) (.tmp 35) _ rfl bs 63 Tryz.underlying38 info_Ins rfl (by omega) (by omega) v2 X1.length (insR X1) rfl HOV.out rfl (by simp [Value.oneCell']) rfl (by omega) hzV ?_); intro v2 V hown2 hg2 _)
     have hbV := hbV.trans (own_grown_below HOV.out hg2 hzV)
     have hzV := Nat.le_trans hbs hbV.size
     have HPV := Lib.hid (HPV.out.grown hg2 (own_far_type HOV.out HPV.out (by decide)))
     have HOV := Lib.hid (show V.ownsRow bs 63 4 v2 X2.length (insR X2).flatten by rw [HXE.out]; exact own_eq hown2 (by simp) (by simp [insR, In4.cells]))
     clear hown2 hg2 HXE
   all_goals
     clear d2 hdm
     have hBV := HBK.out.below hbV hxb
     obtain ⟨-, -, -, -, -, -, -, c7, c8, c9, c10, c11⟩ := bk_cells hBV
     have cy := (show _ = some (Value.int .i64 (SY : Int)) from (BY.out.below hbV hyb).cell 7)
     have cn := (show _ = some (Value.int .i64 (SN : Int)) from (BN.out.below hbV hnb).cell 7)
     have d4 := (show _ = some (Value.int .i64 pl) from HPV.out.cell 4)
     have hpl := HPV.out.lt
     have n1 : V.heap.size ≠ w.heap.size := by omega
     have n2 : V.heap.size ≠ x := by omega
     have n3 : V.heap.size ≠ xy := by omega
     have n4 : V.heap.size ≠ xn := by omega
     clear hBV c7 c10 c11
     go_upto_region 8 with (go_at_call 119; refine (HLA.out _ hbV).mono ?_; rintro e w' ⟨rfl, rfl⟩)
     go_region_held3 (fun w' => w'.cell? ⟨w.heap.size, 4, none⟩ = some (.int .i64 pl) ∧ w'.cell? ⟨x, 8, none⟩ = some (.pointer (some ⟨xy, 0, none⟩)) ∧ w'.cell? ⟨x, 9, none⟩ = some (.pointer (some ⟨xn, 0, none⟩)) ∧ w'.cell? ⟨xy, 7, none⟩ = some (.int .i64 (SY : Int)) ∧ w'.cell? ⟨xn, 7, none⟩ = some (.int .i64 (SN : Int))) (go_keep) (fail)
     obtain ⟨U, hU⟩ : ∃ U, U = (V.alloc (.cells #[.int .i64 3, .int .i64 pl, .int .i64 ((SY : Int) - (SK + TK)), .int .i64 ((SN : Int) - (SK + TK))] 63)).drew := ⟨_, rfl⟩
     have hw2 : IntKind.i64.wrap ((SY : Int) - (SK + TK)) = SY - (SK + TK) := IntWalk.i64_in _ (by omega)
     have hw3 : IntKind.i64.wrap ((SN : Int) - (SK + TK)) = SN - (SK + TK) := IntWalk.i64_in _ (by omega)
     try simp only [hw2, hw3]
     rw [← hU]
     clear hw2 hw3
     have hVU : Below V.heap.size V U := by rw [hU]; go_grown
     have HTU := Lib.hid (show Blk U V.heap.size 63 #[.int .i64 3, .int .i64 pl, .int .i64 ((SY : Int) - (SK + TK)), .int .i64 ((SN : Int) - (SK + TK))] by rw [hU]; exact Blk.new V _ _)
     clear hU c8 c9 cy cn d4
     have x3 := (show _ = some (Value.int .i64 po) from (HPV.out.below hVU hpl).cell 3)
     rcases Decidable.em (po = 3) with ho | ho
     case' inl =>
       have HPO4 := Lib.hid ho
       have hdo : (po == 3) = true := by simp [ho]
       have t0 := (show _ = some (Value.int .i64 3) from HTU.out.cell 0)
       have tf := HTU.out.frozen 0
       clear ho
       go_upto_region 11 with (fail)
       obtain ⟨Z, hZ⟩ : ∃ Z, Z = U.setCell ⟨V.heap.size, 0, none⟩ (.int .i64 4) := ⟨_, rfl⟩
       rw [← hZ]
       have hVZ : Below V.heap.size V Z := by rw [hZ]; exact hVU.setCell (p := ⟨V.heap.size, 0, none⟩) (Nat.le_refl _) _
       obtain ⟨OP, hOP⟩ : ∃ OP : Int, OP = 4 := ⟨_, rfl⟩
       have HTZ := Lib.hid (show Blk Z V.heap.size 63 #[.int .i64 OP, .int .i64 pl, .int .i64 ((SY : Int) - (SK + TK)), .int .i64 ((SN : Int) - (SK + TK))] by rw [hZ, hOP]; exact HTU.out.set_ 0 _)
       have HPO := Lib.hid (show (if po = 3 then (4 : Int) else 3) = OP by rw [hOP, if_pos HPO4.out])
       clear hZ hOP t0 tf hdo HTU
     case' inr =>
       have HPO4 := Lib.hid ho
       have hdo : (po == 3) = false := by simp [ho]
       clear ho
       go_upto_region 11 with (fail)
       obtain ⟨Z, hZ⟩ : ∃ Z, Z = U := ⟨_, rfl⟩
       rw [← hZ]
       have hVZ : Below V.heap.size V Z := by rw [hZ]; exact hVU
       obtain ⟨OP, hOP⟩ : ∃ OP : Int, OP = 3 := ⟨_, rfl⟩
       have HTZ := Lib.hid (show Blk Z V.heap.size 63 #[.int .i64 OP, .int .i64 pl, .int .i64 ((SY : Int) - (SK + TK)), .int .i64 ((SN : Int) - (SK + TK))] by rw [hZ, hOP]; exact HTU.out)
       have HPO := Lib.hid (show (if po = 3 then (4 : Int) else 3) = OP by rw [hOP, if_neg HPO4.out])
       clear hZ hOP hdo HTU
     all_goals
       clear x3 hVU
       have hbZ := hbV.trans (hVZ.mono hzV)
       have c10 := (show _ = some (Value.bool yv) from (HBK.out.below hbZ hxb).cell 10)
       have hvz : V.heap.size < Z.heap.size := HTZ.out.lt
       cases yv
       case' false =>
         obtain ⟨TV, hTV⟩ : ∃ t : Int, t = (SY : Int) - (SK + TK) := ⟨_, rfl⟩
         obtain ⟨BL, hBL⟩ : ∃ l : List In4, l = [] := ⟨_, rfl⟩
         have HTV := Lib.hid (show (if false = true then 0 else (SY : Int) - (SK + TK)) = TV by rw [hTV]; rfl)
         have HBL := Lib.hid (show (if false = true then [⟨5, (SY : Int) - (SK + TK) - 1, 0, 0⟩] else ([] : List In4)) = BL by rw [hBL]; rfl)
         have hbl : BL.length = (false).toNat := by rw [hBL]; rfl
         have HTQ := Lib.hid (show Blk Z V.heap.size 63 #[.int .i64 OP, .int .i64 pl, .int .i64 TV, .int .i64 ((SN : Int) - (SK + TK))] by rw [hTV]; exact HTZ.out)
         go_upto_region 15 with (fail)
         obtain ⟨Q, hQ⟩ : ∃ Q, Q = Z := ⟨_, rfl⟩
         rw [← hQ] at HTQ
         rw [← hQ]
         have hVQ : Below V.heap.size V Q := by rw [hQ]; exact hVZ
         have hzq : Z.heap.size ≤ Q.heap.size := by rw [hQ]; exact Nat.le_refl _
         obtain ⟨JA, hJA⟩ : ∃ B : Option Addr, B = none := ⟨_, rfl⟩
         obtain ⟨bn, hbn⟩ : ∃ B : Nat, B = 0 := ⟨_, rfl⟩
         obtain ⟨cb, hcb⟩ : ∃ B : Nat, B = 0 := ⟨_, rfl⟩
         have hbn2 : bn = BL.length := by rw [hbn, hBL]; rfl
         have HBQ := Lib.hid (show Q.ownsRow Z.heap.size 63 4 (.slice JA bn cb) bn (insR BL).flatten by
           rw [hJA, hbn, hcb, hBL]
           exact World.ownsRow_nil _ _ _ _)
         have hval : Value.slice none 0 0 = .slice JA bn cb := by rw [hJA, hbn, hcb]
         rw [hval]
         clear hQ hJA hbn hcb hBL hTV hval c10
       case' true =>
         have t2 := (show _ = some (Value.int .i64 ((SY : Int) - (SK + TK))) from HTZ.out.cell 2)
         have tf := HTZ.out.frozen 2
         go_upto_region 14 with (fail)
         obtain ⟨Y, hY⟩ : ∃ Y, Y = Z.setCell ⟨V.heap.size, 2, none⟩ (.int .i64 0) := ⟨_, rfl⟩
         rw [← hY]
         have hVY : Below V.heap.size V Y := by rw [hY]; exact hVZ.setCell (p := ⟨V.heap.size, 2, none⟩) (Nat.le_refl _) _
         have HTY := Lib.hid (show Blk Y V.heap.size 63 #[.int .i64 OP, .int .i64 pl, .int .i64 0, .int .i64 ((SN : Int) - (SK + TK))] by rw [hY]; exact HTZ.out.set_ 2 _)
         have hzy : Z.heap.size ≤ Y.heap.size := by rw [hY]; simp
         clear hY t2 tf c10
         have hbY := hbV.trans (hVY.mono hzV)
         obtain ⟨-, -, -, -, -, -, -, c7, c8, c9, c10, c11⟩ := bk_cells (HBK.out.below hbY hxb)
         have cy := (show _ = some (Value.int .i64 (SY : Int)) from (BY.out.below hbY hyb).cell 7)
         clear c7 c9 c10 c11
         go_upto_region 15 with (at_builtin; go_must (refine wpList_app1g rfl (.tmp 70) (.tmp 82) _ rfl Z.heap.size 63 Tryz.underlying38 info_Ins rfl (by omega) (by omega) (.slice none 0 0) 0 [] rfl (World.ownsRow_nil _ _ _ _) rfl (by simp [Value.oneCell']) rfl (by omega) hzy ?_); intro v9 Q hown9 hg9 _)
         obtain ⟨TV, hTV⟩ : ∃ t : Int, t = 0 := ⟨_, rfl⟩
         obtain ⟨BL, hBL⟩ : ∃ l : List In4, l = [⟨5, (SY : Int) - (SK + TK) - 1, 0, 0⟩] := ⟨_, rfl⟩
         have HTV := Lib.hid (show (if true = true then 0 else (SY : Int) - (SK + TK)) = TV by rw [hTV]; rfl)
         have HBL := Lib.hid (show (if true = true then [⟨5, (SY : Int) - (SK + TK) - 1, 0, 0⟩] else ([] : List In4)) = BL by rw [hBL]; rfl)
         have hbl : BL.length = (true).toNat := by rw [hBL]; rfl
         have HTQ := Lib.hid (show Blk Q V.heap.size 63 #[.int .i64 OP, .int .i64 pl, .int .i64 TV, .int .i64 ((SN : Int) - (SK + TK))] by rw [hTV]; exact HTY.out.grown hg9 (by simp [Value.ownBlock]))
         obtain ⟨B9, cb, rfl, hB1, hB2⟩ := hown9.form (by omega)
         obtain ⟨JA, hJA⟩ : ∃ B : Option Addr, B = some ⟨B9, 0, none⟩ := ⟨_, rfl⟩
         obtain ⟨bn, hbn⟩ : ∃ B : Nat, B = 1 := ⟨_, rfl⟩
         have HBQ := Lib.hid (show Q.ownsRow Z.heap.size 63 4 (.slice JA bn cb) bn (insR BL).flatten by
           rw [hJA, hbn, hBL]
           simpa [insR, In4.cells] using hown9)
         have hzq : Z.heap.size ≤ Q.heap.size := by have := hg9.size; omega
         have hVQ : Below V.heap.size V Q := hVY.grown hg9 hVY.size (by simp [Value.ownBlock])
         have hbn2 : bn = BL.length := by rw [hbn, hBL]; rfl
         have hval : Value.slice (some ⟨B9, 0, none⟩) (0 + 1) cb = .slice JA bn cb := by rw [hJA, hbn]
         try rw [hval]
         clear hJA hbn hBL hTV hval hown9 hg9 HTY hzy hB1 hB2 c8 cy hbY hVY
       all_goals
         clear hbZ
         have hbQ := hbV.trans (hVQ.mono hzV)
         have c11 := (show _ = some (Value.bool nv) from (HBK.out.below hbQ hxb).cell 11)
         have hvq := hVQ.size
         have hbn1 : bn ≤ 1 := by rw [hbn2, hbl]; decide
         have HBN2 := Lib.hid hbn2
         have HBT := Lib.hid (show (bn : Int) = _ from congrArg (Nat.cast : Nat → Int) (hbn2.trans hbl))
         clear hbn2 hbl
         cases nv
         case' false =>
           obtain ⟨NV, hNV⟩ : ∃ t : Int, t = (SN : Int) - (SK + TK) := ⟨_, rfl⟩
           have HTR := Lib.hid (show Blk Q V.heap.size 63 #[.int .i64 OP, .int .i64 pl, .int .i64 TV, .int .i64 NV] by rw [hNV]; exact HTQ.out)
           go_upto_region 18 with (fail)
           obtain ⟨CL, hCL⟩ : ∃ l : List In4, l = [] := ⟨_, rfl⟩
           have HNQ := Lib.hid (show (if false = true then (bn : Int) else (SN : Int) - (SK + TK)) = NV by rw [hNV]; rfl)
           have HCL := Lib.hid (show (if false = true then [⟨5, (SN : Int) - (SK + TK) - (bn : Int) - 1, 0, 0⟩] else ([] : List In4)) = CL by rw [hCL]; rfl)
           obtain ⟨R, hR⟩ : ∃ Y, Y = Q := ⟨_, rfl⟩
           rw [← hR] at HTR
           rw [← hR]
           have hVR : Below V.heap.size V R := by rw [hR]; exact hVQ
           have hzr : Z.heap.size ≤ R.heap.size := by rw [hR]; exact hzq
           obtain ⟨JD, hJD⟩ : ∃ t : Option Addr, t = JA := ⟨_, rfl⟩
           obtain ⟨dn, hdn⟩ : ∃ t : Nat, t = bn := ⟨_, rfl⟩
           obtain ⟨cd, hcd⟩ : ∃ t : Nat, t = cb := ⟨_, rfl⟩
           have HDR := Lib.hid (show R.ownsRow Z.heap.size 63 4 (.slice JD dn cd) dn (insR (BL ++ CL)).flatten by rw [hR, hCL, hJD, hdn, hcd, List.append_nil]; exact HBQ.out)
           have hdn2 : dn = (BL ++ CL).length := by rw [hdn, hCL, List.append_nil]; exact HBN2.out
           have hdn3 : dn ≤ 2 := by omega
           have hval : Value.slice JA bn cb = .slice JD dn cd := by rw [hJD, hdn, hcd]
           rw [hval]
           clear hval hR hJD hdn hcd hNV hCL c11
         case' true =>
           have t3 := (show _ = some (Value.int .i64 ((SN : Int) - (SK + TK))) from HTQ.out.cell 3)
           have tf := HTQ.out.frozen 3
           go_upto_region 17 with (fail)
           obtain ⟨Y2, hY2⟩ : ∃ Y, Y = Q.setCell ⟨V.heap.size, 3, none⟩ (.int .i64 (bn : Int)) := ⟨_, rfl⟩
           rw [← hY2]
           have hVY2 : Below V.heap.size V Y2 := by rw [hY2]; exact hVQ.setCell (p := ⟨V.heap.size, 3, none⟩) (Nat.le_refl _) _
           have HTY2 := Lib.hid (show Blk Y2 V.heap.size 63 #[.int .i64 OP, .int .i64 pl, .int .i64 TV, .int .i64 (bn : Int)] by rw [hY2]; exact HTQ.out.set_ 3 _)
           have HBY2 := Lib.hid (show Y2.ownsRow Z.heap.size 63 4 (.slice JA bn cb) bn (insR BL).flatten by rw [hY2]; exact ownsRow_setCell_below HBQ.out (by exact HTZ.out.lt) _)
           have hzy2 : Z.heap.size ≤ Y2.heap.size := by rw [hY2]; simpa using hzq
           clear hY2 t3 tf c11
           have hbY2 := hbV.trans (hVY2.mono hzV)
           obtain ⟨-, -, -, -, -, -, -, c7, c8, c9, c10, c11⟩ := bk_cells (HBK.out.below hbY2 hxb)
           have cn := (show _ = some (Value.int .i64 (SN : Int)) from (BN.out.below hbY2 hnb).cell 7)
           clear c7 c8 c10 c11
           go_upto_region 18 with (at_builtin; go_must (refine wpList_app1g rfl (.tmp 91) (.tmp 106) _ rfl Z.heap.size 63 Tryz.underlying38 info_Ins rfl (by omega) (by omega) (.slice JA bn cb) bn (insR BL) rfl HBY2.out rfl (by simp [Value.oneCell']) rfl (by omega) hzy2 ?_); intro v8 R hown8 hg8 _)
           obtain ⟨NV, hNV⟩ : ∃ t : Int, t = (bn : Int) := ⟨_, rfl⟩
           obtain ⟨CL, hCL⟩ : ∃ l : List In4, l = [⟨5, (SN : Int) - (SK + TK) - (bn : Int) - 1, 0, 0⟩] := ⟨_, rfl⟩
           have HNQ := Lib.hid (show (if true = true then (bn : Int) else (SN : Int) - (SK + TK)) = NV by rw [hNV]; rfl)
           have HCL := Lib.hid (show (if true = true then [⟨5, (SN : Int) - (SK + TK) - (bn : Int) - 1, 0, 0⟩] else ([] : List In4)) = CL by rw [hCL]; rfl)
           have HTR := Lib.hid (show Blk R V.heap.size 63 #[.int .i64 OP, .int .i64 pl, .int .i64 TV, .int .i64 NV] by rw [hNV]; exact HTY2.out.grown hg8 (fun e => by have := (HBY2.out.lt _ e.symm).1; omega))
           obtain ⟨D8, cd, rfl, hD1, hD2⟩ := hown8.form (by omega)
           obtain ⟨JD, hJD⟩ : ∃ B : Option Addr, B = some ⟨D8, 0, none⟩ := ⟨_, rfl⟩
           obtain ⟨dn, hdn⟩ : ∃ B : Nat, B = bn + 1 := ⟨_, rfl⟩
           have HDR := Lib.hid (show R.ownsRow Z.heap.size 63 4 (.slice JD dn cd) dn (insR (BL ++ CL)).flatten by
             rw [hJD, hdn, hCL]
             simpa [insR, In4.cells] using hown8)
           have hzr : Z.heap.size ≤ R.heap.size := by have := hg8.size; omega
           have hVR : Below V.heap.size V R := hVY2.grown hg8 hVY2.size (fun k hk => by have := (HBY2.out.lt _ hk).1; omega)
           have hdn2 : dn = (BL ++ CL).length := by rw [hdn, hCL, List.length_append, ← HBN2.out]; rfl
           have hdn3 : dn ≤ 2 := by omega
           have hval : Value.slice (some ⟨D8, 0, none⟩) (bn + 1) cd = .slice JD dn cd := by rw [hJD, hdn]
           try rw [hval]
           clear hJD hdn hCL hNV hval hown8 hg8 HBY2 HTY2 hzy2 hD1 hD2 c9 cn hbY2 hVY2
         all_goals
           have e0 := (show _ = some (Value.int .i64 OP) from HTR.out.cell 0)
           have e1 := (show _ = some (Value.int .i64 pl) from HTR.out.cell 1)
           have e2 := (show _ = some (Value.int .i64 TV) from HTR.out.cell 2)
           have e3 := (show _ = some (Value.int .i64 NV) from HTR.out.cell 3)
           have HOR := Lib.hid (own_below HOV.out hVR)
           have hbR := hbV.trans (hVR.mono hzV)
           have hrz := Nat.le_trans hbs hbR.size
           have HDN := Lib.hid hdn2
           clear hdn2
           go_wp2_with (at_builtin; first
             | (((refine wpList_app1g (w0 := R) rfl (.tmp 108) (.tmp 110) _ rfl bs 63 Tryz.underlying38 info_Ins rfl (by omega) (by omega) v2 X2.length (insR X2) rfl HOR.out rfl (by simp [Value.oneCell']) rfl (by omega) hrz ?_)); intro v5 w5 hown5 hg5 _; have hb5 := own_grown_below HOR.out hg5 hrz; have hd5 := HDR.out.kept hg5 (own_apart_l HOV.out HDR.out (by omega)); have hz5 := Nat.le_trans hrz hb5.size; have HO5 := Lib.hid hown5; have HD5 := Lib.hid hd5; clear hown5 hd5 hg5)
             | ((go_must (refine wpList_app_rows rfl (.tmp 111) (.tmp 112) _ rfl bs 63 Tryz.underlying38 info_Ins rfl (by omega) (by omega) v5 (X2.length + 1) _ rfl HO5.out Z.heap.size (.slice JD dn cd) dn (insR (BL ++ CL)).flatten rfl HD5.out (ins_one _) (by omega) hz5 ?_)); intro v7 w7 hown7 hg7; have hb7 := own_grown_below HO5.out hg7 hz5; have HO7 := Lib.hid hown7; clear hown7 hg7))
           go_ret
           refine ⟨v7, rfl, own_eq HO7.out ?_ ?_, (hbR.trans hb5).trans hb7⟩
           · rw [HP.out, HPO.out, ← HBT.out, HTV.out, HNQ.out, HBL.out, HCL.out, HDN.out, ← HX2.out]
             simp
             try omega
           · rw [HP.out, HPO.out, ← HBT.out, HTV.out, HNQ.out, HBL.out, HCL.out, ← HX2.out]
             simp [insR, In4.cells]
end Go.Proofs.YtdjgicapbpoigaaGreatDoor

-- spec's GraphMake: of any policy some graph.
namespace Go.Proofs.YtdjgicapbpoigaaGreatDoor
open Go.RowKit
set_option linter.unusedSimpArgs false
set_option linter.unusedVariables false

theorem Sl.empty (w : World) (size : Nat) (t : TypeId) : Sl (w.alloc (.cells #[] t)) size (.slice (some ⟨w.heap.size, 0, none⟩) 0 0) [] := by
 have h : (w.alloc (.cells #[] t)).ownsRow 0 t size (.slice (some ⟨w.heap.size, 0, none⟩) 0 0) ([] : List (List Value)).length ([] : List (List Value)).flatten := World.ownsRow_lit (base := 0) (e := t) (size := size) w #[] 0 (Nat.zero_le _) (by unfold maxLen; omega) (by simp)
 obtain ⟨A, n, c, e, hA⟩ := SlA.of_own h rfl (fun r hr => by cases hr)
 exact ⟨A, n, c, e, hA⟩

end Go.Proofs.YtdjgicapbpoigaaGreatDoor

-- Joined texts: Lay4 GraphMk Lay5 MakeI MakeC.
namespace Go.Proofs.YtdjgicapbpoigaaGreatDoor
open Go.RowKit
set_option linter.unusedSimpArgs false
set_option linter.unusedVariables false

def isF : Value → Bool
 | .bool b => !b
 | _ => false
def nearW (w : World) (b : Nat) : Nat := match w.heap[b]? with
 | some (.cells cs _ _) => cs.toList.countP isF
 | _ => 0
theorem nearW_blk {w : World} {b : Nat} {t : TypeId} {ys : List Bool} (h : Blk w b t (bRow ys)) : nearW w b = nearN ys := by
 unfold nearW
 rw [show w.heap[b]? = _ from h]
 simp only [bRow, nearN, List.countP_map, List.count]
 apply List.countP_congr
 intro x _
 cases x <;> simp [isF]
theorem ptCode_pos {g : List Pt} {ys ns : List Bool} {i : Nat} (h : i < g.length) : 0 < (ptCode g ys ns i).length := by
 unfold ptCode
 rw [List.getElem?_eq_getElem h]
 simp only []
 split <;> simp

def layNear (w : World) (L : Nat) : Nat := match w.heap[L]? with
 | some (.cells cs _ _) => (match cs[0]?, cs[1]? with
   | some (Value.slice (some a) _ _), some (Value.slice (some b) _ _) => nearW w a.block + nearW w b.block
   | _, _ => 0)
 | _ => 0
theorem layNear_of {w : World} {L yb nb ab n : Nat} {ys ns : List Bool} {ps : List Nat} (h : Lay w L yb nb ab n ys ns ps) : layNear w L = nearN ys + nearN ns := by
 unfold layNear
 rw [show w.heap[L]? = _ from h.box, ← nearW_blk h.yes, ← nearW_blk h.no]
 rfl
theorem blk4_3 (w : World) (o0 o1 o2 : Obj) (c : Array Value) (t : TypeId) : Blk ((((w.alloc o0).alloc o1).alloc o2).alloc (.cells c t)) (w.heap.size + 1 + 1 + 1) t c := by
 have := Blk.new (((w.alloc o0).alloc o1).alloc o2) t c
 simpa using this
theorem blk4_2 (w : World) (o0 o1 o3 : Obj) (c : Array Value) (t : TypeId) : Blk ((((w.alloc o0).alloc o1).alloc (.cells c t)).alloc o3) (w.heap.size + 1 + 1) t c := by
 have := (Blk.new ((w.alloc o0).alloc o1) t c).alloc o3
 simpa using this
theorem blk4_1 (w : World) (o0 o2 o3 : Obj) (c : Array Value) (t : TypeId) : Blk ((((w.alloc o0).alloc (.cells c t)).alloc o2).alloc o3) (w.heap.size + 1) t c := by
 have := ((Blk.new (w.alloc o0) t c).alloc o2).alloc o3
 simpa using this
theorem blk4_0 (w : World) (o1 o2 o3 : Obj) (c : Array Value) (t : TypeId) : Blk ((((w.alloc (.cells c t)).alloc o1).alloc o2).alloc o3) w.heap.size t c := (((Blk.new w t c).alloc o1).alloc o2).alloc o3

set_option maxHeartbeats 4000000 in
theorem l5Make_any (A : Option Addr) (n c : Nat) (g : List Pt) (w : World) (hA : SlA w 7 A n c (g.map Pt.cells)) (hg : graphOk g) :
   Calls Tryz.prog 69 #[.slice A n c] w fun e w' => ∃ (v : Value) (x : List In4), e = .returned v ∧ MadeOf g x ∧ w'.ownsRow w.heap.size 63 4 v x.length (insR x).flatten ∧ Below w.heap.size w w' := by
 have hl : g.length = n := by have := hA.len; simpa using this
 have hn120 : n ≤ 120 := by rw [← hl]; exact hg.1.2
 have hc := hA.cap
 have hm := hA.max
 unfold maxLen at hm
 have HG := Lib.hid hg; have HN := Lib.hid hl; have HA := Lib.hid hA; clear hg hl hA
 have hmk := fun W => run_make_row' (P := Tryz.prog) 200 4 (.bool false) 1 Tryz.underlying200 info_boolR rfl .i64 .i64 n (by omega) (by omega) W
 have hmi := fun W => run_make_row' (P := Tryz.prog) 160 3 (.int .i64 0) 8 Tryz.underlying160 info_intR rfl .i64 .i64 n (by omega) (by omega) W
 go_enter Tryz.func69, Tryz.ntmps69
 go_wp2
 go_region
 all_goals
   clear hmk hmi
   go_wp2
   go_loopw [] (fun wr => ∃ (yb nb ab : Nat) (ys ns : List Bool) (ps : List Nat), w.heap.size ≤ yb ∧ w.heap.size ≤ nb ∧ w.heap.size ≤ ab ∧ Lay wr (w.heap.size + 1 + 1 + 1) yb nb ab n ys ns ps ∧ Below w.heap.size w wr ∧ (∀ a b, LayRel g ys ns a b → LayRel g (List.replicate n false) (List.replicate n false) a b)) (fun wr => layNear wr (w.heap.size + 1 + 1 + 1))
   case atStart =>
     refine ⟨_, _, _, List.replicate n false, List.replicate n false, List.replicate n 0, ?_, ?_, ?_, ⟨blk4_3 w.drew _ _ _ _ _, ?_, ?_, ?_, by simp, by simp, by simp, ?_⟩, by go_grown, fun a b h => h⟩
     rotate_left 3
     · rw [← bRow_zero]; first | exact blk4_0 w.drew _ _ _ _ _ | exact blk4_1 w.drew _ _ _ _ _ | exact blk4_2 w.drew _ _ _ _ _
     · rw [← bRow_zero]; first | exact blk4_0 w.drew _ _ _ _ _ | exact blk4_1 w.drew _ _ _ _ _ | exact blk4_2 w.drew _ _ _ _ _
     · rw [← nRow_zero]; first | exact blk4_0 w.drew _ _ _ _ _ | exact blk4_1 w.drew _ _ _ _ _ | exact blk4_2 w.drew _ _ _ _ _
     all_goals omega
   case round =>
     obtain ⟨yb, nb, ab, ys, ns, ps, hyb, hnb, hab, hL, hbw, hrl⟩ := hrel
     have hbz := hbw.size
     go_wp2_with fail
     refine (place_any w A n c _ yb nb ab g ys ns ps _ HA.out HG.out hbw hL hyb hnb hab).mono ?_
     rintro e w2 ⟨ok, ps2, rfl, hL2, hst2, hok, hb2⟩
     cases ok
     case' false =>
       have hne : ¬ (nextY g ys ns = ys ∧ nextN g ys ns = ns) := fun e => by have := hok.2 e; cases this
       have HNE := Lib.hid hne; have HL2 := Lib.hid hL2; have HL1 := Lib.hid (layNear_of hL); have HR := Lib.hid hrl
       clear hok hne hL2 hL hrl
       go_wp2
       refine ⟨⟨yb, nb, ab, _, _, ps2, hyb, hnb, hab, HL2.out, hb2, fun a b h => HR.out a b (.more HNE.out h)⟩, ?_⟩
       rw [HL1.out, layNear_of HL2.out]
       have h1 := stepF_near (farY g ys ns) ys g.length
       have h2 := stepF_near (farN g ys ns) ns g.length
       unfold nextY nextN
       rcases Decidable.em (stepF (farY g ys ns) ys g.length = ys) with e1 | e1
       · have := h2.2 (fun e2 => HNE.out ⟨e1, e2⟩)
         omega
       · have := h1.2 e1
         omega
     case' true =>
       obtain ⟨e1, e2⟩ := hok.1 rfl
       rw [e1, e2] at hL2
       have HLR := Lib.hid (hrl _ _ (.done ⟨e1, e2⟩)); have HL := Lib.hid hL2; have HST := Lib.hid hst2
       have hz2 := hb2.size
       clear hok e1 e2 hL2 hL hrl hst2 hbw hbz
       have O0 : (w2.alloc (.cells #[] 63)).ownsRow w2.heap.size 63 4 (.slice (some ⟨w2.heap.size, 0, none⟩) 0 0) 0 (insR []).flatten := World.ownsRow_lit (base := w2.heap.size) (e := 63) (size := 4) w2 #[] 0 (Nat.le_refl _) (by unfold maxLen; omega) rfl
       have HO := Lib.hid O0
       clear O0
       go_wp2
       go_loopw [4, 5] (fun o i wr => ∃ (m : Nat) (z : Int), m ≤ n ∧ z + 1 + m = n ∧ i = .int .i64 z ∧ wr.ownsRow w2.heap.size 63 4 o (codeTo g ys ns m).length (insR (codeTo g ys ns m)).flatten ∧ Below w2.heap.size w2 wr) (fun _ i _ => (intOf i + 1).toNat)
       case atStart => exact ⟨0, (n : Int) - 1, Nat.zero_le _, by omega, by go_num, HO.out, by go_grown⟩
       case round =>
         obtain ⟨m, z, hm', hzm, rfl, hown, hbr⟩ := hrel
         have hrz := hbr.size
         by_cases hge : 0 ≤ z
         · obtain ⟨k, rfl⟩ : ∃ k : Nat, z = k := ⟨z.toNat, by omega⟩
           have hk : k < n := by omega
           have hkg : g.length - 1 - m = k := by rw [HN.out]; omega
           have hpos : 0 < (ptCode g ys ns k).length := ptCode_pos (by rw [HN.out]; exact hk)
           have hp5 := ptCode_len g ys ns k
           have hc5 := codeTo_len g ys ns m
           have HCT := Lib.hid (show codeTo g ys ns (m + 1) = codeTo g ys ns m ++ ptCode g ys ns k by rw [← hkg]; rfl)
           have hSA := (HA.out.below (hb2.trans (hbr.mono hz2)))
           have hLr := HL.out.below hbr
           have HOW := Lib.hid hown
           clear hown
           generalize hXS : codeTo g ys ns m = XS at *
           generalize hYS : ptCode g ys ns k = YS at *
           obtain ⟨i0, hi0, hz0, hz1, hz2'⟩ := info_parts info_Ins
           go_wp2_with fail
           refine (l5Point_any A n c _ yb nb ab k g ys ns ps2 _ (by exact hSA) HG.out hLr HST.out (by exact hk)).mono ?_
           rintro e w3 ⟨v3, rfl, hP, hb3⟩
           rw [hYS] at hP
           obtain ⟨q3, c3, rfl, hq1, hq2⟩ := hP.form hpos
           have hO3 := own_below HOW.out hb3
           have hz3 := hb3.size
           go_wp2_with (at_builtin; go_must (refine wpList_append_own _ rfl (.tmp 29) (.tmp 33) _ rfl w2.heap.size 63 i0 _ 4 32 Tryz.underlying38 hi0 hz0 hz1 hz2' rfl (by omega) _ XS.length _ rfl hO3 ⟨q3, 0, none⟩ YS.length c3 (insR YS).flatten rfl hP.1 (hP.cells rfl) (ins_one _) (by unfold maxLen; omega) (by omega) (by omega) ?_); intro v7 w7 hown7 hg7 _)
           refine ⟨⟨m + 1, (k : Int) - 1, by omega, by omega, by go_num, ?_, ?_⟩, by simp [intOf]⟩
           · rw [HCT.out]
             exact own_eq hown7 (by simp) (by simp [insR])
           · exact (hbr.trans (hb3.mono hrz)).grown hg7 (by omega) (fun k hk => (hO3.lt k hk).1)
         · obtain rfl : m = n := by omega
           have HO2 := Lib.hid hown
           clear hown
           go_wp2
           go_ret
           exact ⟨_, rfl, codeTo g ys ns m, ⟨ys, ns, by rw [HN.out]; exact HLR.out, by rw [HN.out]⟩, own_base HO2.out hz2, hb2.trans (hbr.mono hz2)⟩
end Go.Proofs.YtdjgicapbpoigaaGreatDoor

namespace Go.Proofs.YtdjgicapbpoigaaGreatDoor
open Go.RowKit
set_option linter.unusedSimpArgs false
set_option linter.unusedVariables false

theorem MakeIs.len {g : List Pt} {x : List In4} {ok : Bool} (h : MakeIs g x ok) : x.length ≤ 600 := by
 rcases h with ⟨_, rfl, _⟩ | ⟨hg, y, hy, ⟨_, rfl, _⟩ | ⟨_, rfl, _⟩⟩
 · simp
 · have := hy.len
   have := hg.1.2
   omega
 · simp

set_option maxHeartbeats 2000000 in
theorem sMakeOf_any (v : Value) (g : List Pt) (w : World) (hs : Sl w 7 v (g.map Pt.cells)) :
   Calls Tryz.prog 37 #[v] w fun e w' => ∃ (v' : Value) (x : List In4) (ok : Bool), e = .returned (.tuple #[v', .bool ok]) ∧ MakeIs g x ok ∧ w'.ownsRow w.heap.size 63 4 v' x.length (insR x).flatten ∧ Below w.heap.size w w' := by
 have HS := Lib.hid hs
 obtain ⟨A, n, c, rfl, hA⟩ := hs
 have HA := Lib.hid hA; clear hA
 cases hg : graphOkB g with
 | false =>
   have HG := Lib.hid (show ¬ graphOk g from fun h => by rw [graphOkB_iff.2 h] at hg; cases hg); have HG2 := Lib.hid hg; clear hg
   go_enter Tryz.func37, Tryz.ntmps37
   go_wp2_with fail
   refine (sGraphOk_any _ g _ HS.out).mono ?_; rintro e w1 ⟨rfl, hb1⟩
   rw [HG2.out]
   have hz1 := hb1.size
   go_wp2
   go_ret2
   exact ⟨_, [], false, rfl, .inl ⟨HG.out, rfl, rfl⟩, World.ownsRow_lit (base := w.heap.size) (e := 63) (size := 4) w1 #[] 0 hz1 (by unfold maxLen; omega) rfl, hb1.alloc hz1 _⟩
 | true =>
   have HG := Lib.hid (graphOkB_iff.1 hg); have HG2 := Lib.hid hg; clear hg
   go_enter Tryz.func37, Tryz.ntmps37
   go_wp2_with fail
   refine (sGraphOk_any _ g _ HS.out).mono ?_; rintro e w1 ⟨rfl, hb1⟩
   rw [HG2.out]
   have hz1 := hb1.size
   go_wp2_with fail
   refine (l5Make_any A n c g _ (HA.out.below hb1) HG.out).mono ?_; rintro e w2 ⟨v2, x, rfl, hx, ho2, hb2⟩
   have hb12 := below_then hb1 hb2
   have ho3 := own_base ho2 hz1
   have hsl := SlA.of_own ho2 (insR_len x) (insR_rows x)
   have hz2 := hb12.size
   cases hc : codeOkB x with
   | false =>
     have HC := Lib.hid (show ¬ codeOk x from fun h => by rw [codeOkB_iff.2 h] at hc; cases hc); have HC2 := Lib.hid hc; clear hc
     have HX := Lib.hid hx; clear hx ho2 ho3
     go_wp2_with fail
     refine (sCodeOk_any _ x _ hsl).mono ?_; rintro e w3 ⟨rfl, hb3⟩
     rw [HC2.out]
     have hb13 := below_then hb12 hb3
     have hz3 := hb13.size
     go_wp2
     go_ret2
     exact ⟨_, [], false, rfl, .inr ⟨HG.out, x, HX.out, .inr ⟨HC.out, rfl, rfl⟩⟩, World.ownsRow_lit (base := w.heap.size) (e := 63) (size := 4) w3 #[] 0 hz3 (by unfold maxLen; omega) rfl, hb13.alloc hz3 _⟩
   | true =>
     have HC := Lib.hid (codeOkB_iff.1 hc); have HC2 := Lib.hid hc; clear hc
     have HX := Lib.hid hx; have HO := Lib.hid ho3; clear hx ho2 ho3
     go_wp2_with fail
     refine (sCodeOk_any _ x _ hsl).mono ?_; rintro e w3 ⟨rfl, hb3⟩
     rw [HC2.out]
     have hb13 := below_then hb12 hb3
     have hO4 := own_below HO.out hb3
     clear hb3
     have HO4 := Lib.hid hO4; clear hO4
     go_wp2
     go_ret2
     exact ⟨_, x, true, rfl, .inr ⟨HG.out, x, HX.out, .inl ⟨HC.out, rfl, rfl⟩⟩, HO4.out, hb13⟩

end Go.Proofs.YtdjgicapbpoigaaGreatDoor

namespace Go.Proofs.YtdjgicapbpoigaaGreatDoor
open Go.RowKit
set_option linter.unusedSimpArgs false
set_option linter.unusedVariables false

theorem codeTo_len' {g : List Pt} {ys ns : List Bool} {m n : Nat} (hn : n ≤ 120) (hm : m ≤ n) : (codeTo g ys ns m).length ≤ 1000 := by
 have := codeTo_len g ys ns m; omega

set_option maxRecDepth 100000 in
set_option maxHeartbeats 4000000 in
theorem MakeOf_any (v : Value) (g : List Pt) (w : World) (hs : Sl w 7 v (g.map Pt.cells)) (hp : Pow w) :
   Calls Tryz.prog 46 #[v] w fun e w' => ∃ (v' : Value) (x : List In4) (ok : Bool), e = .returned (.tuple #[v', .bool ok]) ∧ MakeIs g x ok ∧ w'.ownsRow w.heap.size 63 4 v' x.length (insR x).flatten ∧ Below w.heap.size w w' := by
 have HS := Lib.hid hs
 obtain ⟨A, n, c, rfl, hA⟩ := hs
 have hl : g.length = n := by have := hA.len; simpa using this
 have HA := Lib.hid hA; have HN := Lib.hid hl; clear hA hl
 cases hg : graphOkB g with
 | false =>
   have HG := Lib.hid (show ¬ graphOk g from fun h => by rw [graphOkB_iff.2 h] at hg; cases hg); have HG2 := Lib.hid hg; clear hg
   go_enter Tryz.func46, Tryz.ntmps46
   go_wp2_with fail
   refine (GraphOk_any _ g _ HS.out).mono ?_; rintro e w1 ⟨rfl, hb1⟩
   rw [HG2.out]
   go_wp2
   go_ret2
   exact ⟨_, [], false, rfl, .inl ⟨HG.out, rfl, rfl⟩, World.ownsRow_nil _ _ _ _, hb1⟩
 | true =>
   have hgo := graphOkB_iff.1 hg
   have hn120 : n ≤ 120 := by rw [← HN.out]; exact hgo.1.2
   have HG := Lib.hid hgo; have HG2 := Lib.hid hg; clear hg hgo
   go_enter Tryz.func46, Tryz.ntmps46
   go_wp2_with fail
   refine (GraphOk_any _ g _ HS.out).mono ?_; rintro e w1 ⟨rfl, hb1⟩
   rw [HG2.out]
   have hz1 := hb1.size
   go_wp2_with fail
   refine (blocksOf_any A n c g _ (HA.out.below hb1) HG.out).mono ?_; rintro e w2 ⟨hs, rfl, hsl, hR, hB, hb2⟩
   have hb12 := below_then hb1 hb2
   have HSL := Lib.hid hsl
   have HR := Lib.hid hR; have HB := Lib.hid hB; clear hR hB hsl
   go_wp2_with fail
   refine (lay_any _ n _ g hs _ _ _ _ HR.out HB.out HSL.out HN.out HG.out).mono ?_; rintro e w3 ⟨ss, ys, ns, rfl, hR3, hB3, hst, hlr, hb3⟩
   have hb13 := hb12.trans (hb3.mono (by omega))
   have hz3 := hb13.size
   have hlow : ∀ h ∈ hs, h < w3.heap.size := hB3.lt (by rw [HSL.out, HN.out]; exact Nat.le_refl _)
   have HR3 := Lib.hid hR3; have HB3 := Lib.hid hB3; have HST := Lib.hid hst; have HLR := Lib.hid hlr; have HLOW := Lib.hid hlow
   have hRlt := hR3.lt
   clear hR3 hB3 hst hlr hlow HR HB
   go_wp2
   go_loopw [5, 6] (fun o i wr => ∃ (m : Nat) (z : Int), m ≤ n ∧ z + 1 + m = n ∧ i = .int .i64 z ∧ wr.ownsRow w3.heap.size 63 4 o (codeTo g ys ns m).length (insR (codeTo g ys ns m)).flatten ∧ Below w3.heap.size w3 wr) (fun _ i _ => (intOf i + 1).toNat)
   case atStart => exact ⟨0, (n : Int) - 1, Nat.zero_le _, by omega, by go_num, World.ownsRow_nil _ _ _ _, Below.refl _ _⟩
   case round =>
     obtain ⟨m, z, hm', hzm, rfl, hown, hbr⟩ := hrel
     have hrz := hbr.size
     by_cases hge : 0 ≤ z
     · obtain ⟨k, rfl⟩ : ∃ k : Nat, z = k := ⟨z.toNat, by omega⟩
       have hk : k < n := by omega
       have hki : (k : Int) < n := by omega
       have hkg : g.length - 1 - m = k := by rw [HN.out]; omega
       obtain ⟨x, hx⟩ : ∃ x, hs[k]? = some x := ⟨_, List.getElem?_eq_getElem (by rw [HSL.out]; omega)⟩
       have d0 := pRow_cell (HR3.out.below hbr hRlt) hx
       have HW := Lib.hid (write_any x k n _ w3.heap.size g hs ss ys ns _ (codeTo g ys ns m) _ (HB3.out.next (by rw [HSL.out, HN.out]; exact Nat.le_refl _) hbr) hx HSL.out HN.out HG.out HST.out HLOW.out hrz hown (codeTo_len' hn120 hm'))
       have HCT := Lib.hid (show codeTo g ys ns (m + 1) = codeTo g ys ns m ++ ptCode g ys ns k by rw [← hkg]; rfl)
       clear hown hx
       go_wp2_with fail
       refine HW.out.mono ?_; rintro e w4 ⟨v4, rfl, ho4, hb4⟩
       have HO4 := Lib.hid ho4; clear ho4
       go_wp2
       refine ⟨⟨m + 1, (k : Int) - 1, by omega, by omega, by go_num, by rw [HCT.out]; exact HO4.out, hbr.trans hb4⟩, by simp [intOf]⟩
     · obtain rfl : m = n := by omega
       have hmade : MadeOf g (codeTo g ys ns m) := ⟨ys, ns, by rw [HN.out]; exact HLR.out, by rw [HN.out]⟩
       have hx160 : (codeTo g ys ns m).length ≤ 1000 := codeTo_len' hn120 (Nat.le_refl _)
       have hbw := hb13.trans (hbr.mono hz3)
       have hzw := hbw.size
       have HSx := Lib.hid (SlA.of_own hown (insR_len _) (insR_rows _)); have HO := Lib.hid (own_base hown hz3); have HM := Lib.hid hmade
       clear hown hmade
       generalize codeTo g ys ns m = X at *
       cases hc : codeOkB X with
       | false =>
         have HC := Lib.hid (show ¬ codeOk X from fun h => by rw [codeOkB_iff.2 h] at hc; cases hc); have HC2 := Lib.hid hc; clear hc
         go_wp2_with fail
         refine (CodeOk_any _ X _ HSx.out (hp.below hbw)).mono ?_; rintro e w5 ⟨rfl, hb5⟩
         rw [HC2.out]
         go_wp2
         go_ret2
         exact ⟨_, [], false, rfl, .inr ⟨HG.out, X, HM.out, .inr ⟨HC.out, rfl, rfl⟩⟩, World.ownsRow_nil _ _ _ _, below_then hbw hb5⟩
       | true =>
         have HC := Lib.hid (codeOkB_iff.1 hc); have HC2 := Lib.hid hc; clear hc
         go_wp2_with fail
         refine (CodeOk_any _ X _ HSx.out (hp.below hbw)).mono ?_; rintro e w5 ⟨rfl, hb5⟩
         rw [HC2.out]
         have HO5 := Lib.hid (own_below HO.out hb5)
         have hbe := below_then hbw hb5
         clear hb5
         go_wp2
         go_ret2
         exact ⟨_, X, true, rfl, .inr ⟨HG.out, X, HM.out, .inl ⟨HC.out, rfl, rfl⟩⟩, HO5.out, hbe⟩
end Go.Proofs.YtdjgicapbpoigaaGreatDoor

namespace Go.Proofs.YtdjgicapbpoigaaGreatDoor
open Go.RowKit Go.Maps
set_option linter.unusedSimpArgs false
set_option linter.unusedVariables false

def CodeOfP (p : Pol) (x : List In4) (ok : Bool) : Prop := ∃ g, GraphIs p g ∧ MakeIs g x ok
theorem CodeOfP.one {p : Pol} {x y : List In4} {a b : Bool} (h : CodeOfP p x a) (k : CodeOfP p y b) : x = y ∧ a = b := by
 obtain ⟨g, h1, h2⟩ := h
 obtain ⟨g', k1, k2⟩ := k
 obtain rfl := h1.one k1
 exact h2.one k2

set_option maxHeartbeats 2000000 in
theorem iMakeCode_any (p : Pol) (v : Value) (w : World) (hP : PolIs w p v) (hp : Pow w) :
   Calls Tryz.prog 22 #[v] w fun e w' => ∃ (v' : Value) (x : List In4) (ok : Bool) (b : Nat), e = .returned (.tuple #[v', .bool ok]) ∧ CodeOfP p x ok ∧ w.heap.size ≤ b ∧ w'.ownsRow b 63 4 v' x.length (insR x).flatten ∧ Below w.heap.size w w' := by
 have HP := Lib.hid hP
 obtain ⟨rv, css, rfl, ⟨A, n, c, rfl, hSA⟩, hR⟩ := hP
 have hb0 : Below w.heap.size w (w.alloc (.cells #[.slice A n c, .int .i64 p.els] 35)) := by go_grown
 have hp0 := hp.below hb0
 clear hSA hR
 go_enter Tryz.func22, Tryz.ntmps22
 go_wp2_with fail
 refine (iGraphMake_any p _ _ (HP.out.below hb0) hp0).mono ?_; rintro e w1 ⟨v1, g, rfl, hs1, hg1, -, -, hb1⟩
 have hb01 := below_then hb0 hb1
 have HG := Lib.hid hg1; clear hg1
 go_wp2_with fail
 refine (MakeOf_any v1 g _ hs1 (hp.below hb01)).mono ?_; rintro e w2 ⟨v2, x, ok, rfl, hmk, ho, hb2⟩
 have HM := Lib.hid hmk; have HO := Lib.hid ho; clear hmk ho hs1
 have hz := hb01.size
 have hb02 := below_then hb01 hb2
 go_wp2
 go_ret2
 exact ⟨v2, x, ok, w1.heap.size, rfl, ⟨g, HG.out, HM.out⟩, hz, HO.out, hb02⟩

set_option maxHeartbeats 2000000 in
theorem gMakeCode_any (p : Pol) (v : Value) (w : World) (hP : PolIs w p v) :
   Calls Tryz.prog 19 #[v] w fun e w' => ∃ (v' : Value) (x : List In4) (ok : Bool) (b : Nat), e = .returned (.tuple #[v', .bool ok]) ∧ CodeOfP p x ok ∧ w.heap.size ≤ b ∧ w'.ownsRow b 63 4 v' x.length (insR x).flatten ∧ Below w.heap.size w w' := by
 have HP := Lib.hid hP
 obtain ⟨rv, css, rfl, ⟨A, n, c, rfl, hSA⟩, hR⟩ := hP
 have hb0 : Below w.heap.size w (w.alloc (.cells #[.slice A n c, .int .i64 p.els] 35)) := by go_grown
 clear hSA hR
 go_enter Tryz.func19, Tryz.ntmps19
 go_wp2_with fail
 refine (sGraphMake_any p _ _ (HP.out.below hb0)).mono ?_; rintro e w1 ⟨v1, g, rfl, hs1, hg1, -, -, hb1⟩
 have hb01 := below_then hb0 hb1
 have HG := Lib.hid hg1; clear hg1
 go_wp2_with fail
 refine (sMakeOf_any v1 g _ hs1).mono ?_; rintro e w2 ⟨v2, x, ok, rfl, hmk, ho, hb2⟩
 have HM := Lib.hid hmk; have HO := Lib.hid ho; clear hmk ho hs1
 have hz := hb01.size
 have hb02 := below_then hb01 hb2
 go_wp2
 go_ret2
 exact ⟨v2, x, ok, w1.heap.size, rfl, ⟨g, HG.out, HM.out⟩, hz, HO.out, hb02⟩
end Go.Proofs.YtdjgicapbpoigaaGreatDoor
