/- Joined texts: Base Grown GrownRow AppRow PolT BRow Open. -/
import Derived.Test.YtkiacbfpnidjlaaGreatDoorRows
import Derived.WalkKit
import Derived.WalkSpells
import Derived.WalkLawsBesides
import Derived.Deep.QuietTactic
import Derived.BigQuiet
import Derived.Handy
import Derived.Lib.Hide
import Derived.Lib.QuietBelow
import Derived.Laws.OwnMore
import Derived.Deep.AppendLies
import Derived.Deep.Draws
import Derived.Maps.Range
import Derived.Maps.AppendAt
import Derived.Laws.AppendOwnNone
import Derived.BigRegion
import Derived.Deep.OwnRows
import Derived.ProofKit
import Derived.Deep.Slices
import Derived.Deep.Fields
-- Words for memory that all walks of this seat share: slices that read as lists, blocks known whole, frames; no Go function is walked here.
namespace Go.Proofs.YtkiacbfpnidjlaaGreatDoor
open Go.RowKit
set_option linter.unusedSimpArgs false
set_option linter.unusedVariables false

theorem add_block (a : Addr) (n : Nat) : (a.add n).block = a.block := by unfold Addr.add; split <;> rfl
theorem add_add' (a : Addr) (i j : Nat) : (a.add i).add j = a.add (i + j) := by
  unfold Addr.add
  by_cases hi : i = 0 <;> by_cases hj : j = 0 <;> simp [hi, hj, Nat.add_assoc]
theorem add_zero' (a : Addr) : a.add 0 = a := by simp [Addr.add]
theorem add_at (g j : Nat) : (⟨g, 0, none⟩ : Addr).add j = ⟨g, j, none⟩ := by unfold Addr.add; split <;> simp_all

/-- From a place on lie the elements of a list, each of so many cells. -/
def Elems (w : World) (b off size : Nat) (cs : List (List Value)) : Prop :=
  ∀ (k : Nat) (r : List Value), cs[k]? = some r → ∀ (j : Nat) (v : Value), r[j]? = some v → w.cell? ⟨b, off + k * size + j, none⟩ = some v

/-- A slice that reads as a list of elements. -/
structure SlA (w : World) (size : Nat) (A : Option Addr) (n c : Nat) (cs : List (List Value)) : Prop where
  len : cs.length = n
  cap : n ≤ c
  max : c ≤ maxLen
  at_ : 0 < n → ∃ b off, A = some ⟨b, off, none⟩ ∧ b < w.heap.size ∧ Elems w b off size cs

def Sl (w : World) (size : Nat) (v : Value) (cs : List (List Value)) : Prop := ∃ A n c, v = .slice A n c ∧ SlA w size A n c cs

theorem cells_below {w w' : World} (hb : Below w.heap.size w w') {p : Addr} (hp : p.block < w.heap.size) : w'.cell? p = w.cell? p := hb.cell hp

theorem Elems.below {w w' : World} {b off size : Nat} {cs : List (List Value)} (h : Elems w b off size cs) {B : Nat} (hb : Below B w w') (ha : b < B) : Elems w' b off size cs :=
  fun k r hr j v hv => (hb.cell (p := ⟨b, _, none⟩) ha).trans (h k r hr j v hv)

theorem SlA.below {w w' : World} {size : Nat} {A : Option Addr} {n c : Nat} {cs : List (List Value)} (h : SlA w size A n c cs) (hb : Below w.heap.size w w') : SlA w' size A n c cs :=
  ⟨h.len, h.cap, h.max, fun hn => let ⟨a, o, e, hl, he⟩ := h.at_ hn; ⟨a, o, e, Nat.lt_of_lt_of_le hl hb.size, he.below hb hl⟩⟩
theorem Sl.below {w w' : World} {size : Nat} {v : Value} {cs : List (List Value)} (h : Sl w size v cs) (hb : Below w.heap.size w w') : Sl w' size v cs :=
  let ⟨A, n, c, e, hs⟩ := h; ⟨A, n, c, e, hs.below hb⟩

theorem SlA.get {w : World} {size : Nat} {A : Option Addr} {n c : Nat} {cs : List (List Value)} (h : SlA w size A n c cs) {k : Nat} (hk : k < n) :
    ∃ b off, A = some ⟨b, off, none⟩ ∧ b < w.heap.size ∧ ∀ r, cs[k]? = some r → ∀ (j : Nat) (v : Value), r[j]? = some v → w.cell? ⟨b, off + k * size + j, none⟩ = some v := by
  obtain ⟨b, off, e, hl, he⟩ := h.at_ (by omega)
  exact ⟨b, off, e, hl, fun r hr j v hv => he k r hr j v hv⟩

theorem SlA.nil {w : World} {size : Nat} : SlA w size none 0 0 [] := ⟨rfl, Nat.le_refl _, Nat.zero_le _, fun h => absurd h (by omega)⟩
theorem Sl.nil {w : World} {size : Nat} : Sl w size (.slice none 0 0) [] := ⟨_, _, _, rfl, SlA.nil⟩

/-- A slice over a block of the call's own, from its head on. -/
theorem SlA.of_block {w : World} {g : Nat} {t : TypeId} {cur : Array Value} {fr : Nat × Nat} {size n c : Nat} {cs : List (List Value)} (hg : w.heap[g]? = some (.cells cur t fr)) (hl : cs.length = n) (hc : n ≤ c) (hm : c ≤ maxLen)
    (h : ∀ (k : Nat) (r : List Value), cs[k]? = some r → ∀ (j : Nat) (v : Value), r[j]? = some v → cur[k * size + j]? = some v) : SlA w size (some ⟨g, 0, none⟩) n c cs :=
  ⟨hl, hc, hm, fun _ => ⟨_, _, rfl, (Array.getElem?_eq_some_iff.1 hg).1, fun k r hr j v hv => by
    rw [cell_of_row w g _ cur t fr hg, Nat.zero_add]; exact h k r hr j v hv⟩⟩

theorem flat_get {size : Nat} : ∀ (cs : List (List Value)), (∀ r ∈ cs, r.length = size) → ∀ (k : Nat) (r : List Value), cs[k]? = some r → ∀ (j : Nat) (v : Value), r[j]? = some v → cs.flatten[k * size + j]? = some v
  | [], _, k, r, h, _, _, _ => by simp at h
  | x :: cs, hs, 0, r, h, j, v, hv => by
    simp at h; subst h
    have hj : j < x.length := (List.getElem?_eq_some_iff.1 hv).1
    rw [List.flatten_cons, Nat.zero_mul, Nat.zero_add, List.getElem?_append_left hj]
    exact hv
  | x :: cs, hs, k + 1, r, h, j, v, hv => by
    have hx : x.length = size := hs x (by simp)
    have := flat_get cs (fun r hr => hs r (by simp [hr])) k r (by simpa using h) j v hv
    rw [List.flatten_cons, List.getElem?_append_right (by rw [hx, Nat.succ_mul]; omega), hx]
    rw [show (k + 1) * size + j - size = k * size + j from by rw [Nat.succ_mul]; omega]
    exact this

theorem flat_len {size : Nat} (cs : List (List Value)) (hs : ∀ r ∈ cs, r.length = size) : cs.flatten.length = cs.length * size := by
  induction cs with
  | nil => simp
  | cons x cs ih => rw [List.flatten_cons, List.length_append, ih (fun r hr => hs r (by simp [hr])), hs x (by simp), List.length_cons, Nat.succ_mul]; omega

/-- A row that the call owns reads as a list. -/
theorem SlA.of_own {w : World} {base : Nat} {e : TypeId} {size n : Nat} {v : Value} {cs : List (List Value)} (h : w.ownsRow base e size v n cs.flatten) (hl : cs.length = n) (hs : ∀ r ∈ cs, r.length = size) : Sl w size v cs := by
  rcases h.2 with ⟨rfl, h0⟩ | ⟨g, cap, cur, rfl, _, hg, hnc, hm, _, htake⟩
  · subst h0
    have : cs = [] := List.eq_nil_of_length_eq_zero hl
    subst this
    exact Sl.nil
  · refine ⟨_, _, _, rfl, SlA.of_block hg hl hnc hm fun k r hr j u hu => ?_⟩
    have h1 := flat_get cs hs k r hr j u hu
    rw [← htake, List.getElem?_take] at h1
    split at h1
    · simpa using h1
    · cases h1

theorem own_below {w w' : World} {base : Nat} {e : TypeId} {size n : Nat} {v : Value} {xs : List Value} (h : w.ownsRow base e size v n xs) (hb : Below w.heap.size w w') : w'.ownsRow base e size v n xs := by
  refine ⟨h.1, ?_⟩
  rcases h.2 with hn | ⟨g, cap, cur, rfl, hge, hg, rest⟩
  · exact .inl hn
  · exact .inr ⟨g, cap, cur, rfl, hge, by rw [hb.block g (Array.getElem?_eq_some_iff.1 hg).1]; exact hg, rest⟩
theorem own_base {w : World} {base base' : Nat} {e : TypeId} {size n : Nat} {v : Value} {xs : List Value} (h : w.ownsRow base e size v n xs) (hb : base' ≤ base) : w.ownsRow base' e size v n xs := by
  refine ⟨h.1, ?_⟩
  rcases h.2 with hn | ⟨g, cap, cur, rfl, hge, rest⟩
  · exact .inl hn
  · exact .inr ⟨g, cap, cur, rfl, Nat.le_trans hb hge, rest⟩

/-- Below, step by step. -/
theorem below_step {B : Nat} {a w w' : World} (h : Below B a w) (hB : B ≤ w.heap.size) (hb : Below w.heap.size w w') : Below B a w' := h.trans (hb.mono hB)
theorem below_then {a w w' : World} (h : Below a.heap.size a w) (hb : Below w.heap.size w w') : Below a.heap.size a w' := h.trans (hb.mono h.size)

/-- A block that is known whole. -/
def Blk (w : World) (g : Nat) (t : TypeId) (cs : Array Value) : Prop := w.heap[g]? = some (.cells cs t (0, 0))
section
variable {w w' : World} {g : Nat} {t : TypeId} {cs : Array Value}
theorem Blk.lt (h : Blk w g t cs) : g < w.heap.size := (Array.getElem?_eq_some_iff.1 h).1
theorem Blk.cell (h : Blk w g t cs) (i : Nat) : w.cell? ⟨g, i, none⟩ = cs[i]? := cell_of_row w g i cs t (0, 0) h
theorem Blk.frozen (h : Blk w g t cs) (i : Nat) : w.frozen? ⟨g, i, none⟩ = false := by unfold Blk at h; simp [World.frozen?, h]
theorem Blk.some_ (h : Blk w g t cs) {i : Nat} (hi : i < cs.size) : ∃ v, w.cell? ⟨g, i, none⟩ = some v := ⟨cs[i], (h.cell i).trans (Array.getElem?_eq_getElem hi)⟩
theorem Blk.new (w : World) (t : TypeId) (cs : Array Value) : Blk (w.alloc (.cells cs t)) w.heap.size t cs := heap_alloc_new w _
theorem Blk.drew (h : Blk w g t cs) : Blk w.drew g t cs := h
theorem Blk.drewN (h : Blk w g t cs) (n : Nat) : Blk (w.drewN n) g t cs := h
theorem Blk.alloc (h : Blk w g t cs) (o : Obj) : Blk (w.alloc o) g t cs := (Below.heap_alloc w o g h.lt).trans h
theorem Blk.set_ (h : Blk w g t cs) (i : Nat) (u : Value) : Blk (w.setCell ⟨g, i, none⟩ u) g t (cs.setIfInBounds i u) := by
  unfold Blk at h ⊢
  simp [World.setCell, Array.getElem?_modify, h]
theorem Blk.far (h : Blk w g t cs) {p : Addr} (hp : g ≠ p.block) (u : Value) : Blk (w.setCell p u) g t cs := (Below.heap_setCell w p u g hp).trans h
theorem Blk.below {B : Nat} (h : Blk w g t cs) (hb : Below B w w') (hg : g < B) : Blk w' g t cs := (hb.block g hg).trans h
end

theorem info_int : (Tryz.prog.info? 3).map (fun i => (i.zero, i.size, i.bytes)) = some (some (.int .i64 0), 1, 8) := by kernel_rfl

/-- The cells of ints. -/
def ints (xs : List Int) : List (List Value) := xs.map fun x => [.int .i64 x]
theorem ints_rows (xs : List Int) : ∀ r ∈ ints xs, r.length = 1 := by simp [ints]
theorem ints_len (xs : List Int) : (ints xs).length = xs.length := by simp [ints]
theorem ints_flat (xs : List Int) : (ints xs).flatten = xs.map (Value.int .i64) := by
  induction xs with
  | nil => rfl
  | cons x xs ih => simp [ints] at ih ⊢; exact ih

/-- A row of which the first k elements are laid. -/
def FilledTo (cur : Array Value) (size : Nat) (cs : List (List Value)) (k : Nat) : Prop :=
  ∀ (j : Nat) (r : List Value), j < k → cs[j]? = some r → ∀ (i : Nat) (v : Value), r[i]? = some v → cur[j * size + i]? = some v
theorem FilledTo.zero (cur : Array Value) (size : Nat) (cs : List (List Value)) : FilledTo cur size cs 0 := fun _ _ h => absurd h (by omega)

/-- Some stores, one cell behind the other. -/
def setRun (w : World) (g : Nat) (o : Nat) : List Value → World
  | [] => w
  | v :: vs => setRun (w.setCell ⟨g, o, none⟩ v) g (o + 1) vs
def setArr (cur : Array Value) (o : Nat) : List Value → Array Value
  | [] => cur
  | v :: vs => setArr (cur.setIfInBounds o v) (o + 1) vs
theorem setArr_size : ∀ (vs : List Value) (cur : Array Value) (o : Nat), (setArr cur o vs).size = cur.size
  | [], _, _ => rfl
  | v :: vs, cur, o => by rw [setArr, setArr_size vs]; simp
theorem setArr_out : ∀ (vs : List Value) (cur : Array Value) (o i : Nat), (i < o ∨ o + vs.length ≤ i) → (setArr cur o vs)[i]? = cur[i]?
  | [], _, _, _, _ => rfl
  | v :: vs, cur, o, i, h => by
    rw [setArr, setArr_out vs _ _ _ (by simp at h; omega), Array.getElem?_setIfInBounds, if_neg (by simp at h; omega)]
theorem setArr_in : ∀ (vs : List Value) (cur : Array Value) (o i : Nat) (v : Value), vs[i]? = some v → o + vs.length ≤ cur.size → (setArr cur o vs)[o + i]? = some v
  | [], _, _, _, _, h, _ => by simp at h
  | u :: vs, cur, o, 0, v, h, hs => by
    simp at h hs; subst h
    rw [setArr, setArr_out vs _ _ _ (by omega), Array.getElem?_setIfInBounds, if_pos (by omega), if_pos (by omega)]
  | u :: vs, cur, o, i + 1, v, h, hs => by
    simp at h hs
    rw [setArr, show o + (i + 1) = o + 1 + i from by omega]
    exact setArr_in vs _ _ i v h (by simp; omega)
theorem Blk.run {g : Nat} {t : TypeId} : ∀ (vs : List Value) (w : World) (cur : Array Value) (o : Nat), Blk w g t cur → Blk (setRun w g o vs) g t (setArr cur o vs)
  | [], _, _, _, h => h
  | v :: vs, w, cur, o, h => Blk.run vs _ _ _ (h.set_ o v)
theorem below_run {B : Nat} {a : World} {g : Nat} (hg : B ≤ g) : ∀ (vs : List Value) (w : World) (o : Nat), Below B a w → Below B a (setRun w g o vs)
  | [], _, _, h => h
  | v :: vs, w, o, h => below_run hg vs _ _ (h.setCell (p := ⟨g, o, none⟩) hg v)
theorem FilledTo.next {cur : Array Value} {size n k : Nat} {cs : List (List Value)} {r : List Value} (h : FilledTo cur size cs k) (hr : cs[k]? = some r) (hrow : ∀ r ∈ cs, r.length = size) (hs : cur.size = n * size) (hk : k < n) : FilledTo (setArr cur (k * size) r) size cs (k + 1) := by
  intro j q hj hq i v hv
  have hl : r.length = size := hrow r (List.mem_of_getElem? hr)
  have hi : i < size := by rw [← hrow q (List.mem_of_getElem? hq)]; exact (List.getElem?_eq_some_iff.1 hv).1
  have hkn : k * size + size ≤ n * size := by have := Nat.mul_le_mul_right size (show k + 1 ≤ n by omega); rw [Nat.succ_mul] at this; exact this
  by_cases e : j = k
  · subst e
    rw [hr] at hq; cases hq
    exact setArr_in r cur _ i v hv (by omega)
  · have hjk : j * size + size ≤ k * size := by have := Nat.mul_le_mul_right size (show j + 1 ≤ k by omega); rw [Nat.succ_mul] at this; exact this
    rw [setArr_out _ _ _ _ ?_]
    · exact h j q (by omega) hq i v hv
    · left; omega

theorem SlA.of_filled {w : World} {g : Nat} {t : TypeId} {cur : Array Value} {size n : Nat} {cs : List (List Value)} (h : Blk w g t cur) (hl : cs.length = n) (hm : n ≤ maxLen) (hf : FilledTo cur size cs n) : SlA w size (some ⟨g, 0, none⟩) n n cs :=
  SlA.of_block h hl (Nat.le_refl _) hm fun k r hr i v hv => hf k r (by have := (List.getElem?_eq_some_iff.1 hr).1; omega) hr i v hv

theorem own_of_filled {w : World} {g : Nat} {t : TypeId} {cur : Array Value} {size n base : Nat} {cs : List (List Value)} (h : Blk w g t cur) (hb : base ≤ g) (hl : cs.length = n) (hrow : ∀ r ∈ cs, r.length = size) (hs : cur.size = n * size) (hm : n ≤ maxLen) (hf : FilledTo cur size cs n) :
    w.ownsRow base t size (.slice (some ⟨g, 0, none⟩) n n) n cs.flatten := by
  have hfl : cs.flatten.length = n * size := by rw [flat_len cs hrow, hl]
  refine ⟨hfl, .inr ⟨g, n, cur, rfl, hb, h, Nat.le_refl _, hm, hs, ?_⟩⟩
  apply List.ext_getElem?
  intro j
  by_cases hj : j < n * size
  · have hz : 0 < size := Nat.pos_of_ne_zero (fun e => by subst e; simp at hj)
    have hk : j / size < n := (Nat.div_lt_iff_lt_mul hz).2 hj
    have hr : cs[j / size]? = some (cs[j / size]'(by omega)) := List.getElem?_eq_getElem (by omega)
    have hrl := hrow _ (List.getElem_mem (l := cs) (n := j / size) (by omega))
    have hi : j % size < (cs[j / size]'(by omega)).length := by rw [hrl]; exact Nat.mod_lt _ hz
    have hv := List.getElem?_eq_getElem hi
    have h1 := flat_get cs hrow _ _ hr _ _ hv
    have h2 := hf _ _ hk hr _ _ hv
    have e : j / size * size + j % size = j := by rw [Nat.mul_comm]; exact Nat.div_add_mod j size
    rw [e] at h1 h2
    rw [h1, List.getElem?_take, if_pos hj]
    simpa using h2
  · rw [List.getElem?_eq_none (by simp; omega), List.getElem?_eq_none (by omega)]

/-- 'make([]T, n)', whatever the size of T. -/
theorem run_make_rowN {P : Program} (t e : TypeId) (z : Value) (size bytes : Nat) (ht : P.underlying t = some (.slice e)) (hinfo : (P.info? e).map (fun i => (i.zero, i.size, i.bytes)) = some (some z, size, bytes))
    (kl : IntKind) (n : Nat) (hbytes : bytes * n ≤ 281474976710656) (h63 : n ≤ 9223372036854775807) (w : World) :
    (Instr.makeSlice t (.int kl (n : Int)) (.int kl (n : Int))).run P w = .ok (.slice (some ⟨w.heap.size, 0, none⟩) n n) (w.alloc (.cells (madeCells z.cells (n * size)) e)) := by
  obtain ⟨i, hi, hzz⟩ := Option.map_eq_some_iff.1 hinfo
  simp only [Prod.mk.injEq] at hzz
  obtain ⟨hz, hs, hb⟩ := hzz
  have hb' : (i.bytes : Int) * (n : Int) ≤ 281474976710656 := by
    have h : ((i.bytes * n : Nat) : Int) ≤ 281474976710656 := by rw [hb]; omega
    rwa [Int.natCast_mul] at h
  have hr := run_make (P := P) w t e i z ht hi hz kl kl n n (by omega) (by omega) hb' (by omega)
  simp only [Int.toNat_natCast, hs] at hr
  exact hr

/-- 'append(out, x)', x one element: onto a row that the call owns. -/
theorem wpList_app1 {P : Program} {w0 : World} {ops : Array Oper} {rest : List Oper} {o : Oper} {a : Act} {Q : Exit → Act → World → Prop} {e2 : TypeId} {r : List Value} (hgd : o.guard = none) (s x : Operand) (t : TypeId)
    (ho : o.op = .call { callee := .builtin .append, args := #[s, x], argTypes := #[t, t] })
    (base : Nat) (e : TypeId) {z : Value} {size bytes : Nat} (ht : P.underlying t = some (.slice e)) (hinfo : (P.info? e).map (fun i => (i.zero, i.size, i.bytes)) = some (some z, size, bytes))
    (hzs : z.cells.size = size) (hsz : 0 < size) (hby : 0 < bytes)
    (v : Value) (n : Nat) (cs : List (List Value)) (hs : a.eval s = v) (hown : w0.ownsRow base e size v n cs.flatten)
    (hr : r.length = size) (h1 : ∀ u ∈ r, u.oneCell' = true) (hx : a.eval x = .slice (some ⟨w0.heap.size, 0, none⟩) 1 1)
    (hn : (n + 1) * bytes ≤ 140737488355328) (hbase : base ≤ w0.heap.size)
    (h : ∀ v' w', w'.ownsRow base e size v' (n + 1) (cs ++ [r]).flatten → Below base w0 w' → v' ≠ .slice none 0 0 → wpList P ops Q rest (a.put o.dst v') w') :
    wpList P ops Q (o :: rest) a (w0.alloc (.cells r.toArray e2)) := by
  obtain ⟨i0, hi0, hz0, hz1, hz2⟩ := info_parts hinfo
  have hn1 : n + 1 ≤ 140737488355328 := Nat.le_trans (Nat.le_mul_of_pos_right _ hby) hn
  refine wpList_append_own _ hgd s x t ho base e i0 z size bytes ht hi0 hz0 hz1 hz2 hzs hsz v n cs.flatten hs (hown.alloc _) ⟨w0.heap.size, 0, none⟩ 1 1 r hx (by omega) (fun j u hu => ?_) h1 (by unfold maxLen; omega) hn
    (by simp; omega) (fun v' w' hown' hg hv => h v' w' (by simpa using hown') ?_ (fun e => by have := (hv.1 e).2; omega))
  · rw [add_at, cell_of_row _ _ _ r.toArray e2 (0, 0) (heap_alloc_new w0 _)]
    simpa using hu
  · exact ((Below.refl base w0).alloc hbase _).grown hg (by simp; omega) (fun k hk => (hown.lt k hk).1)

/-- The same inside a region that draws its order (the draw stands outermost). -/
theorem step_app1 {P : Program} {w0 : World} {ops : Array Oper} {o : Oper} {a : Act} {K : Act → World → Prop} {Q : Exit → Act → World → Prop} {E : Prop} {e2 : TypeId} {r : List Value} (hgd : o.guard = none) (s x : Operand) (t : TypeId)
    (ho : o.op = .call { callee := .builtin .append, args := #[s, x], argTypes := #[t, t] })
    (base : Nat) (e : TypeId) {z : Value} {size bytes : Nat} (ht : P.underlying t = some (.slice e)) (hinfo : (P.info? e).map (fun i => (i.zero, i.size, i.bytes)) = some (some z, size, bytes))
    (hzs : z.cells.size = size) (hsz : 0 < size) (hby : 0 < bytes)
    (v : Value) (n : Nat) (cs : List (List Value)) (hs : a.eval s = v) (hown : w0.ownsRow base e size v n cs.flatten)
    (hr : r.length = size) (h1 : ∀ u ∈ r, u.oneCell' = true) (hx : a.eval x = .slice (some ⟨w0.heap.size, 0, none⟩) 1 1)
    (hn : (n + 1) * bytes ≤ 140737488355328) (hbase : base ≤ w0.heap.size)
    (h : ∀ v' w', w'.ownsRow base e size v' (n + 1) (cs ++ [r]).flatten → Below base w0 w' → v' ≠ .slice none 0 0 → K (a.put o.dst v') w') :
    if Region.wanted o (yielded ops a.tmps) = true then Oper.wp P o a (w0.alloc (.cells r.toArray e2)).drew K Q else E := by
  have hw : Region.wanted o (yielded ops a.tmps) = true := by simp [Region.wanted, hgd]
  rw [if_pos hw]
  obtain ⟨i0, hi0, hz0, hz1, hz2⟩ := info_parts hinfo
  have hn1 : n + 1 ≤ 140737488355328 := Nat.le_trans (Nat.le_mul_of_pos_right _ hby) hn
  refine wp_append_own _ s x t ho base e i0 z size bytes ht hi0 hz0 hz1 hz2 hzs hsz v n cs.flatten hs ((hown.alloc _).drew) ⟨w0.heap.size, 0, none⟩ 1 1 r hx (by omega) (fun j u hu => ?_) h1 (by unfold maxLen; omega) hn
    (by simp; omega) (fun v' w' hown' hg hv => h v' w' (by simpa using hown') ?_ (fun e => by have := (hv.1 e).2; omega))
  · show (w0.alloc (.cells r.toArray e2)).cell? _ = _
    rw [add_at, cell_of_row _ _ _ r.toArray e2 (0, 0) (heap_alloc_new w0 _)]
    simpa using hu
  · exact (((Below.refl base w0).alloc hbase _).drew).grown hg (by simp; omega) (fun k hk => (hown.lt k hk).1)

/-- A region's end, whatever order it took: one frame, up to one address. -/
def RegEnd (f : Nat → Act) (R : Nat → World → Prop) : Exit → Act → World → Prop
  | .normal, a, w => ∃ h, a = f h ∧ R h w
  | _, _, _ => False
theorem region_mid {P : Program} {c : Code} {Q : Exit → Act → World → Prop} {a : Act} {w : World} (f : Nat → Act) (R : Nat → World → Prop) (hr : c.wp P (RegEnd f R) a w) (hq : ∀ h w', R h w' → Q .normal (f h) w') : c.wp P Q a w :=
  Code.wp_mono (fun e a w' hE => by
    cases e with
    | normal => obtain ⟨h, ha, hR⟩ := hE; subst ha; exact hq h w' hR
    | _ => exact hE.elim) hr

theorem ret_int {a b : Int} (h : a = b) : Ending.returned (.int .i64 a) = .returned (.int .i64 b) := by rw [h]
theorem ret_bool {a b : Bool} (h : a = b) : Ending.returned (.bool a) = .returned (.bool b) := by rw [h]

def inB (n lo hi : Int) : Bool := decide (lo ≤ n ∧ n ≤ hi)
theorem inB_iff {n lo hi : Int} : inB n lo hi = true ↔ lo ≤ n ∧ n ≤ hi := by simp [inB]
theorem inB_not {n lo hi : Int} : inB n lo hi = false ↔ ¬ (lo ≤ n ∧ n ≤ hi) := by simp [inB]

theorem l1In_any (n lo hi : Int) (w : World) :
    Calls Tryz.prog 27 #[.int .i64 n, .int .i64 lo, .int .i64 hi] w fun e w' => e = .returned (.bool (inB n lo hi)) ∧ w = w' := by
  go_enter Tryz.func27, Tryz.ntmps27
  go_wp2
  all_goals (go_ret; exact ⟨ret_bool (by simp [inB]; omega), rfl⟩)

/-- A cell of an element, in a world that is as another one below. -/
theorem cellAt {w w' : World} {b o : Nat} {v : Value} {B : Nat} (hb : Below B w w') (ha : b < B) (h : w.cell? ⟨b, o, none⟩ = some v) : w'.cell? ⟨b, o, none⟩ = some v :=
  (hb.cell (p := ⟨b, o, none⟩) ha).trans h
end Go.Proofs.YtkiacbfpnidjlaaGreatDoor

-- Worlds in which one block has turned and others are as they were.
namespace Go.Proofs.YtkiacbfpnidjlaaGreatDoor
open Go.RowKit
set_option linter.unusedSimpArgs false
set_option linter.unusedVariables false

theorem grown_set (w : World) (g i : Nat) (v : Value) : w.grownBy (w.setCell ⟨g, i, none⟩ v) (some g) :=
  ⟨rfl, rfl, rfl, by simp, fun k _ hk => heap_setCell_other w ⟨g, i, none⟩ k v (fun e => hk (by simp [e]))⟩
theorem grown_drew (w : World) (r : Option Nat) : w.grownBy w.drew r := ⟨rfl, rfl, rfl, Nat.le_refl _, fun _ _ _ => rfl⟩
theorem grown_of_below {w w' : World} (h : Below w.heap.size w w') (r : Option Nat) : w.grownBy w' r := ⟨h.os, h.tape, h.output, h.size, fun k hk _ => h.block k hk⟩
theorem grown_then {a w w' : World} {B : Nat} {r : Option Nat} (h : a.grownBy w r) (hb : Below B w w') (hB : a.heap.size ≤ B) : a.grownBy w' r :=
  ⟨hb.os.trans h.os, hb.tape.trans h.tape, hb.output.trans h.output, Nat.le_trans h.size hb.size, fun k hk hr => (hb.block k (Nat.lt_of_lt_of_le hk hB)).trans (h.block k hk hr)⟩
theorem grown_new {a w : World} {g i : Nat} {r : Option Nat} (h : a.grownBy w r) (hg : a.heap.size ≤ g) (v : Value) : a.grownBy (w.setCell ⟨g, i, none⟩ v) r :=
  grown_then h ((Below.refl a.heap.size w).setCell (p := ⟨g, i, none⟩) hg v) (Nat.le_refl _)
theorem below_of_grown {a w : World} {g B : Nat} (h : a.grownBy w (some g)) (hB : B ≤ g) (hg : g < a.heap.size) : Below B a w :=
  ⟨h.os, h.tape, h.output, h.size, fun k hk => h.block k (by omega) (by intro e; cases e; omega)⟩
theorem Blk.grown {w w' : World} {g : Nat} {r : Option Nat} {t : TypeId} {cs : Array Value} (h : Blk w g t cs) (hg : w.grownBy w' r) (hne : some g ≠ r) : Blk w' g t cs := (hg.block g h.lt hne).trans h
theorem SlA.grown {w w' : World} {size g : Nat} {A : Option Addr} {n c : Nat} {cs : List (List Value)} (h : SlA w size A n c cs) (hg : w.grownBy w' (some g)) (hA : ∀ b off, A = some ⟨b, off, none⟩ → b ≠ g) : SlA w' size A n c cs :=
  ⟨h.len, h.cap, h.max, fun hn => let ⟨b, off, e, hl, he⟩ := h.at_ hn
    ⟨b, off, e, Nat.lt_of_lt_of_le hl hg.size, fun k r hr j v hv => hg.cell (he k r hr j v hv) (fun e2 => hA b off e (by cases e2; rfl))⟩⟩
end Go.Proofs.YtkiacbfpnidjlaaGreatDoor

-- Rows that a call owns: an append turns the row's own block alone.
namespace Go.Proofs.YtkiacbfpnidjlaaGreatDoor
open Go.RowKit
set_option linter.unusedSimpArgs false
set_option linter.unusedVariables false

theorem own_ne_blk {w : World} {base b n c m k : Nat} {e t : TypeId} {size : Nat} {xs : List Value} {cs : Array Value} (h : w.ownsRow base e size (.slice (some ⟨b, 0, none⟩) n c) m xs) (hk : Blk w k t cs) (ht : t ≠ e) : b ≠ k := by
  rcases h.2 with ⟨h', _⟩ | ⟨g', cap', cur, h', _, hg, _⟩
  · simp at h'
  · simp only [Value.slice.injEq, Option.some.injEq, Addr.mk.injEq, and_true, true_and] at h'
    obtain ⟨rfl, _⟩ := h'
    intro eb
    subst eb
    have := hg.symm.trans hk
    exact ht (by injection this with h1; injection h1 with h2 h3; exact h3.symm)

/-- 'append(out, x)': only the row's own block has turned, and new ones are there. -/
theorem wpList_app1g {P : Program} {w0 : World} {ops : Array Oper} {rest : List Oper} {o : Oper} {a : Act} {Q : Exit → Act → World → Prop} {e2 : TypeId} {r : List Value} (hgd : o.guard = none) (s x : Operand) (t : TypeId)
    (ho : o.op = .call { callee := .builtin .append, args := #[s, x], argTypes := #[t, t] })
    (base : Nat) (e : TypeId) {z : Value} {size bytes : Nat} (ht : P.underlying t = some (.slice e)) (hinfo : (P.info? e).map (fun i => (i.zero, i.size, i.bytes)) = some (some z, size, bytes))
    (hzs : z.cells.size = size) (hsz : 0 < size) (hby : 0 < bytes)
    (v : Value) (n : Nat) (cs : List (List Value)) (hs : a.eval s = v) (hown : w0.ownsRow base e size v n cs.flatten)
    (hr : r.length = size) (h1 : ∀ u ∈ r, u.oneCell' = true) (hx : a.eval x = .slice (some ⟨w0.heap.size, 0, none⟩) 1 1)
    (hn : (n + 1) * bytes ≤ 140737488355328) (hbase : base ≤ w0.heap.size)
    (h : ∀ v' w', w'.ownsRow base e size v' (n + 1) (cs ++ [r]).flatten → w0.grownBy w' v.ownBlock → v' ≠ .slice none 0 0 → wpList P ops Q rest (a.put o.dst v') w') :
    wpList P ops Q (o :: rest) a (w0.alloc (.cells r.toArray e2)) := by
  obtain ⟨i0, hi0, hz0, hz1, hz2⟩ := info_parts hinfo
  have hn1 : n + 1 ≤ 140737488355328 := Nat.le_trans (Nat.le_mul_of_pos_right _ hby) hn
  refine wpList_append_own _ hgd s x t ho base e i0 z size bytes ht hi0 hz0 hz1 hz2 hzs hsz v n cs.flatten hs (hown.alloc _) ⟨w0.heap.size, 0, none⟩ 1 1 r hx (by omega) (fun j u hu => ?_) h1 (by unfold maxLen; omega) hn
    (by simp; omega) (fun v' w' hown' hg hv => h v' w' (by simpa using hown') ?_ (fun e => by have := (hv.1 e).2; omega))
  · rw [add_at, cell_of_row _ _ _ r.toArray e2 (0, 0) (heap_alloc_new w0 _)]
    simpa using hu
  · exact (World.grownBy_alloc w0 _ _).trans hg

/-- 'append(out, x)' inside a region, where a call stands behind the draw: only the row's own block has turned. -/
theorem step_app0g {P : Program} {w0 : World} {ops : Array Oper} {o : Oper} {a : Act} {K : Act → World → Prop} {Q : Exit → Act → World → Prop} {E : Prop} {e2 : TypeId} {r : List Value} (hgd : o.guard = none) (s x : Operand) (t : TypeId)
    (ho : o.op = .call { callee := .builtin .append, args := #[s, x], argTypes := #[t, t] })
    (base : Nat) (e : TypeId) {z : Value} {size bytes : Nat} (ht : P.underlying t = some (.slice e)) (hinfo : (P.info? e).map (fun i => (i.zero, i.size, i.bytes)) = some (some z, size, bytes))
    (hzs : z.cells.size = size) (hsz : 0 < size) (hby : 0 < bytes)
    (v : Value) (n : Nat) (cs : List (List Value)) (hs : a.eval s = v) (hown : w0.ownsRow base e size v n cs.flatten)
    (hr : r.length = size) (h1 : ∀ u ∈ r, u.oneCell' = true) (hx : a.eval x = .slice (some ⟨w0.heap.size, 0, none⟩) 1 1)
    (hn : (n + 1) * bytes ≤ 140737488355328) (hbase : base ≤ w0.heap.size)
    (h : ∀ v' w', w'.ownsRow base e size v' (n + 1) (cs ++ [r]).flatten → w0.grownBy w' v.ownBlock → v' ≠ .slice none 0 0 → K (a.put o.dst v') w') :
    if Region.wanted o (yielded ops a.tmps) = true then Oper.wp P o a (w0.alloc (.cells r.toArray e2)) K Q else E := by
  have hw : Region.wanted o (yielded ops a.tmps) = true := by simp [Region.wanted, hgd]
  rw [if_pos hw]
  obtain ⟨i0, hi0, hz0, hz1, hz2⟩ := info_parts hinfo
  have hn1 : n + 1 ≤ 140737488355328 := Nat.le_trans (Nat.le_mul_of_pos_right _ hby) hn
  refine wp_append_own _ s x t ho base e i0 z size bytes ht hi0 hz0 hz1 hz2 hzs hsz v n cs.flatten hs (hown.alloc _) ⟨w0.heap.size, 0, none⟩ 1 1 r hx (by omega) (fun j u hu => ?_) h1 (by unfold maxLen; omega) hn
    (by simp; omega) (fun v' w' hown' hg hv => h v' w' (by simpa using hown') ((World.grownBy_alloc w0 _ _).trans hg) (fun e => by have := (hv.1 e).2; omega))
  rw [add_at, cell_of_row _ _ _ r.toArray e2 (0, 0) (heap_alloc_new w0 _)]
  simpa using hu


end Go.Proofs.YtkiacbfpnidjlaaGreatDoor

-- 'append(out, xs...)': a row of the call's own onto another one, nil or not.
namespace Go.Proofs.YtkiacbfpnidjlaaGreatDoor
open Go.RowKit
set_option linter.unusedSimpArgs false
set_option linter.unusedVariables false

theorem own_far_type {w : World} {base k m : Nat} {e t : TypeId} {size : Nat} {v : Value} {xs : List Value} {cs : Array Value} (h : w.ownsRow base e size v m xs) (hk : Blk w k t cs) (ht : t ≠ e) : some k ≠ v.ownBlock := by
  rcases h.2 with ⟨rfl, _⟩ | ⟨g, cap, cur, rfl, _, hg, _⟩
  · simp [Value.ownBlock]
  · simp only [Value.ownBlock]
    intro e2
    cases e2
    have := hg.symm.trans hk
    exact ht (by injection this with h1; injection h1 with h2 h3; exact h3.symm)
theorem wpList_app_rows {P : Program} {w : World} {ops : Array Oper} {rest : List Oper} {o : Oper} {a : Act} {Q : Exit → Act → World → Prop} (hgd : o.guard = none) (s x : Operand) (t : TypeId)
    (ho : o.op = .call { callee := .builtin .append, args := #[s, x], argTypes := #[t, t] })
    (base : Nat) (e : TypeId) {z : Value} {size bytes : Nat} (ht : P.underlying t = some (.slice e)) (hinfo : (P.info? e).map (fun i => (i.zero, i.size, i.bytes)) = some (some z, size, bytes))
    (hzs : z.cells.size = size) (hsz : 0 < size) (hby : 0 < bytes)
    (v : Value) (n : Nat) (xs : List Value) (hs : a.eval s = v) (hown : w.ownsRow base e size v n xs)
    (base2 : Nat) (v2 : Value) (m : Nat) (ys : List Value) (hx : a.eval x = v2) (hown2 : w.ownsRow base2 e size v2 m ys) (h1 : ∀ u ∈ ys, u.oneCell' = true)
    (hn : (n + m) * bytes ≤ 140737488355328) (hbase : base ≤ w.heap.size)
    (h : ∀ v' w', w'.ownsRow base e size v' (n + m) (xs ++ ys) → w.grownBy w' v.ownBlock → wpList P ops Q rest (a.put o.dst v') w') :
    wpList P ops Q (o :: rest) a w := by
  obtain ⟨i0, hi0, hz0, hz1, hz2⟩ := info_parts hinfo
  have hn1 : n + m ≤ 140737488355328 := Nat.le_trans (Nat.le_mul_of_pos_right _ hby) hn
  have hl2 := hown2.1
  rcases hown2.2 with ⟨rfl, h0⟩ | ⟨g, cap, cur, rfl, hge, hg, hmc, hm, hcs, htake⟩
  · have hy : ys = [] := List.eq_nil_of_length_eq_zero (by rw [hl2, h0]; simp)
    subst hy
    subst h0
    exact wpList_append_own_none hgd s x t ho base e i0 size ht hi0 v n xs hs hown hx (h v w (by simpa using hown) (World.grownBy.refl w _))
  · refine wpList_append_own _ hgd s x t ho base e i0 z size bytes ht hi0 hz0 hz1 hz2 hzs hsz v n xs hs hown ⟨g, 0, none⟩ m cap ys hx hl2 (hown2.cells rfl) h1 (by unfold maxLen; omega) hn hbase
      (fun v' w' hown' hgr _ => h v' w' hown' hgr)
end Go.Proofs.YtkiacbfpnidjlaaGreatDoor

-- Policies: how they lie in memory; plain words; no Go function is walked here.
namespace Go.Proofs.YtkiacbfpnidjlaaGreatDoor
open Go.RowKit
set_option linter.unusedSimpArgs false
set_option linter.unusedVariables false

structure Ts where
  field : Int
  mask : Int
  op : Int
  value : Int
def Ts.cells (t : Ts) : List Value := [.int .i64 t.field, .int .i64 t.mask, .int .i64 t.op, .int .i64 t.value]
def tsR (ts : List Ts) : List (List Value) := ts.map Ts.cells
theorem tsR_len (ts : List Ts) : (tsR ts).length = ts.length := by simp [tsR]
theorem tsR_rows (ts : List Ts) : ∀ r ∈ tsR ts, r.length = 4 := fun r hr => by
  obtain ⟨t, _, rfl⟩ := List.mem_map.1 hr
  rfl
structure Rl where
  verdict : Int
  low : Int
  high : Int
  tests : List Ts
structure Pol where
  rules : List Rl
  els : Int

/-- A rule's four cells. -/
def RuleIs (w : World) (r : Rl) (cs : List Value) : Prop := ∃ tv, cs = [.int .i64 r.verdict, .int .i64 r.low, .int .i64 r.high, tv] ∧ Sl w 4 tv (tsR r.tests)
theorem RuleIs.below {w w' : World} {r : Rl} {cs : List Value} (h : RuleIs w r cs) (hb : Below w.heap.size w w') : RuleIs w' r cs := by
  obtain ⟨tv, rfl, hs⟩ := h
  exact ⟨tv, rfl, hs.below hb⟩
theorem RuleIs.len {w : World} {r : Rl} {cs : List Value} (h : RuleIs w r cs) : cs.length = 4 := by
  obtain ⟨tv, rfl, _⟩ := h; rfl
/-- A row of rules that is read. -/
def RulesAre (w : World) (rs : List Rl) (css : List (List Value)) : Prop := css.length = rs.length ∧ ∀ (i : Nat) (r : Rl) (cs : List Value), rs[i]? = some r → css[i]? = some cs → RuleIs w r cs
theorem RulesAre.nil (w : World) : RulesAre w [] [] := ⟨rfl, fun i r cs h => by simp at h⟩
theorem RulesAre.below {w w' : World} {rs : List Rl} {css : List (List Value)} (h : RulesAre w rs css) (hb : Below w.heap.size w w') : RulesAre w' rs css :=
  ⟨h.1, fun i r cs h1 h2 => (h.2 i r cs h1 h2).below hb⟩
theorem RulesAre.snoc {w : World} {rs : List Rl} {css : List (List Value)} {r : Rl} {cs : List Value} (h : RulesAre w rs css) (hr : RuleIs w r cs) : RulesAre w (rs ++ [r]) (css ++ [cs]) := by
  refine ⟨by simp [h.1], fun i r' cs' h1 h2 => ?_⟩
  have hl := h.1
  by_cases hi : i < rs.length
  · rw [List.getElem?_append_left hi] at h1
    rw [List.getElem?_append_left (by omega)] at h2
    exact h.2 i r' cs' h1 h2
  · rw [List.getElem?_append_right (by omega)] at h1
    rw [List.getElem?_append_right (by omega), hl] at h2
    have e : i - rs.length = 0 := by have := (List.getElem?_eq_some_iff.1 h1).1; simp at this; omega
    rw [e] at h1 h2
    simp at h1 h2
    subst h1 h2
    exact hr
theorem RulesAre.rows {w : World} {rs : List Rl} {css : List (List Value)} (h : RulesAre w rs css) : ∀ c ∈ css, c.length = 4 := fun c hc => by
  obtain ⟨i, hi, rfl⟩ := List.getElem_of_mem hc
  have h1 := h.1
  exact (h.2 i _ _ (List.getElem?_eq_getElem (by omega)) (List.getElem?_eq_getElem hi)).len
/-- A policy as a value. -/
def PolIs (w : World) (p : Pol) (v : Value) : Prop := ∃ rv css, v = .agg #[rv, .int .i64 p.els] ∧ Sl w 4 rv css ∧ RulesAre w p.rules css
theorem PolIs.below {w w' : World} {p : Pol} {v : Value} (h : PolIs w p v) (hb : Below w.heap.size w w') : PolIs w' p v := by
  obtain ⟨rv, css, rfl, hs, hr⟩ := h
  exact ⟨rv, css, rfl, hs.below hb, hr.below hb⟩
end Go.Proofs.YtkiacbfpnidjlaaGreatDoor

-- Rows of bools and of numbers as blocks: no Go function is walked here.
namespace Go.Proofs.YtkiacbfpnidjlaaGreatDoor
open Go.RowKit
set_option linter.unusedSimpArgs false
set_option linter.unusedVariables false

theorem info_boolR : (Tryz.prog.info? 4).map (fun i => (i.zero, i.size, i.bytes)) = some (some (.bool false), 1, 1) := by kernel_rfl
theorem info_intR : (Tryz.prog.info? 3).map (fun i => (i.zero, i.size, i.bytes)) = some (some (.int .i64 0), 1, 8) := by kernel_rfl
/-- The cells of bools, as a block. -/
def bRow (rs : List Bool) : Array Value := (rs.map Value.bool).toArray
theorem bRow_zero (n : Nat) : madeCells #[.bool false] n = bRow (List.replicate n false) := by
  apply Array.ext'
  rw [toList_madeCells_one]
  simp [bRow]
theorem bRow_get (rs : List Bool) (k : Nat) : (bRow rs)[k]? = rs[k]?.map Value.bool := by simp [bRow]
theorem bRow_set (rs : List Bool) (k : Nat) (b : Bool) : (bRow rs).setIfInBounds k (.bool b) = bRow (rs.set k b) := by
  apply Array.ext'
  simp [bRow, List.map_set]
theorem bRow_cell {w : World} {h k : Nat} {t : TypeId} {rs : List Bool} {b : Bool} (hb : Blk w h t (bRow rs)) (hk : rs[k]? = some b) : w.cell? ⟨h, k, none⟩ = some (.bool b) := (hb.cell k).trans (by rw [bRow_get, hk]; rfl)
theorem bRow_some {rs : List Bool} {n k : Nat} (hl : rs.length = n) (hk : k < n) : ∃ b, rs[k]? = some b := ⟨_, List.getElem?_eq_getElem (by omega)⟩
/-- The cells of numbers, as a block. -/
def nRow (rs : List Nat) : Array Value := (rs.map fun n => Value.int .i64 ((n : Nat) : Int)).toArray
theorem nRow_zero (n : Nat) : madeCells #[.int .i64 0] n = nRow (List.replicate n 0) := by
  apply Array.ext'
  rw [toList_madeCells_one]
  simp [nRow]
theorem nRow_get (rs : List Nat) (k : Nat) : (nRow rs)[k]? = rs[k]?.map fun n => Value.int .i64 ((n : Nat) : Int) := by simp [nRow]
theorem nRow_set (rs : List Nat) (k b : Nat) : (nRow rs).setIfInBounds k (.int .i64 (b : Int)) = nRow (rs.set k b) := by
  apply Array.ext'
  simp [nRow, List.map_set]
theorem nRow_cell {w : World} {h k : Nat} {t : TypeId} {rs : List Nat} {b : Nat} (hb : Blk w h t (nRow rs)) (hk : rs[k]? = some b) : w.cell? ⟨h, k, none⟩ = some (.int .i64 (b : Int)) := (hb.cell k).trans (by rw [nRow_get, hk]; rfl)
theorem nRow_some {rs : List Nat} {n k : Nat} (hl : rs.length = n) (hk : k < n) : ∃ b, rs[k]? = some b := ⟨_, List.getElem?_eq_getElem (by omega)⟩
theorem set_true_keep {rs : List Bool} {j y : Nat} (h : rs[j]? = some true) : (rs.set y true)[j]? = some true := by
  rw [List.getElem?_set]
  have := (List.getElem?_eq_some_iff.1 h).1
  by_cases e : y = j
  · subst e; simp [this]
  · simp [e, h]
end Go.Proofs.YtkiacbfpnidjlaaGreatDoor

-- What came in, read as lists: slices whose elements are structs of one-cell fields.
namespace Go.Proofs.YtkiacbfpnidjlaaGreatDoor
open Go.RowKit Go.WideShapes Go.ChangeShapes Go.ChangeAt
set_option linter.unusedSimpArgs false
set_option linter.unusedVariables false

section
variable {H : Type} {enc : TypeId × Value → H} {P : Program} {w : World} {base : Nat} {spare : Nat → Bool} {held : Bool}

theorem all_map {α β : Type} {f : α → β} : ∀ (l : List β), (∀ r ∈ l, ∃ a, r = f a) → ∃ g : List α, l = g.map f
  | [], _ => ⟨[], rfl⟩
  | r :: l, h => by
    obtain ⟨a, rfl⟩ := h r (by simp)
    obtain ⟨g, rfl⟩ := all_map l (fun r hr => h r (by simp [hr]))
    exact ⟨a :: g, rfl⟩

/-- A slice that came in, its elements read one by one. -/
theorem slice_reads {t e : TypeId} {size fuel : Nat} {cs : List Value} {x : DataW H × List MemPlace} {R : List Value → Prop} (ht : P.underlying t = some (.slice e)) (hC : P.cellsOf e = size) (hpos : 0 < size)
    (hR : ∀ (n : Nat) (r : List Value) (y : DataW H × List MemPlace), DataW.trod enc P w base spare held n e r = some y → R r) (h : DataW.trod enc P w base spare held fuel t cs = some x) :
    ∃ v css, cs = [v] ∧ Sl w size v css ∧ ∀ r ∈ css, R r ∧ r.length = size := by
  rcases DataW.trod_slice ht h with ⟨rfl, _⟩ | ⟨a, len, cap, elems, rest, n, _, rfl, _, _, hl, hm, hlen, hel, _, _⟩
  · exact ⟨_, [], rfl, Sl.nil, fun r hr => by cases hr⟩
  · have hall : ∀ i, i < len → ∃ r y, w.cells? base (a.add (i * size)) size = some r ∧ DataW.trod enc P w base spare held n e r = some y := by
      intro i hi
      have h1 := hel i hi
      rw [hC, List.getElem?_eq_getElem (by omega)] at h1
      obtain ⟨r, h2, h3⟩ := Option.bind_eq_some_iff.1 h1
      exact ⟨r, _, h2, h3⟩
    obtain ⟨F, hF⟩ := Go.Deep.choose_lt (α := List Value) (n := len) (p := fun i r => w.cells? base (a.add (i * size)) size = some r ∧ ∃ y, DataW.trod enc P w base spare held n e r = some y) (fun i hi => by
      obtain ⟨r, y, h1, h2⟩ := hall i hi
      exact ⟨r, h1, y, h2⟩)
    refine ⟨_, (List.range len).map F, rfl, ⟨some a, len, cap, rfl, by simp, hl, hm, fun hn => ?_⟩, fun r hr => ?_⟩
    · obtain ⟨_, hl0, hc0⟩ := World.cells?_some (hF 0 hn).1
      have h0 := hc0 0 hpos
      have hv : (F 0)[0]? = some ((F 0)[0]'(by omega)) := List.getElem?_eq_getElem (by omega)
      rw [hv, Nat.zero_mul, add_zero', add_zero'] at h0
      have hsp : a.spot = none := by
        cases hs : a.spot with
        | none => rfl
        | some s =>
          unfold World.cell? at h0
          split at h0
          · rw [hs] at h0; simp at h0
          · cases h0
      obtain ⟨ab, ao, asp⟩ := a
      simp only at hsp
      subst hsp
      refine ⟨ab, ao, rfl, World.block_lt_of_cell? w ⟨ab, ao, none⟩ h0, fun k r hr j v hv => ?_⟩
      have hk : k < len := by have := (List.getElem?_eq_some_iff.1 hr).1; simpa using this
      have hrk : r = F k := by
        rw [List.getElem?_map, List.getElem?_range hk] at hr
        simpa using hr.symm
      subst hrk
      obtain ⟨_, hlk, hck⟩ := World.cells?_some (hF k hk).1
      have hj : j < size := by have := (List.getElem?_eq_some_iff.1 hv).1; omega
      have h1 := (hck j hj).trans hv
      rw [add_add'] at h1
      have e : (⟨ab, ao, none⟩ : Addr).add (k * size + j) = ⟨ab, ao + k * size + j, none⟩ := by
        unfold Addr.add
        split
        · rename_i hz; simp [show k * size = 0 by omega, show j = 0 by omega]
        · simp [Nat.add_assoc]
      rw [e] at h1
      exact h1
    · obtain ⟨k, hk, rfl⟩ := List.mem_map.1 hr
      have hk' := List.mem_range.1 hk
      obtain ⟨_, hlk, _⟩ := World.cells?_some (hF k hk').1
      obtain ⟨y, hy⟩ := (hF k hk').2
      exact ⟨hR n _ y hy, hlk⟩

/-- A struct of one-cell fields: each cell reads by itself. -/
theorem struct_cells {t : TypeId} {fs : Array Field} {fuel : Nat} {cs : List Value} {x : DataW H × List MemPlace} (ht : P.underlying t = some (.struct fs)) (hone : Go.Deep.oneCellFields P fs = true) (hC : P.cellsOf t = fs.size)
    (h : DataW.trod enc P w base spare held fuel t cs = some x) :
    cs.length = fs.size ∧ ∀ (i : Nat) (f : Field), fs[i]? = some f → ∃ v n y, cs[i]? = some v ∧ DataW.trod enc P w base spare held n f.type [v] = some y := by
  obtain ⟨xs, n, _, _, hlen, hxl, hf⟩ := DataW.trod_struct ht h
  refine ⟨hlen.trans hC, fun i f hi => ?_⟩
  obtain ⟨ho, hk⟩ := Go.Deep.hone_of hone i f hi
  have hil : i < fs.size := (Array.getElem?_eq_some_iff.1 hi).1
  have h1 := hf i f hi
  have hic : i < cs.length := by omega
  rw [ho, hk, List.drop_eq_getElem_cons hic] at h1
  exact ⟨cs[i], n, _, List.getElem?_eq_getElem hic, h1.trans (List.getElem?_eq_getElem (by omega))⟩

theorem int_cell {t : TypeId} {fuel : Nat} {v : Value} {x : DataW H × List MemPlace} (ht : P.underlying t = some (.int .i64)) (h : DataW.trod enc P w base spare held fuel t [v] = some x) :
    ∃ n : Int, v = .int .i64 n ∧ -9223372036854775808 ≤ n ∧ n ≤ 9223372036854775807 := by
  obtain ⟨n, hc, _, hw⟩ := DataW.trod_int ht h
  refine ⟨n, by simpa using hc, ?_⟩
  simpa [Lit.wf, IntKind.min, IntKind.max, IntKind.signed, IntKind.bits] using hw
end
end Go.Proofs.YtkiacbfpnidjlaaGreatDoor
