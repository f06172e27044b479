/- Words for memory that all walks of this seat share: slices that read as lists, blocks known whole, frames; no Go function is walked here. -/
import Derived.Test.YtoibocaaeimplaaDoorRows
import Derived.WalkKit
import Derived.WalkSpells
import Derived.WalkLawsBesides
import Derived.Deep.QuietTactic
import Derived.BigQuiet
import Derived.Handy
import Derived.Lib.Hide
import Derived.Lib.QuietBelow
import Derived.Laws.OwnMore
import Derived.Deep.AppendLies
import Derived.Deep.Draws
namespace Go.Proofs.YtoibocaaeimplaaDoor
open Go.RowKit
set_option linter.unusedSimpArgs false
set_option linter.unusedVariables false

theorem add_block (a : Addr) (n : Nat) : (a.add n).block = a.block := by unfold Addr.add; split <;> rfl
theorem add_add' (a : Addr) (i j : Nat) : (a.add i).add j = a.add (i + j) := by
  unfold Addr.add
  by_cases hi : i = 0 <;> by_cases hj : j = 0 <;> simp [hi, hj, Nat.add_assoc]
theorem add_zero' (a : Addr) : a.add 0 = a := by simp [Addr.add]
theorem add_at (g j : Nat) : (⟨g, 0, none⟩ : Addr).add j = ⟨g, j, none⟩ := by unfold Addr.add; split <;> simp_all

/-- From a place on lie the elements of a list, each of so many cells. -/
def Elems (w : World) (b off size : Nat) (cs : List (List Value)) : Prop :=
  ∀ (k : Nat) (r : List Value), cs[k]? = some r → ∀ (j : Nat) (v : Value), r[j]? = some v → w.cell? ⟨b, off + k * size + j, none⟩ = some v

/-- A slice that reads as a list of elements. -/
structure SlA (w : World) (size : Nat) (A : Option Addr) (n c : Nat) (cs : List (List Value)) : Prop where
  len : cs.length = n
  cap : n ≤ c
  max : c ≤ maxLen
  at_ : 0 < n → ∃ b off, A = some ⟨b, off, none⟩ ∧ b < w.heap.size ∧ Elems w b off size cs

def Sl (w : World) (size : Nat) (v : Value) (cs : List (List Value)) : Prop := ∃ A n c, v = .slice A n c ∧ SlA w size A n c cs

theorem cells_below {w w' : World} (hb : Below w.heap.size w w') {p : Addr} (hp : p.block < w.heap.size) : w'.cell? p = w.cell? p := hb.cell hp

theorem Elems.below {w w' : World} {b off size : Nat} {cs : List (List Value)} (h : Elems w b off size cs) {B : Nat} (hb : Below B w w') (ha : b < B) : Elems w' b off size cs :=
  fun k r hr j v hv => (hb.cell (p := ⟨b, _, none⟩) ha).trans (h k r hr j v hv)

theorem SlA.below {w w' : World} {size : Nat} {A : Option Addr} {n c : Nat} {cs : List (List Value)} (h : SlA w size A n c cs) (hb : Below w.heap.size w w') : SlA w' size A n c cs :=
  ⟨h.len, h.cap, h.max, fun hn => let ⟨a, o, e, hl, he⟩ := h.at_ hn; ⟨a, o, e, Nat.lt_of_lt_of_le hl hb.size, he.below hb hl⟩⟩
theorem Sl.below {w w' : World} {size : Nat} {v : Value} {cs : List (List Value)} (h : Sl w size v cs) (hb : Below w.heap.size w w') : Sl w' size v cs :=
  let ⟨A, n, c, e, hs⟩ := h; ⟨A, n, c, e, hs.below hb⟩

theorem SlA.get {w : World} {size : Nat} {A : Option Addr} {n c : Nat} {cs : List (List Value)} (h : SlA w size A n c cs) {k : Nat} (hk : k < n) :
    ∃ b off, A = some ⟨b, off, none⟩ ∧ b < w.heap.size ∧ ∀ r, cs[k]? = some r → ∀ (j : Nat) (v : Value), r[j]? = some v → w.cell? ⟨b, off + k * size + j, none⟩ = some v := by
  obtain ⟨b, off, e, hl, he⟩ := h.at_ (by omega)
  exact ⟨b, off, e, hl, fun r hr j v hv => he k r hr j v hv⟩

theorem SlA.nil {w : World} {size : Nat} : SlA w size none 0 0 [] := ⟨rfl, Nat.le_refl _, Nat.zero_le _, fun h => absurd h (by omega)⟩
theorem Sl.nil {w : World} {size : Nat} : Sl w size (.slice none 0 0) [] := ⟨_, _, _, rfl, SlA.nil⟩

/-- A slice over a block of the call's own, from its head on. -/
theorem SlA.of_block {w : World} {g : Nat} {t : TypeId} {cur : Array Value} {fr : Nat × Nat} {size n c : Nat} {cs : List (List Value)} (hg : w.heap[g]? = some (.cells cur t fr)) (hl : cs.length = n) (hc : n ≤ c) (hm : c ≤ maxLen)
    (h : ∀ (k : Nat) (r : List Value), cs[k]? = some r → ∀ (j : Nat) (v : Value), r[j]? = some v → cur[k * size + j]? = some v) : SlA w size (some ⟨g, 0, none⟩) n c cs :=
  ⟨hl, hc, hm, fun _ => ⟨_, _, rfl, (Array.getElem?_eq_some_iff.1 hg).1, fun k r hr j v hv => by
    rw [cell_of_row w g _ cur t fr hg, Nat.zero_add]; exact h k r hr j v hv⟩⟩

theorem flat_get {size : Nat} : ∀ (cs : List (List Value)), (∀ r ∈ cs, r.length = size) → ∀ (k : Nat) (r : List Value), cs[k]? = some r → ∀ (j : Nat) (v : Value), r[j]? = some v → cs.flatten[k * size + j]? = some v
  | [], _, k, r, h, _, _, _ => by simp at h
  | x :: cs, hs, 0, r, h, j, v, hv => by
    simp at h; subst h
    have hj : j < x.length := (List.getElem?_eq_some_iff.1 hv).1
    rw [List.flatten_cons, Nat.zero_mul, Nat.zero_add, List.getElem?_append_left hj]
    exact hv
  | x :: cs, hs, k + 1, r, h, j, v, hv => by
    have hx : x.length = size := hs x (by simp)
    have := flat_get cs (fun r hr => hs r (by simp [hr])) k r (by simpa using h) j v hv
    rw [List.flatten_cons, List.getElem?_append_right (by rw [hx, Nat.succ_mul]; omega), hx]
    rw [show (k + 1) * size + j - size = k * size + j from by rw [Nat.succ_mul]; omega]
    exact this

theorem flat_len {size : Nat} (cs : List (List Value)) (hs : ∀ r ∈ cs, r.length = size) : cs.flatten.length = cs.length * size := by
  induction cs with
  | nil => simp
  | cons x cs ih => rw [List.flatten_cons, List.length_append, ih (fun r hr => hs r (by simp [hr])), hs x (by simp), List.length_cons, Nat.succ_mul]; omega

/-- A row that the call owns reads as a list. -/
theorem SlA.of_own {w : World} {base : Nat} {e : TypeId} {size n : Nat} {v : Value} {cs : List (List Value)} (h : w.ownsRow base e size v n cs.flatten) (hl : cs.length = n) (hs : ∀ r ∈ cs, r.length = size) : Sl w size v cs := by
  rcases h.2 with ⟨rfl, h0⟩ | ⟨g, cap, cur, rfl, _, hg, hnc, hm, _, htake⟩
  · subst h0
    have : cs = [] := List.eq_nil_of_length_eq_zero hl
    subst this
    exact Sl.nil
  · refine ⟨_, _, _, rfl, SlA.of_block hg hl hnc hm fun k r hr j u hu => ?_⟩
    have h1 := flat_get cs hs k r hr j u hu
    rw [← htake, List.getElem?_take] at h1
    split at h1
    · simpa using h1
    · cases h1

theorem own_below {w w' : World} {base : Nat} {e : TypeId} {size n : Nat} {v : Value} {xs : List Value} (h : w.ownsRow base e size v n xs) (hb : Below w.heap.size w w') : w'.ownsRow base e size v n xs := by
  refine ⟨h.1, ?_⟩
  rcases h.2 with hn | ⟨g, cap, cur, rfl, hge, hg, rest⟩
  · exact .inl hn
  · exact .inr ⟨g, cap, cur, rfl, hge, by rw [hb.block g (Array.getElem?_eq_some_iff.1 hg).1]; exact hg, rest⟩
theorem own_base {w : World} {base base' : Nat} {e : TypeId} {size n : Nat} {v : Value} {xs : List Value} (h : w.ownsRow base e size v n xs) (hb : base' ≤ base) : w.ownsRow base' e size v n xs := by
  refine ⟨h.1, ?_⟩
  rcases h.2 with hn | ⟨g, cap, cur, rfl, hge, rest⟩
  · exact .inl hn
  · exact .inr ⟨g, cap, cur, rfl, Nat.le_trans hb hge, rest⟩

/-- Below, step by step. -/
theorem below_step {B : Nat} {a w w' : World} (h : Below B a w) (hB : B ≤ w.heap.size) (hb : Below w.heap.size w w') : Below B a w' := h.trans (hb.mono hB)
theorem below_then {a w w' : World} (h : Below a.heap.size a w) (hb : Below w.heap.size w w') : Below a.heap.size a w' := h.trans (hb.mono h.size)

/-- A block that is known whole. -/
def Blk (w : World) (g : Nat) (t : TypeId) (cs : Array Value) : Prop := w.heap[g]? = some (.cells cs t (0, 0))
section
variable {w w' : World} {g : Nat} {t : TypeId} {cs : Array Value}
theorem Blk.lt (h : Blk w g t cs) : g < w.heap.size := (Array.getElem?_eq_some_iff.1 h).1
theorem Blk.cell (h : Blk w g t cs) (i : Nat) : w.cell? ⟨g, i, none⟩ = cs[i]? := cell_of_row w g i cs t (0, 0) h
theorem Blk.frozen (h : Blk w g t cs) (i : Nat) : w.frozen? ⟨g, i, none⟩ = false := by unfold Blk at h; simp [World.frozen?, h]
theorem Blk.some_ (h : Blk w g t cs) {i : Nat} (hi : i < cs.size) : ∃ v, w.cell? ⟨g, i, none⟩ = some v := ⟨cs[i], (h.cell i).trans (Array.getElem?_eq_getElem hi)⟩
theorem Blk.new (w : World) (t : TypeId) (cs : Array Value) : Blk (w.alloc (.cells cs t)) w.heap.size t cs := heap_alloc_new w _
theorem Blk.drew (h : Blk w g t cs) : Blk w.drew g t cs := h
theorem Blk.drewN (h : Blk w g t cs) (n : Nat) : Blk (w.drewN n) g t cs := h
theorem Blk.alloc (h : Blk w g t cs) (o : Obj) : Blk (w.alloc o) g t cs := (Below.heap_alloc w o g h.lt).trans h
theorem Blk.set_ (h : Blk w g t cs) (i : Nat) (u : Value) : Blk (w.setCell ⟨g, i, none⟩ u) g t (cs.setIfInBounds i u) := by
  unfold Blk at h ⊢
  simp [World.setCell, Array.getElem?_modify, h]
theorem Blk.far (h : Blk w g t cs) {p : Addr} (hp : g ≠ p.block) (u : Value) : Blk (w.setCell p u) g t cs := (Below.heap_setCell w p u g hp).trans h
theorem Blk.below {B : Nat} (h : Blk w g t cs) (hb : Below B w w') (hg : g < B) : Blk w' g t cs := (hb.block g hg).trans h
end

theorem info_int : (Tryd.prog.info? 3).map (fun i => (i.zero, i.size, i.bytes)) = some (some (.int .i64 0), 1, 8) := by kernel_rfl

/-- The cells of ints. -/
def ints (xs : List Int) : List (List Value) := xs.map fun x => [.int .i64 x]
theorem ints_rows (xs : List Int) : ∀ r ∈ ints xs, r.length = 1 := by simp [ints]
theorem ints_len (xs : List Int) : (ints xs).length = xs.length := by simp [ints]
theorem ints_flat (xs : List Int) : (ints xs).flatten = xs.map (Value.int .i64) := by
  induction xs with
  | nil => rfl
  | cons x xs ih => simp [ints] at ih ⊢; exact ih

/-- A row of which the first k elements are laid. -/
def FilledTo (cur : Array Value) (size : Nat) (cs : List (List Value)) (k : Nat) : Prop :=
  ∀ (j : Nat) (r : List Value), j < k → cs[j]? = some r → ∀ (i : Nat) (v : Value), r[i]? = some v → cur[j * size + i]? = some v
theorem FilledTo.zero (cur : Array Value) (size : Nat) (cs : List (List Value)) : FilledTo cur size cs 0 := fun _ _ h => absurd h (by omega)

/-- Some stores, one cell behind the other. -/
def setRun (w : World) (g : Nat) (o : Nat) : List Value → World
  | [] => w
  | v :: vs => setRun (w.setCell ⟨g, o, none⟩ v) g (o + 1) vs
def setArr (cur : Array Value) (o : Nat) : List Value → Array Value
  | [] => cur
  | v :: vs => setArr (cur.setIfInBounds o v) (o + 1) vs
theorem setArr_size : ∀ (vs : List Value) (cur : Array Value) (o : Nat), (setArr cur o vs).size = cur.size
  | [], _, _ => rfl
  | v :: vs, cur, o => by rw [setArr, setArr_size vs]; simp
theorem setArr_out : ∀ (vs : List Value) (cur : Array Value) (o i : Nat), (i < o ∨ o + vs.length ≤ i) → (setArr cur o vs)[i]? = cur[i]?
  | [], _, _, _, _ => rfl
  | v :: vs, cur, o, i, h => by
    rw [setArr, setArr_out vs _ _ _ (by simp at h; omega), Array.getElem?_setIfInBounds, if_neg (by simp at h; omega)]
theorem setArr_in : ∀ (vs : List Value) (cur : Array Value) (o i : Nat) (v : Value), vs[i]? = some v → o + vs.length ≤ cur.size → (setArr cur o vs)[o + i]? = some v
  | [], _, _, _, _, h, _ => by simp at h
  | u :: vs, cur, o, 0, v, h, hs => by
    simp at h hs; subst h
    rw [setArr, setArr_out vs _ _ _ (by omega), Array.getElem?_setIfInBounds, if_pos (by omega), if_pos (by omega)]
  | u :: vs, cur, o, i + 1, v, h, hs => by
    simp at h hs
    rw [setArr, show o + (i + 1) = o + 1 + i from by omega]
    exact setArr_in vs _ _ i v h (by simp; omega)
theorem Blk.run {g : Nat} {t : TypeId} : ∀ (vs : List Value) (w : World) (cur : Array Value) (o : Nat), Blk w g t cur → Blk (setRun w g o vs) g t (setArr cur o vs)
  | [], _, _, _, h => h
  | v :: vs, w, cur, o, h => Blk.run vs _ _ _ (h.set_ o v)
theorem below_run {B : Nat} {a : World} {g : Nat} (hg : B ≤ g) : ∀ (vs : List Value) (w : World) (o : Nat), Below B a w → Below B a (setRun w g o vs)
  | [], _, _, h => h
  | v :: vs, w, o, h => below_run hg vs _ _ (h.setCell (p := ⟨g, o, none⟩) hg v)
theorem FilledTo.next {cur : Array Value} {size n k : Nat} {cs : List (List Value)} {r : List Value} (h : FilledTo cur size cs k) (hr : cs[k]? = some r) (hrow : ∀ r ∈ cs, r.length = size) (hs : cur.size = n * size) (hk : k < n) : FilledTo (setArr cur (k * size) r) size cs (k + 1) := by
  intro j q hj hq i v hv
  have hl : r.length = size := hrow r (List.mem_of_getElem? hr)
  have hi : i < size := by rw [← hrow q (List.mem_of_getElem? hq)]; exact (List.getElem?_eq_some_iff.1 hv).1
  have hkn : k * size + size ≤ n * size := by have := Nat.mul_le_mul_right size (show k + 1 ≤ n by omega); rw [Nat.succ_mul] at this; exact this
  by_cases e : j = k
  · subst e
    rw [hr] at hq; cases hq
    exact setArr_in r cur _ i v hv (by omega)
  · have hjk : j * size + size ≤ k * size := by have := Nat.mul_le_mul_right size (show j + 1 ≤ k by omega); rw [Nat.succ_mul] at this; exact this
    rw [setArr_out _ _ _ _ ?_]
    · exact h j q (by omega) hq i v hv
    · left; omega

theorem SlA.of_filled {w : World} {g : Nat} {t : TypeId} {cur : Array Value} {size n : Nat} {cs : List (List Value)} (h : Blk w g t cur) (hl : cs.length = n) (hm : n ≤ maxLen) (hf : FilledTo cur size cs n) : SlA w size (some ⟨g, 0, none⟩) n n cs :=
  SlA.of_block h hl (Nat.le_refl _) hm fun k r hr i v hv => hf k r (by have := (List.getElem?_eq_some_iff.1 hr).1; omega) hr i v hv

theorem own_of_filled {w : World} {g : Nat} {t : TypeId} {cur : Array Value} {size n base : Nat} {cs : List (List Value)} (h : Blk w g t cur) (hb : base ≤ g) (hl : cs.length = n) (hrow : ∀ r ∈ cs, r.length = size) (hs : cur.size = n * size) (hm : n ≤ maxLen) (hf : FilledTo cur size cs n) :
    w.ownsRow base t size (.slice (some ⟨g, 0, none⟩) n n) n cs.flatten := by
  have hfl : cs.flatten.length = n * size := by rw [flat_len cs hrow, hl]
  refine ⟨hfl, .inr ⟨g, n, cur, rfl, hb, h, Nat.le_refl _, hm, hs, ?_⟩⟩
  apply List.ext_getElem?
  intro j
  by_cases hj : j < n * size
  · have hz : 0 < size := Nat.pos_of_ne_zero (fun e => by subst e; simp at hj)
    have hk : j / size < n := (Nat.div_lt_iff_lt_mul hz).2 hj
    have hr : cs[j / size]? = some (cs[j / size]'(by omega)) := List.getElem?_eq_getElem (by omega)
    have hrl := hrow _ (List.getElem_mem (l := cs) (n := j / size) (by omega))
    have hi : j % size < (cs[j / size]'(by omega)).length := by rw [hrl]; exact Nat.mod_lt _ hz
    have hv := List.getElem?_eq_getElem hi
    have h1 := flat_get cs hrow _ _ hr _ _ hv
    have h2 := hf _ _ hk hr _ _ hv
    have e : j / size * size + j % size = j := by rw [Nat.mul_comm]; exact Nat.div_add_mod j size
    rw [e] at h1 h2
    rw [h1, List.getElem?_take, if_pos hj]
    simpa using h2
  · rw [List.getElem?_eq_none (by simp; omega), List.getElem?_eq_none (by omega)]

/-- 'make([]T, n)', whatever the size of T. -/
theorem run_make_rowN {P : Program} (t e : TypeId) (z : Value) (size bytes : Nat) (ht : P.underlying t = some (.slice e)) (hinfo : (P.info? e).map (fun i => (i.zero, i.size, i.bytes)) = some (some z, size, bytes))
    (kl : IntKind) (n : Nat) (hbytes : bytes * n ≤ 281474976710656) (h63 : n ≤ 9223372036854775807) (w : World) :
    (Instr.makeSlice t (.int kl (n : Int)) (.int kl (n : Int))).run P w = .ok (.slice (some ⟨w.heap.size, 0, none⟩) n n) (w.alloc (.cells (madeCells z.cells (n * size)) e)) := by
  obtain ⟨i, hi, hzz⟩ := Option.map_eq_some_iff.1 hinfo
  simp only [Prod.mk.injEq] at hzz
  obtain ⟨hz, hs, hb⟩ := hzz
  have hb' : (i.bytes : Int) * (n : Int) ≤ 281474976710656 := by
    have h : ((i.bytes * n : Nat) : Int) ≤ 281474976710656 := by rw [hb]; omega
    rwa [Int.natCast_mul] at h
  have hr := run_make (P := P) w t e i z ht hi hz kl kl n n (by omega) (by omega) hb' (by omega)
  simp only [Int.toNat_natCast, hs] at hr
  exact hr

/-- 'append(out, x)', x one element: onto a row that the call owns. -/
theorem wpList_app1 {P : Program} {w0 : World} {ops : Array Oper} {rest : List Oper} {o : Oper} {a : Act} {Q : Exit → Act → World → Prop} {e2 : TypeId} {r : List Value} (hgd : o.guard = none) (s x : Operand) (t : TypeId)
    (ho : o.op = .call { callee := .builtin .append, args := #[s, x], argTypes := #[t, t] })
    (base : Nat) (e : TypeId) {z : Value} {size bytes : Nat} (ht : P.underlying t = some (.slice e)) (hinfo : (P.info? e).map (fun i => (i.zero, i.size, i.bytes)) = some (some z, size, bytes))
    (hzs : z.cells.size = size) (hsz : 0 < size) (hby : 0 < bytes)
    (v : Value) (n : Nat) (cs : List (List Value)) (hs : a.eval s = v) (hown : w0.ownsRow base e size v n cs.flatten)
    (hr : r.length = size) (h1 : ∀ u ∈ r, u.oneCell' = true) (hx : a.eval x = .slice (some ⟨w0.heap.size, 0, none⟩) 1 1)
    (hn : (n + 1) * bytes ≤ 140737488355328) (hbase : base ≤ w0.heap.size)
    (h : ∀ v' w', w'.ownsRow base e size v' (n + 1) (cs ++ [r]).flatten → Below base w0 w' → v' ≠ .slice none 0 0 → wpList P ops Q rest (a.put o.dst v') w') :
    wpList P ops Q (o :: rest) a (w0.alloc (.cells r.toArray e2)) := by
  obtain ⟨i0, hi0, hz0, hz1, hz2⟩ := info_parts hinfo
  have hn1 : n + 1 ≤ 140737488355328 := Nat.le_trans (Nat.le_mul_of_pos_right _ hby) hn
  refine wpList_append_own _ hgd s x t ho base e i0 z size bytes ht hi0 hz0 hz1 hz2 hzs hsz v n cs.flatten hs (hown.alloc _) ⟨w0.heap.size, 0, none⟩ 1 1 r hx (by omega) (fun j u hu => ?_) h1 (by unfold maxLen; omega) hn
    (by simp; omega) (fun v' w' hown' hg hv => h v' w' (by simpa using hown') ?_ (fun e => by have := (hv.1 e).2; omega))
  · rw [add_at, cell_of_row _ _ _ r.toArray e2 (0, 0) (heap_alloc_new w0 _)]
    simpa using hu
  · exact ((Below.refl base w0).alloc hbase _).grown hg (by simp; omega) (fun k hk => (hown.lt k hk).1)

/-- The same inside a region that draws its order (the draw stands outermost). -/
theorem step_app1 {P : Program} {w0 : World} {ops : Array Oper} {o : Oper} {a : Act} {K : Act → World → Prop} {Q : Exit → Act → World → Prop} {E : Prop} {e2 : TypeId} {r : List Value} (hgd : o.guard = none) (s x : Operand) (t : TypeId)
    (ho : o.op = .call { callee := .builtin .append, args := #[s, x], argTypes := #[t, t] })
    (base : Nat) (e : TypeId) {z : Value} {size bytes : Nat} (ht : P.underlying t = some (.slice e)) (hinfo : (P.info? e).map (fun i => (i.zero, i.size, i.bytes)) = some (some z, size, bytes))
    (hzs : z.cells.size = size) (hsz : 0 < size) (hby : 0 < bytes)
    (v : Value) (n : Nat) (cs : List (List Value)) (hs : a.eval s = v) (hown : w0.ownsRow base e size v n cs.flatten)
    (hr : r.length = size) (h1 : ∀ u ∈ r, u.oneCell' = true) (hx : a.eval x = .slice (some ⟨w0.heap.size, 0, none⟩) 1 1)
    (hn : (n + 1) * bytes ≤ 140737488355328) (hbase : base ≤ w0.heap.size)
    (h : ∀ v' w', w'.ownsRow base e size v' (n + 1) (cs ++ [r]).flatten → Below base w0 w' → v' ≠ .slice none 0 0 → K (a.put o.dst v') w') :
    if Region.wanted o (yielded ops a.tmps) = true then Oper.wp P o a (w0.alloc (.cells r.toArray e2)).drew K Q else E := by
  have hw : Region.wanted o (yielded ops a.tmps) = true := by simp [Region.wanted, hgd]
  rw [if_pos hw]
  obtain ⟨i0, hi0, hz0, hz1, hz2⟩ := info_parts hinfo
  have hn1 : n + 1 ≤ 140737488355328 := Nat.le_trans (Nat.le_mul_of_pos_right _ hby) hn
  refine wp_append_own _ s x t ho base e i0 z size bytes ht hi0 hz0 hz1 hz2 hzs hsz v n cs.flatten hs ((hown.alloc _).drew) ⟨w0.heap.size, 0, none⟩ 1 1 r hx (by omega) (fun j u hu => ?_) h1 (by unfold maxLen; omega) hn
    (by simp; omega) (fun v' w' hown' hg hv => h v' w' (by simpa using hown') ?_ (fun e => by have := (hv.1 e).2; omega))
  · show (w0.alloc (.cells r.toArray e2)).cell? _ = _
    rw [add_at, cell_of_row _ _ _ r.toArray e2 (0, 0) (heap_alloc_new w0 _)]
    simpa using hu
  · exact (((Below.refl base w0).alloc hbase _).drew).grown hg (by simp; omega) (fun k hk => (hown.lt k hk).1)

/-- A region's end, whatever order it took: one frame, up to one address. -/
def RegEnd (f : Nat → Act) (R : Nat → World → Prop) : Exit → Act → World → Prop
  | .normal, a, w => ∃ h, a = f h ∧ R h w
  | _, _, _ => False
theorem region_mid {P : Program} {c : Code} {Q : Exit → Act → World → Prop} {a : Act} {w : World} (f : Nat → Act) (R : Nat → World → Prop) (hr : c.wp P (RegEnd f R) a w) (hq : ∀ h w', R h w' → Q .normal (f h) w') : c.wp P Q a w :=
  Code.wp_mono (fun e a w' hE => by
    cases e with
    | normal => obtain ⟨h, ha, hR⟩ := hE; subst ha; exact hq h w' hR
    | _ => exact hE.elim) hr

theorem ret_int {a b : Int} (h : a = b) : Ending.returned (.int .i64 a) = .returned (.int .i64 b) := by rw [h]
theorem ret_bool {a b : Bool} (h : a = b) : Ending.returned (.bool a) = .returned (.bool b) := by rw [h]

def inB (n lo hi : Int) : Bool := decide (lo ≤ n ∧ n ≤ hi)
theorem inB_iff {n lo hi : Int} : inB n lo hi = true ↔ lo ≤ n ∧ n ≤ hi := by simp [inB]
theorem inB_not {n lo hi : Int} : inB n lo hi = false ↔ ¬ (lo ≤ n ∧ n ≤ hi) := by simp [inB]

theorem l1In_any (n lo hi : Int) (w : World) :
    Calls Tryd.prog 39 #[.int .i64 n, .int .i64 lo, .int .i64 hi] w fun e w' => e = .returned (.bool (inB n lo hi)) ∧ w = w' := by
  go_enter Tryd.func39, Tryd.ntmps39
  go_wp2
  all_goals (go_ret; exact ⟨ret_bool (by simp [inB]; omega), rfl⟩)

/-- A cell of an element, in a world that is as another one below. -/
theorem cellAt {w w' : World} {b o : Nat} {v : Value} {B : Nat} (hb : Below B w w') (ha : b < B) (h : w.cell? ⟨b, o, none⟩ = some v) : w'.cell? ⟨b, o, none⟩ = some v :=
  (hb.cell (p := ⟨b, o, none⟩) ha).trans h
end Go.Proofs.YtoibocaaeimplaaDoor
