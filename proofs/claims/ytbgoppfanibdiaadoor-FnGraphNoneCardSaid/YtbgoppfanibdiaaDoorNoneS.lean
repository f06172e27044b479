/- What the operations yield where the law of one verdict copies a policy, whatever their order; an append onto an empty row of the call's own: its world. No Go function is walked here. -/
import Derived.Test.YtbgoppfanibdiaaDoorDrawPol2
import Derived.Test.YtbgoppfanibdiaaDoorNoneQ
import Derived.Test.YtbgoppfanibdiaaDoorRelA
namespace Go.Proofs.YtbgoppfanibdiaaDoor
open Go.RowKit
set_option linter.unusedSimpArgs false
set_option linter.unusedVariables false

theorem flat_backN {size : Nat} (cs : List (List Value)) (hs : ∀ r ∈ cs, r.length = size) (h0 : 0 < size) {j : Nat} {v : Value} (h : cs.flatten[j]? = some v) : ∃ k i r, j = k * size + i ∧ cs[k]? = some r ∧ r[i]? = some v := by
  have hj := (List.getElem?_eq_some_iff.1 h).1
  rw [flat_len cs hs] at hj
  have hk : j / size < cs.length := Nat.div_lt_of_lt_mul (by rw [Nat.mul_comm]; exact hj)
  have hi : j % size < size := Nat.mod_lt _ h0
  have hr : cs[j / size]? = some cs[j / size] := List.getElem?_eq_getElem hk
  have hl : cs[j / size].length = size := hs _ (List.getElem_mem hk)
  have hv : cs[j / size][j % size]? = some (cs[j / size][j % size]'(by omega)) := List.getElem?_eq_getElem _
  have hj2 : j = j / size * size + j % size := by rw [Nat.mul_comm]; exact (Nat.div_add_mod j size).symm
  refine ⟨j / size, j % size, _, hj2, hr, ?_⟩
  have h2 := flat_get cs hs _ _ hr _ _ hv
  rw [← hj2, h] at h2
  rw [hv, h2]
theorem SlA.newsN {w : World} {size n c : Nat} {a : Addr} {cs : List (List Value)} (h : SlA w size (some a) n c cs) (hs : ∀ r ∈ cs, r.length = size) (h0 : 0 < size) : ∀ (j : Nat) (u : Value), cs.flatten[j]? = some u → w.cell? (a.add j) = some u := by
  intro j u hj
  obtain ⟨k, i, r, rfl, hr, hv⟩ := flat_backN cs hs h0 hj
  have hk := (List.getElem?_eq_some_iff.1 hr).1
  obtain ⟨b, off, e, hb, he⟩ := h.at_ (by have := h.len; omega)
  cases e
  have := he k r hr i u hv
  rw [show ((⟨b, off, none⟩ : Addr).add (k * size + i)) = ⟨b, off + k * size + i, none⟩ by simp [Addr.add, Nat.add_assoc]]
  exact this
theorem setRow_same {w : World} {g : Nat} {cs : Array Value} {t : TypeId} (h : Blk w g t cs) : Below w.heap.size w (w.setRow g cs) :=
  ⟨rfl, rfl, rfl, by simp [World.setRow], fun k _ => by
    by_cases e : k = g
    · subst e; exact (setRow_heap w k cs cs t (0, 0) h).trans h.symm
    · exact setRow_other w g k cs e⟩
/-- An append of a row onto an empty one of the call's own. -/
theorem run_append_fresh {P : Program} {w : World} (t ty e : TypeId) {z : Value} {size bytes : Nat} (ht : P.underlying t = some (.slice e)) (hinfo : (P.info? e).map (fun i => (i.zero, i.size, i.bytes)) = some (some z, size, bytes)) (hzs : z.cells.size = size)
    {g base n c : Nat} {A : Option Addr} {css : List (List Value)} (hg : Blk w g e #[]) (hb : base ≤ g) (hA : SlA w size A n c css) (hs : ∀ r ∈ css, r.length = size) (hsz : 0 < size) (hby : 0 < bytes) (hbytes : n * bytes ≤ 140737488355328) :
    ∃ g' c' w', (Builtin.append_ #[t, t] ty #[.slice (some ⟨g, 0, none⟩) 0 0, .slice A n c]).run P w = .ok (.slice (some ⟨g', 0, none⟩) n c') w' ∧ w'.ownsRow base e size (.slice (some ⟨g', 0, none⟩) n c') n css.flatten ∧ Below w.heap.size w w' ∧ ∀ k t' cs, w.heap.size ≤ k → Blk w' k t' cs → t' = e := by
  obtain ⟨i, hi, hz, h1, h2⟩ := info_parts hinfo
  subst h1 h2
  have hlen : css.flatten.length = n * i.size := by rw [flat_len css hs, hA.len]
  have hn1 : n ≤ 140737488355328 := Nat.le_trans (Nat.le_mul_of_pos_right _ hby) hbytes
  by_cases h0 : n = 0
  · subst h0
    have hc : css = [] := List.eq_nil_of_length_eq_zero hA.len
    subst hc
    cases A with
    | none =>
      refine ⟨g, 0, w, ?_, ⟨by simp, .inr ⟨g, 0, #[], rfl, hb, hg, Nat.le_refl _, Nat.zero_le _, by simp, by simp⟩⟩, Below.refl _ _, fun k t' cs hk hB => absurd hB.lt (by omega)⟩
      simp [Builtin.append_, run_underlying ht, sizeOf, typeInfo, hi, Builtin.lenOf, Builtin.firstCells, storeCells]
    | some ad =>
      have hr := run_append_room (P := P) w t ty e i ht hi g 0 0 #[] hg ad 0 c [] (by simp) (fun j u hu => by simp at hu) (fun u hu => by simp at hu) (by omega) (by simp)
      simp only [Nat.zero_mul, List.take_zero, List.nil_append, List.length_nil, Nat.add_zero, List.drop_zero, Array.toArray_toList] at hr
      refine ⟨g, 0, w.setRow g #[], hr, ⟨by simp, .inr ⟨g, 0, #[], rfl, hb, setRow_heap w g #[] #[] e (0, 0) hg, Nat.le_refl _, Nat.zero_le _, by simp, by simp⟩⟩, setRow_same hg, fun k t' cs hk hB => ?_⟩
      have := hB.lt
      rw [World.setRow] at this
      simp at this
      omega
  · obtain ⟨b, off, rfl, hbl, he⟩ := hA.at_ (by omega)
    have hnews : ∀ (j : Nat) (u : Value), css.flatten[j]? = some u → w.cell? ((⟨b, off, none⟩ : Addr).add j) = some u := hA.newsN hs hsz
    have hr := run_append_grow (P := P) w t ty e i z ht hi hz ⟨g, 0, none⟩ 0 0 [] (by simp) (fun j u hu => by simp at hu) ⟨b, off, none⟩ n c css.flatten hlen hnews (by omega) (by simp only [Nat.zero_add]; omega) (growslice_fits (by omega) (by simpa using hbytes))
    simp only [Nat.zero_add, Array.empty_append] at hr
    have hge := grownCap_ge w n 0 e
    have hcm := grownCap_le_maxLen w n 0 e (by unfold maxLen; omega)
    refine ⟨w.heap.size, _, _, hr, ⟨hlen, .inr ⟨w.heap.size, _, _, rfl, Nat.le_trans hb (Nat.le_of_lt hg.lt), heap_alloc_new w.drew _, hge, hcm, ?_, ?_⟩⟩, ⟨rfl, rfl, rfl, by simp, fun k hk => heap_alloc_old w.drew _ hk⟩, fun k t' cs hk hB => ?_⟩
    · simp only [Array.size_append, List.size_toArray, size_zeroCells, hzs, hlen, ← Nat.add_mul]
      congr 1
      omega
    · simp only [Array.toList_append, ← hlen]
      simp
    · have hk2 : k = w.heap.size := by have := hB.lt; simp at this; omega
      subst hk2
      have e1 := (heap_alloc_new w.drew (.cells (css.flatten.toArray ++ Builtin.zeroCells z.cells (grownCap w n 0 e - n)) e)).symm.trans hB
      injection e1 with e2
      injection e2 with e3 e4
      exact e4.symm
theorem wpList_append_fresh {P : Program} {w : World} {ops : Array Oper} {rest : List Oper} {o : Oper} {a : Act} {Q : Exit → Act → World → Prop} (hgd : o.guard = none) (s x : Operand) (t : TypeId)
    (ho : o.op = .call { callee := .builtin .append, args := #[s, x], argTypes := #[t, t] })
    (e : TypeId) {z : Value} {size bytes : Nat} (ht : P.underlying t = some (.slice e)) (hinfo : (P.info? e).map (fun i => (i.zero, i.size, i.bytes)) = some (some z, size, bytes)) (hzs : z.cells.size = size)
    (g base n c : Nat) (A : Option Addr) (css : List (List Value)) (hse : a.eval s = .slice (some ⟨g, 0, none⟩) 0 0) (hx : a.eval x = .slice A n c) (hg : Blk w g e #[]) (hb : base ≤ g) (hA : SlA w size A n c css) (hs : ∀ r ∈ css, r.length = size) (hsz : 0 < size) (hby : 0 < bytes) (hbytes : n * bytes ≤ 140737488355328)
    (h : ∀ g' c' w', w'.ownsRow base e size (.slice (some ⟨g', 0, none⟩) n c') n css.flatten → Below w.heap.size w w' → (∀ k t' cs, w.heap.size ≤ k → Blk w' k t' cs → t' = e) → wpList P ops Q rest (a.put o.dst (.slice (some ⟨g', 0, none⟩) n c')) w') : wpList P ops Q (o :: rest) a w := by
  refine wpList_plain hgd fun K hK => ?_
  obtain ⟨g', c', w', hrun, h2, h3, h4⟩ := run_append_fresh (P := P) (w := w) t o.type e ht hinfo hzs hg hb hA hs hsz hby hbytes
  unfold Oper.wp
  simp [execOp, ho, resolve, invoke, builtin, hse, hx, hrun, Result.andThen]
  exact hK _ _ (h g' c' w' h2 h3 h4)

abbrev TPol : TypeId := 25
abbrev TRul : TypeId := 33
def polZ : Array Value := #[.slice none 0 0, .int .i64 0]
/-- The copy's block, filled. -/
def FilledP (w : World) (lo : Nat) (els : Int) (n : Nat) (xs : List Value) (k : Nat) : Prop := ∃ g c, Blk w k TPol #[.slice (some ⟨g, 0, none⟩) n c, .int .i64 els] ∧ w.ownsRow lo TRul 4 (.slice (some ⟨g, 0, none⟩) n c) n xs
def sixR (lo : Nat) (els : Int) (n : Nat) (xs : List Value) (w w' : World) : Prop := ∀ j t cs, Blk w j t cs → Blk w' j t cs ∨ (t = TPol ∧ FilledP w' lo els n xs j)
theorem sixR.refl (lo : Nat) (els : Int) (n : Nat) (xs : List Value) (w : World) : sixR lo els n xs w w := fun _ _ _ h => .inl h
theorem sixR.below {lo : Nat} {els : Int} {n : Nat} {xs : List Value} {w w' : World} (h : Below w.heap.size w w') : sixR lo els n xs w w' := fun _ _ _ hb => .inl (hb.below h hb.lt)
theorem sixR.own {lo : Nat} {els : Int} {n : Nat} {xs : List Value} {w w' : World} (h : sixR lo els n xs w w') {v : Value} {m : Nat} {ys : List Value} (ho : w.ownsRow lo TRul 4 v m ys) : w'.ownsRow lo TRul 4 v m ys := by
  refine ⟨ho.1, ?_⟩
  rcases ho.2 with hn | ⟨g, cap, cur, rfl, hb, hg, rest⟩
  · exact .inl hn
  · rcases h g _ _ hg with h2 | ⟨e, _⟩
    · exact .inr ⟨g, cap, cur, rfl, hb, h2, rest⟩
    · exact absurd e (by decide)
theorem sixR.filled {lo : Nat} {els : Int} {n : Nat} {xs : List Value} {w w' : World} (h : sixR lo els n xs w w') {k : Nat} (hf : FilledP w lo els n xs k) : FilledP w' lo els n xs k := by
  obtain ⟨g, c, hb, ho⟩ := hf
  rcases h k _ _ hb with h2 | ⟨_, h2⟩
  · exact ⟨g, c, h2, h.own ho⟩
  · exact h2
def sixT (pb : Nat) (A : Option Addr) (n c lo : Nat) (els : Int) (xs : List Value) : Nat → World → Value → Prop
  | 0, _, u => u = .pointer (some ⟨pb, 1, none⟩)
  | 1, _, u => u = .int .i64 els
  | 2, w, u => ∃ k, u = .slice (some ⟨k, 0, none⟩) 0 0 ∧ lo ≤ k ∧ Blk w k TRul #[]
  | 3, _, u => u = .pointer (some ⟨pb, 0, none⟩)
  | 4, _, u => u = .slice A n c
  | 5, w, u => ∃ g c', u = .slice (some ⟨g, 0, none⟩) n c' ∧ w.ownsRow lo TRul 4 (.slice (some ⟨g, 0, none⟩) n c') n xs
  | 6, w, u => ∃ g c', u = .agg #[.slice (some ⟨g, 0, none⟩) n c', .int .i64 els] ∧ w.ownsRow lo TRul 4 (.slice (some ⟨g, 0, none⟩) n c') n xs
  | 7, w, u => ∃ k, u = .pointer (some ⟨k, 0, none⟩) ∧ lo ≤ k ∧ (Blk w k TPol polZ ∨ FilledP w lo els n xs k)
  | _, _, _ => True
theorem sixT_keep {pb n c lo : Nat} {A : Option Addr} {els : Int} {xs : List Value} (j : Nat) {w w' : World} {u : Value} (hR : sixR lo els n xs w w') (h : sixT pb A n c lo els xs j w u) : sixT pb A n c lo els xs j w' u := by
  match j, h with
  | 0, h => exact h
  | 1, h => exact h
  | 2, ⟨k, e, hk, hb⟩ =>
    rcases hR k _ _ hb with h2 | ⟨e2, _⟩
    · exact ⟨k, e, hk, h2⟩
    · exact absurd e2 (by decide)
  | 3, h => exact h
  | 4, h => exact h
  | 5, ⟨g, c', e, ho⟩ => exact ⟨g, c', e, hR.own ho⟩
  | 6, ⟨g, c', e, ho⟩ => exact ⟨g, c', e, hR.own ho⟩
  | 7, ⟨k, e, hk, h⟩ =>
    rcases h with h | h
    · rcases hR k _ _ h with h2 | ⟨_, h2⟩
      · exact ⟨k, e, hk, .inl h2⟩
      · exact ⟨k, e, hk, .inr h2⟩
    · exact ⟨k, e, hk, .inr (hR.filled h)⟩
  | (m + 8), h => exact trivial
structure SixI (w3 : World) (L : Nat → Bool) (w : World) : Prop where
  below : Below w3.heap.size w3 w
  no : L 7 = false → ∀ k cs, w3.heap.size ≤ k → ¬ Blk w k TPol cs
  one : ∀ k k' cs cs', w3.heap.size ≤ k → w3.heap.size ≤ k' → Blk w k TPol cs → Blk w k' TPol cs' → k = k'
  done : L 8 = true → ∀ k, w3.heap.size ≤ k → ¬ Blk w k TPol polZ
theorem SixI.start (w3 : World) : SixI w3 (fun _ => false) w3.drew :=
  ⟨(Below.refl _ _).drew, fun _ k cs hk hb => absurd (show k < w3.heap.size from hb.lt) (by omega), fun k k' cs cs' hk _ hb _ => absurd (show k < w3.heap.size from hb.lt) (by omega), fun h => by cases h⟩
theorem SixI.put {w3 w : World} {L : Nat → Bool} {i : Nat} (h : SixI w3 L w) (h7 : i ≠ 7) (h8 : i ≠ 8) : SixI w3 (putL L i) w := by
  have e7 : putL L i 7 = L 7 := by unfold putL; simp [Ne.symm h7]
  have e8 : putL L i 8 = L 8 := by unfold putL; simp [Ne.symm h8]
  exact ⟨h.below, fun e => h.no (e7.symm.trans e), h.one, fun e => h.done (e8.symm.trans e)⟩
/-- Blocks that are added are no policies. -/
theorem SixI.more {w3 w w' : World} {L : Nat → Bool} {i : Nat} (h : SixI w3 L w) (hb : Below w.heap.size w w') (ht : ∀ k t cs, w.heap.size ≤ k → Blk w' k t cs → t = TRul) (h7 : i ≠ 7) (h8 : i ≠ 8) : SixI w3 (putL L i) w' := by
  have back : ∀ k cs, Blk w' k TPol cs → Blk w k TPol cs := fun k cs hk => by
    by_cases hlt : k < w.heap.size
    · exact (hb.block k hlt).symm.trans hk
    · exact absurd (ht k _ _ (by omega) hk) (by decide)
  have e7 : putL L i 7 = L 7 := by unfold putL; simp [Ne.symm h7]
  have e8 : putL L i 8 = L 8 := by unfold putL; simp [Ne.symm h8]
  exact ⟨below_then h.below hb, fun e k cs hk hB => h.no (e7.symm.trans e) k cs hk (back k cs hB), fun k k' cs cs' hk hk' hB hB' => h.one k k' cs cs' hk hk' (back _ _ hB) (back _ _ hB'), fun e k hk hB => h.done (e8.symm.trans e) k hk (back _ _ hB)⟩
theorem SixI.empty {w3 w : World} {L : Nat → Bool} (h : SixI w3 L w) : SixI w3 (putL L 2) (w.alloc (.cells #[] TRul)) :=
  h.more (by go_grown) (fun k t cs hk hb => by
    have hk2 : k = w.heap.size := by have := hb.lt; simp at this; omega
    subst hk2
    have e1 := (heap_alloc_new w (.cells #[] TRul)).symm.trans hb
    injection e1 with e2
    injection e2 with e3 e4
    exact e4.symm) (by decide) (by decide)
theorem SixI.made {w3 w : World} {L : Nat → Bool} (h : SixI w3 L w) (h7 : L 7 = false) (h8 : L 8 = false) : SixI w3 (putL L 7) (w.alloc (.cells polZ TPol)) := by
  have e8 : putL L 7 8 = L 8 := by unfold putL; simp
  have back : ∀ k cs, w3.heap.size ≤ k → Blk (w.alloc (.cells polZ TPol)) k TPol cs → k = w.heap.size := fun k cs hk hb => by
    by_cases hlt : k < w.heap.size
    · exact absurd ((Below.heap_alloc w _ k hlt).symm.trans hb) (h.no h7 k cs hk)
    · have := hb.lt
      simp at this
      omega
  exact ⟨h.below.alloc h.below.size _, fun e => by simp [putL] at e, fun k k' cs cs' hk hk' hB hB' => (back k cs hk hB).trans (back k' cs' hk' hB').symm, fun e => by rw [e8, h8] at e; cases e⟩
/-- The store fills the one policy's block. -/
theorem SixI.stored {w3 w : World} {L : Nat → Bool} {k g n c : Nat} {els : Int} {xs : List Value} (h : SixI w3 L w) (h7 : L 7 = true) (hk : w3.heap.size ≤ k) (hb : Blk w k TPol polZ ∨ FilledP w w3.heap.size els n xs k) (ho : w.ownsRow w3.heap.size TRul 4 (.slice (some ⟨g, 0, none⟩) n c) n xs) :
    SixI w3 (putL L 8) ((w.setCell ⟨k, 0, none⟩ (.slice (some ⟨g, 0, none⟩) n c)).setCell ⟨k, 1, none⟩ (.int .i64 els)) ∧ sixR w3.heap.size els n xs w ((w.setCell ⟨k, 0, none⟩ (.slice (some ⟨g, 0, none⟩) n c)).setCell ⟨k, 1, none⟩ (.int .i64 els)) := by
  obtain ⟨a, b, hB⟩ : ∃ a b, Blk w k TPol #[a, b] := by
    rcases hb with hb | ⟨g', c', hb, _⟩
    · exact ⟨_, _, hb⟩
    · exact ⟨_, _, hb⟩
  obtain ⟨W, hW⟩ : ∃ W, W = (w.setCell ⟨k, 0, none⟩ (.slice (some ⟨g, 0, none⟩) n c)).setCell ⟨k, 1, none⟩ (.int .i64 els) := ⟨_, rfl⟩
  have h2 : Blk W k TPol #[.slice (some ⟨g, 0, none⟩) n c, .int .i64 els] := by rw [hW]; exact (hB.set_ 0 _).set_ 1 _
  have far : ∀ j, j ≠ k → W.heap[j]? = w.heap[j]? := fun j hj => by
    rw [hW]
    exact (Below.heap_setCell _ ⟨k, 1, none⟩ _ j hj).trans (Below.heap_setCell _ ⟨k, 0, none⟩ _ j hj)
  have hbl : Below w3.heap.size w3 W := by rw [hW]; exact (h.below.setCell (p := ⟨k, 0, none⟩) hk _).setCell (p := ⟨k, 1, none⟩) hk _
  have ho2 : W.ownsRow w3.heap.size TRul 4 (.slice (some ⟨g, 0, none⟩) n c) n xs := by
    refine ⟨ho.1, ?_⟩
    rcases ho.2 with hn | ⟨g', cap, cur, e, hbg, hg, rest⟩
    · exact .inl hn
    · refine .inr ⟨g', cap, cur, e, hbg, ?_, rest⟩
      rw [far g' (fun e2 => by subst e2; have := hg.symm.trans hB; injection this with e3; injection e3 with e4 e5; exact absurd e5 (by decide))]
      exact hg
  rw [← hW]
  have e7 : putL L 8 7 = L 7 := by unfold putL; simp
  have same : ∀ j cs, w3.heap.size ≤ j → Blk W j TPol cs → j = k := fun j cs hj hBj => by
    by_cases e : j = k
    · exact e
    · exact h.one j k _ _ hj hk ((far j e).symm.trans hBj) hB
  refine ⟨⟨hbl, fun e => (by rw [e7, h7] at e; cases e), fun j j' cs cs' hj hj' hB1 hB2 => (same j cs hj hB1).trans (same j' cs' hj' hB2).symm, fun _ j hj hB1 => ?_⟩, fun j t cs hj => ?_⟩
  · obtain rfl := same j _ hj hB1
    have := h2.symm.trans hB1
    injection this with e1
    injection e1 with e2
    simp [polZ] at e2
  · by_cases e : j = k
    · subst e
      have := hj.symm.trans hB
      injection this with e1
      injection e1 with e2 e3
      exact .inr ⟨e3, g, c, h2, ho2⟩
    · exact .inl ((far j e).trans hj)
theorem flat_setN {size : Nat} : ∀ (rows : List (List Value)) (i q : Nat) (r : List Value) (x : Value), (∀ r ∈ rows, r.length = size) → rows[i]? = some r → q < size → rows.flatten.set (i * size + q) x = (rows.set i (r.set q x)).flatten
  | [], i, q, r, x, _, h, _ => by simp at h
  | y :: rows, 0, q, r, x, hs, h, hq => by
    simp at h
    subst h
    have hy := hs y (by simp)
    rw [List.flatten_cons, Nat.zero_mul, Nat.zero_add, List.set_append_left _ _ (by omega)]
    simp
  | y :: rows, i + 1, q, r, x, hs, h, hq => by
    have hy := hs y (by simp)
    rw [List.flatten_cons, List.set_append_right _ _ (by rw [hy, Nat.succ_mul]; omega), hy, show (i + 1) * size + q - size = i * size + q by rw [Nat.succ_mul]; omega, flat_setN rows i q r x (fun r hr => hs r (by simp [hr])) (by simpa using h) hq]
    simp

/-- The copy, its first m rows changed. -/
structure LoopN (w3 wr : World) (k g n c : Nat) (els : Int) (css : List (List Value)) (m : Nat) : Prop where
  below : Below w3.heap.size w3 wr
  lo : w3.heap.size ≤ k
  blk : Blk wr k TPol #[.slice (some ⟨g, 0, none⟩) n c, .int .i64 els]
  own : wr.ownsRow w3.heap.size TRul 4 (.slice (some ⟨g, 0, none⟩) n c) n (vsetTo els m css).flatten
theorem LoopN.drew {w3 wr : World} {k g n c m : Nat} {els : Int} {css : List (List Value)} (h : LoopN w3 wr k g n c els css m) (B : World) (hb : Below wr.heap.size wr B) : LoopN w3 B k g n c els css m :=
  ⟨below_then h.below hb, h.lo, h.blk.below hb h.blk.lt, own_below h.own hb⟩
theorem vsetTo_rows {e : Int} {m : Nat} {css : List (List Value)} {q : Nat} (h : ∀ r ∈ css, r.length = q) : ∀ r ∈ vsetTo e m css, r.length = q := by
  intro r hr
  unfold vsetTo at hr
  rcases List.mem_append.1 hr with hr | hr
  · obtain ⟨r0, h0, rfl⟩ := List.mem_map.1 hr
    unfold vset
    rw [List.length_set]
    exact h r0 (List.mem_of_mem_take h0)
  · exact h r (List.mem_of_mem_drop hr)
theorem LoopN.cell {w3 wr : World} {k g n c m : Nat} {els : Int} {css : List (List Value)} (h : LoopN w3 wr k g n c els css m) (hs : ∀ r ∈ css, r.length = 4) (hn : css.length = n) (hm : m < n) : (∃ u, wr.cell? ⟨g, m * 4, none⟩ = some u) ∧ wr.frozen? ⟨g, m * 4, none⟩ = false ∧ g < wr.heap.size := by
  obtain ⟨cs, hcs⟩ : ∃ cs, css[m]? = some cs := ⟨_, List.getElem?_eq_getElem (by omega)⟩
  have hl := hs cs (List.mem_of_getElem? hcs)
  have h1 := flat_get (vsetTo els m css) (vsetTo_rows hs) m cs (vsetTo_at hcs) 0 _ (List.getElem?_eq_getElem (by omega))
  refine ⟨⟨_, (h.own.cellAt (m * 4) (by omega)).trans (by rw [← h1]; rfl)⟩, h.own.frozenAt _, (h.own.lt g rfl).2⟩
theorem LoopN.step {w3 wr : World} {k g n c m : Nat} {els : Int} {css : List (List Value)} (h : LoopN w3 wr k g n c els css m) (hs : ∀ r ∈ css, r.length = 4) (hn : css.length = n) (hm : m < n) : LoopN w3 (wr.setCell ⟨g, m * 4, none⟩ (.int .i64 els)) k g n c els css (m + 1) := by
  obtain ⟨cs, hcs⟩ : ∃ cs, css[m]? = some cs := ⟨_, List.getElem?_eq_getElem (by omega)⟩
  obtain ⟨o8, g8⟩ := h.own.stored (m * 4) (.int .i64 els)
  have e := flat_setN (vsetTo els m css) m 0 cs (.int .i64 els) (vsetTo_rows hs) (vsetTo_at hcs) (by omega)
  rw [Nat.add_zero] at e
  rw [e] at o8
  have hg := h.own.lt g rfl
  refine ⟨h.below.setCell (p := ⟨g, m * 4, none⟩) hg.1 _, h.lo, h.blk.far (fun e2 => own_blk_ne h.own h.blk (by decide) (by rw [e2]; rfl)) _, ?_⟩
  rw [vsetTo_succ hcs]
  exact o8
/-- All rows are changed: it is a policy of one verdict. -/
theorem LoopN.pol {w3 wr : World} {k g n c : Nat} {po : Pol} {css : List (List Value)} (h : LoopN w3 wr k g n c po.els css n) (hr : RulesAre w3 po.rules css) (hs : ∀ r ∈ css, r.length = 4) (hn : css.length = n) : PolIs wr (oneV po) (.agg #[.slice (some ⟨g, 0, none⟩) n c, .int .i64 po.els]) := by
  have ho := h.own
  rw [← hn, vsetTo_all, hn] at ho
  refine ⟨_, css.map (vset po.els), rfl, SlA.of_own ho (by rw [List.length_map, hn]) (fun r hr => by
    obtain ⟨r0, h0, rfl⟩ := List.mem_map.1 hr
    unfold vset
    rw [List.length_set]
    exact hs r0 h0), rules_vset po.els (hr.below h.below)⟩
end Go.Proofs.YtbgoppfanibdiaaDoor
