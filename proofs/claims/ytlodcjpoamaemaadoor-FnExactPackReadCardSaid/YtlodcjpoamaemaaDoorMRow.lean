/- Rows that a conversion has laid ('[]byte(s)': its block bears a mark behind its last cell), and what is appended to them, one element at a time. -/
import Derived.Test.YtlodcjpoamaemaaDoorHashA
import Derived.ArgAppend
namespace Go.Proofs.YtlodcjpoamaemaaDoor
open Go.RowKit
set_option linter.unusedSimpArgs false
set_option linter.unusedVariables false

def MRow (w : World) (base : Nat) (e : TypeId) (v : Value) (n : Nat) (xs : List Value) : Prop :=
  xs.length = n ∧ ∃ g cap cur fr, v = .slice (some ⟨g, 0, none⟩) n cap ∧ base ≤ g ∧ w.heap[g]? = some (.cells cur e fr) ∧ (∀ j, j < cap → (decide (fr.1 ≤ j) && decide (j < fr.2)) = false) ∧ n ≤ cap ∧ cap ≤ maxLen ∧ cap ≤ cur.size ∧ cur.toList.take n = xs

theorem MRow.of_own {w : World} {base n : Nat} {e : TypeId} {v : Value} {xs : List Value} (h : w.ownsRow base e 1 v n xs) (hn : 0 < n) : MRow w base e v n xs := by
  refine ⟨by rw [h.1]; omega, ?_⟩
  rcases h.2 with ⟨_, h0⟩ | ⟨g, cap, cur, rfl, hb, hg, hnc, hm, hs, ht⟩
  · omega
  · exact ⟨g, cap, cur, (0, 0), rfl, hb, hg, fun j _ => by simp, hnc, hm, by omega, by rw [← ht, Nat.mul_one]⟩
theorem MRow.below {w w' : World} {base n : Nat} {e : TypeId} {v : Value} {xs : List Value} (h : MRow w base e v n xs) (hb : Below w.heap.size w w') : MRow w' base e v n xs := by
  obtain ⟨hl, g, cap, cur, fr, e1, e2, e3, rest⟩ := h
  exact ⟨hl, g, cap, cur, fr, e1, e2, (hb.block g (Array.getElem?_eq_some_iff.1 e3).1).trans e3, rest⟩
theorem MRow.alloc {w : World} {base n : Nat} {e : TypeId} {v : Value} {xs : List Value} (h : MRow w base e v n xs) (o : Obj) : MRow (w.alloc o) base e v n xs := h.below ((Below.refl _ _).alloc (Nat.le_refl _) o)
theorem MRow.drew {w : World} {base n : Nat} {e : TypeId} {v : Value} {xs : List Value} (h : MRow w base e v n xs) : MRow w.drew base e v n xs := h
theorem MRow.form {w : World} {base n : Nat} {e : TypeId} {v : Value} {xs : List Value} (h : MRow w base e v n xs) : ∃ g cap, v = .slice (some ⟨g, 0, none⟩) n cap ∧ base ≤ g ∧ g < w.heap.size ∧ n ≤ cap ∧ cap ≤ maxLen := by
  obtain ⟨hl, g, cap, cur, fr, e1, e2, e3, _, e4, e5, _⟩ := h
  exact ⟨g, cap, e1, e2, (Array.getElem?_eq_some_iff.1 e3).1, e4, e5⟩
theorem heap_cell {w : World} {g : Nat} {cur : Array Value} {e : TypeId} {fr : Nat × Nat} (h : w.heap[g]? = some (.cells cur e fr)) (j : Nat) : w.cell? ⟨g, j, none⟩ = cur[j]? := by
  unfold World.cell?
  rw [h]
  simp
theorem heap_frozen {w : World} {g : Nat} {cur : Array Value} {e : TypeId} {fr : Nat × Nat} (h : w.heap[g]? = some (.cells cur e fr)) (j : Nat) : w.frozen? ⟨g, j, none⟩ = (decide (fr.1 ≤ j) && decide (j < fr.2)) := by
  unfold World.frozen?
  rw [h]
theorem MRow.cells {w : World} {base n c : Nat} {g : Nat} {e : TypeId} {xs : List Value} (h : MRow w base e (.slice (some ⟨g, 0, none⟩) n c) n xs) {j : Nat} {u : Value} (hu : xs[j]? = some u) : w.cell? ⟨g, j, none⟩ = some u := by
  obtain ⟨hl, g', cap, cur, fr, e1, e2, e3, _, _, _, _, ht⟩ := h
  injection e1 with e1 _ _
  injection e1 with e1
  injection e1 with e1 _ _
  subst e1
  rw [heap_cell e3]
  rw [← ht, List.getElem?_take] at hu
  split at hu
  · simpa using hu
  · cases hu

/-- One element more. -/
theorem run_append_M {P : Program} (w : World) (base : Nat) (t ty e : TypeId) (i : TypeInfo) (z : Value) (bytes : Nat) (ht : P.underlying t = some (.slice e)) (hi : P.info? e = some i) (hz : i.zero = some z)
    (hsize : i.size = 1) (hby : i.bytes = bytes) (hzs : z.cells.size = 1)
    (v : Value) (n : Nat) (xs : List Value) (hown : MRow w base e v n xs) (ad : Addr) (c : Nat) (u : Value) (hu : w.cell? ad = some u) (h1 : u.oneCell' = true)
    (h63 : n + 1 ≤ maxLen) (hbytes : (n + 1) * bytes ≤ 140737488355328) (hbase : base ≤ w.heap.size) :
    ∃ v' w', (Builtin.append_ #[t, t] ty #[v, .slice (some ad) 1 c]).run P w = .ok v' w' ∧ MRow w' base e v' (n + 1) (xs ++ [u]) ∧ Below base w w' := by
  have hn1 : ∀ j x, [u][j]? = some x → w.cell? (ad.add j) = some x := by
    intro j x hx
    have hj : j = 0 := by have := (List.getElem?_eq_some_iff.1 hx).1; simpa using this
    subst hj
    rw [add_zero', hu]
    simpa using hx
  obtain ⟨hl, g, cap, cur, fr, rfl, hg1, hg, hfr, hnc, hm, hcs, htk⟩ := hown
  have hlt := (Array.getElem?_eq_some_iff.1 hg).1
  by_cases hr : n + 1 ≤ cap
  · have hrun := run_append_room_cells (P := P) w t ty e i ht hi g 0 n cap ad 1 c [u] (by rw [hsize]; rfl) hn1 (by simpa using h1) hr
      (fun j hj => by
        rw [heap_cell hg, hsize]
        simp at hj
        subst hj
        rw [Array.getElem?_eq_getElem (by omega)]
        rfl)
      (fun j hj => by
        rw [heap_frozen hg, hsize]
        simp at hj
        subst hj
        exact hfr _ (by omega))
    refine ⟨_, _, hrun, ?_, ?_⟩
    · have e1 : w.setCells g (0 + n * i.size) [u] = w.setCell ⟨g, n, none⟩ u := by rw [hsize, Nat.mul_one, Nat.zero_add]; rfl
      rw [e1]
      refine ⟨by simp [hl], g, cap, cur.setIfInBounds n u, fr, rfl, hg1, ?_, hfr, hr, hm, by simpa using hcs, ?_⟩
      · simp [World.setCell, Array.getElem?_modify, hg]
      · apply List.ext_getElem?
        intro j
        rw [List.getElem?_take]
        have hx : ∀ j, j < n → cur[j]? = xs[j]? := fun j hj => by
          rw [← htk, List.getElem?_take, if_pos hj]
          simp
        by_cases hj : j < n
        · rw [if_pos (by omega), List.getElem?_append_left (by omega), ← hx j hj]
          rw [Array.getElem?_toList, Array.getElem?_setIfInBounds, if_neg (by omega)]
        · rw [List.getElem?_append_right (by omega), hl]
          by_cases hj2 : j = n
          · subst hj2
            rw [if_pos (by omega), Array.getElem?_toList, Array.getElem?_setIfInBounds, if_pos rfl, if_pos (by omega), Nat.sub_self]
            rfl
          · rw [if_neg (by omega), List.getElem?_eq_none (by simp; omega)]
    · have e1 : w.setCells g (0 + n * i.size) [u] = w.setCell ⟨g, n, none⟩ u := by rw [hsize, Nat.mul_one, Nat.zero_add]; rfl
      rw [e1]
      exact (Below.refl _ _).setCell (p := ⟨g, n, none⟩) hg1 u
  · obtain ⟨v', w', hrun, r1, r2⟩ := run_append_arg_grows (P := P) w t ty e i z 1 bytes ht hi hz hsize hby hzs (by omega) ⟨g, 0, none⟩ n cap xs (by omega)
      (fun j x hx => by
        rw [add_at, heap_cell hg]
        rw [← htk, List.getElem?_take] at hx
        split at hx
        · simpa using hx
        · cases hx)
      ad 1 c [u] rfl hn1 (by omega) h63 hbytes
    refine ⟨v', w', hrun, ?_, ?_⟩
    · have := MRow.of_own r1 (by omega)
      obtain ⟨q1, g', cap', cur', fr', q2, q3, q4⟩ := this
      exact ⟨q1, g', cap', cur', fr', q2, by omega, q4⟩
    · exact (Below.refl base w).grown r2 hbase (by intro k hk; cases hk)

theorem wp_append_M {P : Program} {w : World} {o : Oper} {a : Act} {K : Act → World → Prop} {Q : Exit → Act → World → Prop} (s x : Operand) (t : TypeId)
    (ho : o.op = .call { callee := .builtin .append, args := #[s, x], argTypes := #[t, t] })
    (base : Nat) (e : TypeId) {z : Value} {bytes : Nat} (ht : P.underlying t = some (.slice e)) (hinfo : (P.info? e).map (fun i => (i.zero, i.size, i.bytes)) = some (some z, 1, bytes))
    (hzs : z.cells.size = 1) (v : Value) (n : Nat) (xs : List Value) (hs : a.eval s = v) (hown : MRow w base e v n xs)
    (ad : Addr) (c : Nat) (u : Value) (hx : a.eval x = .slice (some ad) 1 c) (hu : w.cell? ad = some u) (h1 : u.oneCell' = true)
    (h63 : n + 1 ≤ maxLen) (hbytes : (n + 1) * bytes ≤ 140737488355328) (hbase : base ≤ w.heap.size)
    (h : ∀ v' w', MRow w' base e v' (n + 1) (xs ++ [u]) → Below base w w' → K (a.put o.dst v') w') : o.wp P a w K Q := by
  obtain ⟨i0, hi0, hz0, hz1, hz2⟩ := info_parts hinfo
  obtain ⟨v', w', hr, h2, h3⟩ := run_append_M (P := P) w base t o.type e i0 z bytes ht hi0 hz0 hz1 hz2 hzs v n xs hown ad c u hu h1 h63 hbytes hbase
  unfold Oper.wp execOp
  simp only [ho, resolve, invoke, builtin, Sem.run_bind, Sem.run_pure, Result.andThen_ok, List.map_toArray, List.map_cons, List.map_nil, hs, hx, hr]
  exact h v' w' h2 h3

/-- 'append(out, x)', x a byte laid in a new block. -/
theorem wpList_app1M {P : Program} {w0 : World} {ops : Array Oper} {rest : List Oper} {o : Oper} {a : Act} {Q : Exit → Act → World → Prop} {e2 : TypeId} {u : Value} (hgd : o.guard = none) (s x : Operand) (t : TypeId)
    (ho : o.op = .call { callee := .builtin .append, args := #[s, x], argTypes := #[t, t] })
    (base : Nat) (e : TypeId) {z : Value} {bytes : Nat} (ht : P.underlying t = some (.slice e)) (hinfo : (P.info? e).map (fun i => (i.zero, i.size, i.bytes)) = some (some z, 1, bytes))
    (hzs : z.cells.size = 1) (v : Value) (n : Nat) (xs : List Value) (hs : a.eval s = v) (hown : MRow w0 base e v n xs)
    (h1 : u.oneCell' = true) (hx : a.eval x = .slice (some ⟨w0.heap.size, 0, none⟩) 1 1) (hby : 0 < bytes)
    (hn : (n + 1) * bytes ≤ 140737488355328) (hbase : base ≤ w0.heap.size)
    (h : ∀ v' w', MRow w' base e v' (n + 1) (xs ++ [u]) → Below base w0 w' → wpList P ops Q rest (a.put o.dst v') w') :
    wpList P ops Q (o :: rest) a (w0.alloc (.cells #[u] e2)) := by
  have hn1 : n + 1 ≤ 140737488355328 := Nat.le_trans (Nat.le_mul_of_pos_right _ hby) hn
  refine wpList_plain hgd fun _ hK => wp_append_M s x t ho base e ht hinfo hzs v n xs hs (hown.alloc _) ⟨w0.heap.size, 0, none⟩ 1 u hx ?_ h1 (by unfold maxLen; omega) hn (by simp; omega)
    fun v' w' h2 h3 => hK _ _ (h v' w' h2 (((Below.refl base w0).alloc hbase _).trans h3))
  exact (Blk.new w0 e2 #[u]).cell 0

theorem MRow.sl {w : World} {base n : Nat} {e : TypeId} {v : Value} {l : List UInt8} (h : MRow w base e v n (l.map u8V)) : Sl w 1 v (bts l) := by
  have h0 := h
  obtain ⟨hl, g, cap, cur, fr, rfl, e2, e3, _, e4, e5, _, ht⟩ := h
  refine ⟨_, _, _, rfl, ⟨by rw [bts_len]; simpa using hl, e4, e5, fun _ => ⟨g, 0, rfl, (Array.getElem?_eq_some_iff.1 e3).1, fun k r hr j x hx => ?_⟩⟩⟩
  unfold bts at hr
  rw [List.getElem?_map] at hr
  obtain ⟨b, hb, rfl⟩ := Option.map_eq_some_iff.1 hr
  have hj : j = 0 := by have := (List.getElem?_eq_some_iff.1 hx).1; simpa using this
  subst hj
  rw [Nat.zero_add, Nat.mul_one, Nat.add_zero]
  refine h0.cells ?_
  rw [List.getElem?_map, hb]
  simpa using hx

/-- '[]byte(s)'. -/
theorem MRow.of_text (w : World) (e : TypeId) (s : ByteArray) (hs : grownCap w s.size 0 e ≤ maxLen) (hc : s.size ≤ grownCap w s.size 0 e) :
    MRow (w.drew.alloc (.cells (bytesRow s (grownCap w s.size 0 e)) e ((bytesRow s (grownCap w s.size 0 e)).size, (bytesRow s (grownCap w s.size 0 e)).size + 1))) w.heap.size e (.slice (some ⟨w.heap.size, 0, none⟩) s.size (grownCap w s.size 0 e)) s.size (s.data.toList.map u8V) := by
  obtain ⟨C, hC⟩ : ∃ C, C = grownCap w s.size 0 e := ⟨_, rfl⟩
  rw [← hC] at hs hc ⊢
  clear hC
  have hds : s.data.size = s.size := rfl
  have hsz : (bytesRow s C).size = C := by
    unfold bytesRow
    rw [Array.size_append, Array.size_map, Array.size_replicate, hds]
    omega
  rw [hsz]
  refine ⟨by rw [List.length_map, Array.length_toList]; rfl, w.heap.size, C, bytesRow s C, (C, C + 1), rfl, Nat.le_refl _, ?_, fun j hj => ?_, hc, hs, by rw [hsz]; exact Nat.le_refl _, ?_⟩
  · show (w.heap.push _)[w.heap.size]? = _
    rw [Array.getElem?_push_size]
  · have : decide (C ≤ j) = false := by simpa using hj
    rw [this]; rfl
  · unfold bytesRow
    rw [Array.toList_append, List.take_append_of_le_length (by rw [Array.length_toList, Array.size_map, hds]; exact Nat.le_refl _), List.take_of_length_le (by rw [Array.length_toList, Array.size_map, hds]; exact Nat.le_refl _), Array.toList_map]
    rfl
end Go.Proofs.YtlodcjpoamaemaaDoor
