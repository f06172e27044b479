/- Rows that a call owns: an append turns the row's own block alone. -/
import Derived.Test.YtoibocaaeimplaaDoorGrown
namespace Go.Proofs.YtoibocaaeimplaaDoor
open Go.RowKit
set_option linter.unusedSimpArgs false
set_option linter.unusedVariables false

theorem own_ne_blk {w : World} {base b n c m k : Nat} {e t : TypeId} {size : Nat} {xs : List Value} {cs : Array Value} (h : w.ownsRow base e size (.slice (some ⟨b, 0, none⟩) n c) m xs) (hk : Blk w k t cs) (ht : t ≠ e) : b ≠ k := by
  rcases h.2 with ⟨h', _⟩ | ⟨g', cap', cur, h', _, hg, _⟩
  · simp at h'
  · simp only [Value.slice.injEq, Option.some.injEq, Addr.mk.injEq, and_true, true_and] at h'
    obtain ⟨rfl, _⟩ := h'
    intro eb
    subst eb
    have := hg.symm.trans hk
    exact ht (by injection this with h1; injection h1 with h2 h3; exact h3.symm)

/-- 'append(out, x)': only the row's own block has turned, and new ones are there. -/
theorem wpList_app1g {P : Program} {w0 : World} {ops : Array Oper} {rest : List Oper} {o : Oper} {a : Act} {Q : Exit → Act → World → Prop} {e2 : TypeId} {r : List Value} (hgd : o.guard = none) (s x : Operand) (t : TypeId)
    (ho : o.op = .call { callee := .builtin .append, args := #[s, x], argTypes := #[t, t] })
    (base : Nat) (e : TypeId) {z : Value} {size bytes : Nat} (ht : P.underlying t = some (.slice e)) (hinfo : (P.info? e).map (fun i => (i.zero, i.size, i.bytes)) = some (some z, size, bytes))
    (hzs : z.cells.size = size) (hsz : 0 < size) (hby : 0 < bytes)
    (v : Value) (n : Nat) (cs : List (List Value)) (hs : a.eval s = v) (hown : w0.ownsRow base e size v n cs.flatten)
    (hr : r.length = size) (h1 : ∀ u ∈ r, u.oneCell' = true) (hx : a.eval x = .slice (some ⟨w0.heap.size, 0, none⟩) 1 1)
    (hn : (n + 1) * bytes ≤ 140737488355328) (hbase : base ≤ w0.heap.size)
    (h : ∀ v' w', w'.ownsRow base e size v' (n + 1) (cs ++ [r]).flatten → w0.grownBy w' v.ownBlock → v' ≠ .slice none 0 0 → wpList P ops Q rest (a.put o.dst v') w') :
    wpList P ops Q (o :: rest) a (w0.alloc (.cells r.toArray e2)) := by
  obtain ⟨i0, hi0, hz0, hz1, hz2⟩ := info_parts hinfo
  have hn1 : n + 1 ≤ 140737488355328 := Nat.le_trans (Nat.le_mul_of_pos_right _ hby) hn
  refine wpList_append_own _ hgd s x t ho base e i0 z size bytes ht hi0 hz0 hz1 hz2 hzs hsz v n cs.flatten hs (hown.alloc _) ⟨w0.heap.size, 0, none⟩ 1 1 r hx (by omega) (fun j u hu => ?_) h1 (by unfold maxLen; omega) hn
    (by simp; omega) (fun v' w' hown' hg hv => h v' w' (by simpa using hown') ?_ (fun e => by have := (hv.1 e).2; omega))
  · rw [add_at, cell_of_row _ _ _ r.toArray e2 (0, 0) (heap_alloc_new w0 _)]
    simpa using hu
  · exact (World.grownBy_alloc w0 _ _).trans hg

/-- 'append(out, x)' inside a region, where a call stands behind the draw: only the row's own block has turned. -/
theorem step_app0g {P : Program} {w0 : World} {ops : Array Oper} {o : Oper} {a : Act} {K : Act → World → Prop} {Q : Exit → Act → World → Prop} {E : Prop} {e2 : TypeId} {r : List Value} (hgd : o.guard = none) (s x : Operand) (t : TypeId)
    (ho : o.op = .call { callee := .builtin .append, args := #[s, x], argTypes := #[t, t] })
    (base : Nat) (e : TypeId) {z : Value} {size bytes : Nat} (ht : P.underlying t = some (.slice e)) (hinfo : (P.info? e).map (fun i => (i.zero, i.size, i.bytes)) = some (some z, size, bytes))
    (hzs : z.cells.size = size) (hsz : 0 < size) (hby : 0 < bytes)
    (v : Value) (n : Nat) (cs : List (List Value)) (hs : a.eval s = v) (hown : w0.ownsRow base e size v n cs.flatten)
    (hr : r.length = size) (h1 : ∀ u ∈ r, u.oneCell' = true) (hx : a.eval x = .slice (some ⟨w0.heap.size, 0, none⟩) 1 1)
    (hn : (n + 1) * bytes ≤ 140737488355328) (hbase : base ≤ w0.heap.size)
    (h : ∀ v' w', w'.ownsRow base e size v' (n + 1) (cs ++ [r]).flatten → w0.grownBy w' v.ownBlock → v' ≠ .slice none 0 0 → K (a.put o.dst v') w') :
    if Region.wanted o (yielded ops a.tmps) = true then Oper.wp P o a (w0.alloc (.cells r.toArray e2)) K Q else E := by
  have hw : Region.wanted o (yielded ops a.tmps) = true := by simp [Region.wanted, hgd]
  rw [if_pos hw]
  obtain ⟨i0, hi0, hz0, hz1, hz2⟩ := info_parts hinfo
  have hn1 : n + 1 ≤ 140737488355328 := Nat.le_trans (Nat.le_mul_of_pos_right _ hby) hn
  refine wp_append_own _ s x t ho base e i0 z size bytes ht hi0 hz0 hz1 hz2 hzs hsz v n cs.flatten hs (hown.alloc _) ⟨w0.heap.size, 0, none⟩ 1 1 r hx (by omega) (fun j u hu => ?_) h1 (by unfold maxLen; omega) hn
    (by simp; omega) (fun v' w' hown' hg hv => h v' w' (by simpa using hown') ((World.grownBy_alloc w0 _ _).trans hg) (fun e => by have := (hv.1 e).2; omega))
  rw [add_at, cell_of_row _ _ _ r.toArray e2 (0, 0) (heap_alloc_new w0 _)]
  simpa using hu


end Go.Proofs.YtoibocaaeimplaaDoor
