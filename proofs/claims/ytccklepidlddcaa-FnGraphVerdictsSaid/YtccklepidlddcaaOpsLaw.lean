/- Single operations, by what their operands hold: no Go function is walked here. -/
import Derived.Test.YtccklepidlddcaaDrawPol2
import Derived.Test.YtccklepidlddcaaGraphMk
import Derived.Test.YtccklepidlddcaaTyped
import Derived.Shelf.Abstract
namespace Go.Proofs.Ytccklepidlddcaa
open Go.RowKit
set_option linter.unusedSimpArgs false
set_option linter.unusedVariables false

theorem pick_enters : Enters Try.prog 23 := enters_of Try.func23 (by kernel_rfl) rfl
theorem run_enter2 {P : Program} {ρ : Operand → Value} {o : Oper} (f : FuncId) (hE : Enters P f) (x y : Operand) (ts : Array TypeId) (h : o.op = .call { callee := .value (.func f), args := #[x, y], argTypes := ts }) (hf : ρ (.func f) = .func (.func f) #[] #[]) (w : World) : (execOp ρ o).run P w = .ok (.enter f #[ρ x, ρ y]) w := by
  unfold execOp; rw [h]; simp [go_sem, hf]; exact hE _ _
theorem run_build3 {ρ : Operand → Value} {o : Oper} (h : o.op = .buildSlice 25 3 #[(0, .const (.int .i64 4294967295)), (1, .const (.int .i64 3)), (2, .const (.int .i64 15))]) (hc : ∀ v, ρ (.const v) = v) (w : World) : (execOp ρ o).run Try.prog w = .ok (.value (.slice (some ⟨w.heap.size, 0, none⟩) 3 3)) (w.alloc (.cells #[.int .i64 4294967295, .int .i64 3, .int .i64 15] 3)) := by
  unfold execOp; rw [h]; simp [go_sem, hc]
theorem run_build2 {ρ : Operand → Value} {o : Oper} (h : o.op = .buildSlice 25 2 #[(0, .const (.int .i64 1)), (1, .const (.int .i64 3))]) (hc : ∀ v, ρ (.const v) = v) (w : World) : (execOp ρ o).run Try.prog w = .ok (.value (.slice (some ⟨w.heap.size, 0, none⟩) 2 2)) (w.alloc (.cells #[.int .i64 1, .int .i64 3] 3)) := by
  unfold execOp; rw [h]; simp [go_sem, hc]
theorem run_index {ρ : Operand → Value} {o : Oper} (x y : Operand) (b n k : Nat) (h : o.op = .indexAddr 25 x y) (hx : ρ x = .slice (some ⟨b, 0, none⟩) n n) (hy : ρ y = .int .i64 (k : Int)) (hk : k < n) (hn : n ≤ 100) (w : World) : (execOp ρ o).run Try.prog w = .ok (.value (.pointer (some ⟨b, k, none⟩))) w := by
  have h1 : (k : Int) < n := by omega
  unfold execOp; rw [h]; simp [go_sem, hx, hy, h1]
theorem run_load {ρ : Operand → Value} {o : Oper} (x : Operand) (b k : Nat) (m : Int) (h : o.op = .load 3 x) (hx : ρ x = .pointer (some ⟨b, k, none⟩)) (w : World) (hc : w.cell? ⟨b, k, none⟩ = some (.int .i64 m)) : (execOp ρ o).run Try.prog w = .ok (.value (.int .i64 m)) w := by
  unfold execOp; rw [h]; simp [go_sem, hx, hc]
theorem run_len {ρ : Operand → Value} {o : Oper} (x : Operand) (A : Option Addr) (n c : Nat) (h : o.op = .call { callee := .builtin .len, args := #[x], argTypes := #[23] }) (hx : ρ x = .slice A n c) (w : World) : (execOp ρ o).run Try.prog w = .ok (.value (.int .i64 n)) w := by
  unfold execOp; rw [h]; simp [go_sem, hx]
theorem run_buildPt {ρ : Operand → Value} {o : Oper} (a b c d e f : Operand) (x : Pt) (h : o.op = .build 40 #[(1, a), (2, b), (3, c), (4, d), (5, e), (6, f)]) (ha : ρ a = .int .i64 x.field) (hb : ρ b = .int .i64 x.mask) (hc : ρ c = .int .i64 x.op) (hd : ρ d = .int .i64 x.value) (he : ρ e = .int .i64 x.yes) (hf : ρ f = .int .i64 x.no) (w : World) : (execOp ρ o).run Try.prog w = .ok (.value (.agg #[.int .i64 0, .int .i64 x.field, .int .i64 x.mask, .int .i64 x.op, .int .i64 x.value, .int .i64 x.yes, .int .i64 x.no])) w := by
  unfold execOp; rw [h]; simp [go_sem, ha, hb, hc, hd, he, hf]
theorem run_allocPt {ρ : Operand → Value} {o : Oper} (h : o.op = .alloc 40) (w : World) : (execOp ρ o).run Try.prog w = .ok (.value (.pointer (some ⟨w.heap.size, 0, none⟩))) (w.alloc (.cells #[.int .i64 0, .int .i64 0, .int .i64 0, .int .i64 0, .int .i64 0, .int .i64 0, .int .i64 0] 40)) := by
  unfold execOp; rw [h]; simp [go_sem]
theorem run_storePt {ρ : Operand → Value} {o : Oper} (p q : Operand) (b : Nat) (x y : Pt) (h : o.op = .store 40 p q) (hp : ρ p = .pointer (some ⟨b, 0, none⟩)) (hq : ρ q = .agg #[.int .i64 y.verdict, .int .i64 y.field, .int .i64 y.mask, .int .i64 y.op, .int .i64 y.value, .int .i64 y.yes, .int .i64 y.no]) (w : World)
    (hb : Blk w b 40 #[.int .i64 x.verdict, .int .i64 x.field, .int .i64 x.mask, .int .i64 x.op, .int .i64 x.value, .int .i64 x.yes, .int .i64 x.no]) : (execOp ρ o).run Try.prog w = .ok .skip (((((((w.setCell ⟨b, 0, none⟩ (.int .i64 y.verdict)).setCell ⟨b, 1, none⟩ (.int .i64 y.field)).setCell ⟨b, 2, none⟩ (.int .i64 y.mask)).setCell ⟨b, 3, none⟩ (.int .i64 y.op)).setCell ⟨b, 4, none⟩ (.int .i64 y.value)).setCell ⟨b, 5, none⟩ (.int .i64 y.yes)).setCell ⟨b, 6, none⟩ (.int .i64 y.no)) := by
  have c0 := (show _ = some (Value.int .i64 x.verdict) from hb.cell 0); have c1 := (show _ = some (Value.int .i64 x.field) from hb.cell 1); have c2 := (show _ = some (Value.int .i64 x.mask) from hb.cell 2); have c3 := (show _ = some (Value.int .i64 x.op) from hb.cell 3); have c4 := (show _ = some (Value.int .i64 x.value) from hb.cell 4); have c5 := (show _ = some (Value.int .i64 x.yes) from hb.cell 5); have c6 := (show _ = some (Value.int .i64 x.no) from hb.cell 6)
  have f0 := hb.frozen 0; have f1 := hb.frozen 1; have f2 := hb.frozen 2; have f3 := hb.frozen 3; have f4 := hb.frozen 4; have f5 := hb.frozen 5; have f6 := hb.frozen 6
  unfold execOp; rw [h]; simp [go_sem, hp, hq, c0, c1, c2, c3, c4, c5, c6, f0, f1, f2, f3, f4, f5, f6]

theorem wp_run {P : Program} {Q : Exit → Act → World → Prop} {o : Oper} {a : Act} {w w' : World} {K : Act → World → Prop} {v : Value} (h : (execOp a.eval o).run P w = .ok (.value v) w') (hk : K (a.put o.dst v) w') : o.wp P a w K Q := by
  unfold Oper.wp; rw [h]; exact hk
theorem wp_run_skip {P : Program} {Q : Exit → Act → World → Prop} {o : Oper} {a : Act} {w w' : World} {K : Act → World → Prop} (h : (execOp a.eval o).run P w = .ok .skip w') (hk : K (a.put o.dst undef) w') : o.wp P a w K Q := by
  unfold Oper.wp; rw [h]; exact hk
theorem wp_move {P : Program} {Q : Exit → Act → World → Prop} {o : Oper} {a : Act} {w : World} {K : Act → World → Prop} (x : Operand) (h : o.op = .move x) (hk : K (a.put o.dst (a.eval x)) w) : o.wp P a w K Q := by
  unfold Oper.wp; rw [BigFrame.run_move x h]; exact hk
theorem wp_pick {Q : Exit → Act → World → Prop} {o : Oper} {a : Act} {w : World} {K : Act → World → Prop} (x y : Operand) (ts : Array TypeId) (h : o.op = .call { callee := .value (.func 23), args := #[x, y], argTypes := ts })
    (hc : Calls Try.prog 23 #[a.eval x, a.eval y] w fun e w'' => ∃ v, e = .returned v ∧ K (a.put o.dst v) w'') : o.wp Try.prog a w K Q := by
  unfold Oper.wp; rw [run_enter2 _ pick_enters x y ts h rfl]
  exact hc.mono fun e w'' ⟨v, e1, e2⟩ => by subst e1; exact e2
theorem blk_ne {w : World} {h h' : Nat} {t t' : TypeId} {cs cs' : Array Value} (a : Blk w h t cs) (b : Blk w h' t' cs') (ht : t ≠ t') : h ≠ h' := fun e => by
  subst e
  have := (show w.heap[h]? = _ from a).symm.trans b
  exact ht (by injection this with h1; injection h1 with h2 h3)
theorem act_ext {a b : Act} (hs : a.tmps.size = b.tmps.size) (hd : a.defers = b.defers) (h : ∀ t, t < a.tmps.size → a.eval (.tmp t) = b.eval (.tmp t)) : a = b := by
  obtain ⟨at_, ad⟩ := a
  obtain ⟨bt, bd⟩ := b
  simp only at hs hd h
  subst hd
  have : at_ = bt := Array.ext hs fun i h1 h2 => by
    have := h i h1
    simpa [Act.eval, h1, h2] using this
  rw [this]
theorem fold_eval (a : Act) : ∀ (ds : List Nat) (b : Act), (∀ d ∈ ds, d < b.tmps.size) → (ds.foldl (fun b d => b.put (some d) (a.eval (.tmp d))) b).tmps.size = b.tmps.size ∧ (ds.foldl (fun b d => b.put (some d) (a.eval (.tmp d))) b).defers = b.defers ∧ ∀ t, (ds.foldl (fun b d => b.put (some d) (a.eval (.tmp d))) b).eval (.tmp t) = if t ∈ ds then a.eval (.tmp t) else b.eval (.tmp t)
  | [], b, _ => ⟨rfl, rfl, fun t => by simp⟩
  | d :: ds, b, h => by
    obtain ⟨h1, h2, h3⟩ := fold_eval a ds (b.put (some d) (a.eval (.tmp d))) (fun x hx => by rw [put_size]; exact h x (by simp [hx]))
    refine ⟨by rw [List.foldl_cons, h1, put_size], by rw [List.foldl_cons, h2, put_defers], fun t => ?_⟩
    rw [List.foldl_cons, h3]
    by_cases e1 : t ∈ ds
    · rw [if_pos e1, if_pos (by simp [e1])]
    · rw [if_neg e1]
      by_cases e2 : t = d
      · subst e2
        rw [eval_put_self (h t (by simp)), if_pos (by simp)]
      · rw [Act.eval_put (fun d' e' => by cases e'; intro e3; injection e3 with e4; exact e2 e4), if_neg (by simp [e1, e2])]
/-- The frame behind such a region. -/
theorem TInv.lit {ops : Array Oper} {a0 : Act} {T : Nat → World → Value → Prop} {listed : Array Bool} {a : Act} {w : World} (hI : TInv ops a0 T listed a w) (ds : List Nat) (hc : (ops.all fun o => match o.dst with | none => true | some d => ds.contains d) = true) (hl : (ds.all fun d => decide (d < a0.tmps.size)) = true) :
    a = ds.foldl (fun b d => b.put (some d) (a.eval (.tmp d))) a0 := by
  obtain ⟨h1, h2, h3⟩ := fold_eval a ds a0 (fun d hd => by simpa using List.all_eq_true.1 hl d hd)
  refine act_ext (by rw [h1, hI.sz]) (by rw [h2, hI.df]) fun t _ => ?_
  rw [h3]
  by_cases e : t ∈ ds
  · rw [if_pos e]
  · rw [if_neg e]
    refine hI.old t ?_
    rw [Array.all_eq_true_iff_forall_mem] at hc ⊢
    intro o ho
    have := hc o ho
    cases hd : o.dst with
    | none => rfl
    | some d =>
      rw [hd] at this
      simp only [List.contains_iff_mem] at this
      simp only [Bool.not_eq_true', decide_eq_false_iff_not]
      intro e2
      subst e2
      exact e this
end Go.Proofs.Ytccklepidlddcaa
