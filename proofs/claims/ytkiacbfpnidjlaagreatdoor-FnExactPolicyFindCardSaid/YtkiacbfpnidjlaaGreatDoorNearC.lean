/- impl.CallNear: the near calls of a policy that is ok, but not more than 600. -/
import Derived.Test.YtkiacbfpnidjlaaGreatDoorNearI
import Derived.Test.YtkiacbfpnidjlaaGreatDoorPolK
import Derived.Test.YtkiacbfpnidjlaaGreatDoorMarks
namespace Go.Proofs.YtkiacbfpnidjlaaGreatDoor
open Go.RowKit Go.Shelf
set_option linter.unusedSimpArgs false
set_option linter.unusedVariables false
attribute [local go_sem] Oper.semAt_some

theorem info_Call : (Tryz.prog.info? 28).map (fun i => (i.zero, i.size, i.bytes)) = some (some (.agg #[.int .i64 0, .slice none 0 0]), 2, 32) := by kernel_rfl
theorem own_grownN {W W' : World} {base n size : Nat} {t : TypeId} {v : Value} {xs : List Value} {row : Option Nat} (ho : W.ownsRow base t size v n xs) (hg : W.grownBy W' row) (hne : ∀ r, row = some r → v.ownBlock ≠ some r) : W'.ownsRow base t size v n xs := by
  refine ⟨ho.1, ?_⟩
  rcases ho.2 with h0 | ⟨g, cap, cur, e, hge, hh, rest⟩
  · exact .inl h0
  · refine .inr ⟨g, cap, cur, e, hge, (hg.block g (Array.getElem?_eq_some_iff.1 hh).1 (fun e2 => hne g e2.symm (by rw [e]; rfl))).trans hh, rest⟩
theorem own_typeN {W : World} {base n size r : Nat} {t : TypeId} {v : Value} {xs : List Value} (ho : W.ownsRow base t size v n xs) (hr : ∀ cs fr, W.heap[r]? ≠ some (.cells cs t fr)) : v.ownBlock ≠ some r := by
  rcases ho.2 with ⟨rfl, _⟩ | ⟨g, cap, cur, rfl, _, hh, _⟩
  · intro e; cases e
  · intro e; cases e; exact hr _ _ hh
theorem two_src (W : World) (t : TypeId) (a b : Value) : ∀ (j : Nat) (u : Value), ([a, b])[j]? = some u → (W.alloc (.cells #[a, b] t)).cell? ((⟨W.heap.size, 0, none⟩ : Addr).add j) = some u := fun j u hu => by
  rw [add_at, (Blk.new W t #[a, b]).cell j]
  simpa using hu
/-- A row of calls of the call's own. -/
structure CallsRow (W : World) (base : Nat) (v : Value) (xs : List NItem) : Prop where
  row : W.ownsRow base 28 2 v xs.length (xs.map fun x => [Value.int .i64 x.c.num, x.args]).flatten
  args : ∀ x ∈ xs, x.c.args.length = 4 ∧ W.ownsRow base 3 1 x.args 4 (ints x.c.args).flatten
  up : xs.Pairwise (fun x y => x.g < y.g)
theorem CallsRow.nil (W : World) (base : Nat) : CallsRow W base (.slice none 0 0) [] := ⟨World.ownsRow_nil _ _ _ _, fun x h => by simp at h, .nil⟩
theorem CallsRow.grown {W W' : World} {base : Nat} {v : Value} {xs : List NItem} {row : Option Nat} (h : CallsRow W base v xs) (hg : W.grownBy W' row) (hr : ∀ r, row = some r → ∀ cs fr, W.heap[r]? ≠ some (.cells cs 28 fr) ∧ W.heap[r]? ≠ some (.cells cs 3 fr)) : CallsRow W' base v xs :=
  ⟨own_grownN h.row hg (fun r e => own_typeN h.row (fun cs fr => (hr r e cs fr).1)), fun x hx => ⟨(h.args x hx).1, own_grownN (h.args x hx).2 hg (fun r e => own_typeN (h.args x hx).2 (fun cs fr => (hr r e cs fr).2))⟩, h.up⟩
theorem CallsRow.lt {W : World} {base : Nat} {v : Value} {xs : List NItem} (h : CallsRow W base v xs) {x : NItem} (hx : x ∈ xs) : x.g < W.heap.size := ((h.args x hx).2.lt x.g rfl).2

def NearPost (p : Pol) (w : World) (e : Ending) (w' : World) : Prop := ∃ v xs, e = .returned v ∧ CallsRow w' w.heap.size v xs ∧ (polOkB p = true → NearIs (nearWs p.rules) 600 (xs.map NItem.c)) ∧ (polOkB p = false → xs = []) ∧ Below w.heap.size w w'

/-- What a round has gathered. -/
structure NearG (w : World) (cb : Nat) (pre : List NItem) (W : World) : Prop where
  box : ∃ v, Blk W cb 42 #[v] ∧ CallsRow W w.heap.size v pre
  below : Below w.heap.size w W
  few : pre.length ≤ 600
theorem NearG.own {w : World} {cb B : Nat} (hcb : w.heap.size ≤ cb) (hB : w.heap.size ≤ B) : OwnM B 72 (NearG w cb) := fun s W W' row hs hg hr => by
  obtain ⟨⟨v, hb, hv⟩, hbl, hf⟩ := hs
  refine ⟨⟨v, hb.grown hg (fun e => ?_), hv.grown hg (fun r e cs fr => ?_)⟩, hbl.grown hg hbl.size (fun r e => ?_), hf⟩
  · rcases hr cb e.symm with ⟨_, cs, fr, h⟩ | ⟨_, o, h, hc⟩
    · have := hb.symm.trans h; cases this
    · have := hb.symm.trans h; cases this; cases hc
  · rcases hr r e with ⟨_, cs', fr', h⟩ | ⟨_, o, h, hc⟩
    · rw [h]
      refine ⟨fun e2 => ?_, fun e2 => ?_⟩ <;> cases e2
    · rw [h]
      refine ⟨fun e2 => ?_, fun e2 => ?_⟩ <;> (cases e2; cases hc)
  · rcases hr r e with ⟨h, _⟩ | ⟨h, _⟩ <;> omega
theorem CallsRow.app {base : Nat} {W W2 : World} {v v2 : Value} {xs : List NItem} {x : NItem} (h : CallsRow W base v xs) (hl : x.c.args.length = 4) (hx : W.ownsRow base 3 1 x.args 4 (ints x.c.args).flatten) (hup : ∀ y ∈ xs, y.g < x.g) (hg : W.grownBy W2 v.ownBlock)
    (ho : W2.ownsRow base 28 2 v2 (xs.length + 1) ((xs.map fun x => [Value.int .i64 x.c.num, x.args]).flatten ++ [.int .i64 x.c.num, x.args])) : CallsRow W2 base v2 (xs ++ [x]) := by
  have hk : ∀ (v3 : Value) (n : Nat) (ys : List Value), W.ownsRow base 3 1 v3 n ys → W2.ownsRow base 3 1 v3 n ys := fun v3 n ys h3 => own_grownN h3 hg (fun r e => by
    rcases h.row.2 with ⟨rfl, _⟩ | ⟨g, cap, cur, rfl, _, hh, _⟩
    · cases e
    · cases e
      exact own_typeN h3 (fun cs fr e2 => by rw [hh] at e2; cases e2))
  refine ⟨by simpa using ho, fun y hy => ?_, ?_⟩
  · rcases List.mem_append.1 hy with hy | hy
    · exact ⟨(h.args y hy).1, hk _ _ _ (h.args y hy).2⟩
    · rw [List.mem_singleton] at hy; subst hy; exact ⟨hl, hk _ _ _ hx⟩
  · rw [List.pairwise_append]
    exact ⟨h.up, by simp, fun a ha b hb => by rw [List.mem_singleton] at hb; subst hb; exact hup a ha⟩
theorem polOk_rulesN {p : Pol} (h : polOkB p = true) : ∀ r ∈ p.rules, ruleOkB r = true := by
  unfold polOkB polShapeB at h
  simp only [Bool.and_eq_true] at h
  exact List.all_eq_true.1 h.1.2
theorem polOk_bounds {p : Pol} (hok : polOkB p = true) : p.rules.length ≤ 8 ∧ (∀ r ∈ p.rules, r.tests.length ≤ 4) ∧ ∀ r ∈ p.rules, (0 ≤ r.low ∧ r.low ≤ 4294967295) ∧ (0 ≤ r.high ∧ r.high ≤ 4294967295) ∧ ∀ t ∈ r.tests, 0 ≤ t.value ∧ t.value ≤ 4294967295 := by
  have hro := polOk_rulesN hok
  have h8 : p.rules.length ≤ 8 := by
    unfold polOkB polShapeB at hok
    simp only [Bool.and_eq_true, decide_eq_true_eq] at hok
    exact hok.1.1.1
  refine ⟨h8, fun r hr => ?_, fun r hr => ?_⟩
  all_goals
    have h := hro r hr
    unfold ruleOkB at h
    simp only [Bool.and_eq_true, decide_eq_true_eq] at h
  · exact h.1.2
  · obtain ⟨⟨⟨⟨h1, h2⟩, h3⟩, h4⟩, h5⟩ := h
    unfold inB at h2 h3
    simp only [Bool.and_eq_true, decide_eq_true_eq] at h2 h3
    refine ⟨⟨by omega, by omega⟩, ⟨by omega, by omega⟩, fun t ht => ?_⟩
    have := List.all_eq_true.1 h5 t ht
    unfold testOkB inB at this
    simp only [Bool.and_eq_true, decide_eq_true_eq] at this
    omega

end Go.Proofs.YtkiacbfpnidjlaaGreatDoor
