/- A region that draws its order, each operation of which yields one and the same value in every world that meets I (guards and calls that make memory among them): it is walked once, in the text's order. No Go function is walked here. -/
import Derived.Test.YtaieopdfkapgdaaDoorTypedG
namespace Go.Proofs.YtaieopdfkapgdaaDoor
open Go.RowKit
set_option linter.unusedSimpArgs false
set_option linter.unusedVariables false

/-- The end of one operation: the frame is this one, whatever the world; the world meets I. -/
def FixEnd (d : List Deferred) (a : Act) (I : World → Prop) : Exit → Act → World → Prop
  | .normal, a', w' => a' = a ∧ a'.defers = d ∧ I w'
  | _, _, _ => False
def wpFx (P : Program) (ops : Array Oper) (I : World → Prop) (Q : Exit → Act → World → Prop) (d : List Deferred) : List Oper → Act → Prop
  | [], a => ∀ w, I w → Q .normal a w
  | o :: rest, a => ∃ a1, (∀ w, I w → wpList P ops (FixEnd d a1 I) [o] a w) ∧ wpFx P ops I Q d rest a1
theorem fix_put {P : Program} {ops : Array Oper} {I : World → Prop} {o : Oper} {a a1 : Act} {d : List Deferred} {w : World} (hd : a.defers = d) (h : wpList P ops (FixEnd d a1 I) [o] a w) : ∃ v, a1 = a.put o.dst v := by
  have hLO : ¬ LetsOut (FixEnd d a1 I) := fun ⟨_, _, h⟩ => h
  unfold wpList at h
  by_cases hw : Region.wanted o (yielded ops a.tmps) = true
  · rw [if_pos hw] at h
    rcases h with h | ⟨_, h⟩
    · unfold Oper.wp at h
      generalize (execOp a.eval o).run P w = r at h
      cases r with
      | ok n w' =>
        cases n <;> simp only [Oper.upon, wpList] at h
        case value u => exact ⟨u, h.1.symm⟩
        case skip => exact ⟨undef, h.1.symm⟩
        case defer x =>
          have h2 := congrArg List.length h.2.1
          rw [put_defersG, ← hd] at h2
          simp at h2
        case enter f args =>
          obtain ⟨e, w', fr, h, -⟩ := h []
          cases e with
          | returned u => exact ⟨u, h.1.symm⟩
          | panicked c => exact h.elim
          | outgrown => exact absurd h hLO
        case row row args =>
          obtain ⟨u, w', h, -⟩ := h (Frame.enter P 0 #[] .normal) []
          exact ⟨u, h.1.symm⟩
      | halt x w' =>
        cases x <;> simp only [Oper.upon] at h
        case panic u => exact h.elim
    · exact absurd h hLO
  · rw [if_neg hw] at h
    exact ⟨undef, h.1.symm⟩
/-- The frame behind some operations. -/
def putAll : List Oper → List Value → Act → Act
  | o :: l, v :: vs, a => putAll l vs (a.put o.dst v)
  | _, _, a => a

theorem putAll_size : ∀ (l : List Oper) (vs : List Value) (a : Act), (putAll l vs a).tmps.size = a.tmps.size
  | [], _, _ => by unfold putAll; rfl
  | _ :: _, [], _ => rfl
  | o :: l, v :: vs, a => by rw [putAll, putAll_size l vs, put_sizeG]
theorem putAll_defers : ∀ (l : List Oper) (vs : List Value) (a : Act), (putAll l vs a).defers = a.defers
  | [], _, _ => by unfold putAll; rfl
  | _ :: _, [], _ => rfl
  | o :: l, v :: vs, a => by rw [putAll, putAll_defers l vs, put_defersG]
theorem putAll_out {t : Nat} : ∀ (l : List Oper) (vs : List Value) (a : Act), (∀ (k : Nat) (o : Oper), l[k]? = some o → o.dst ≠ some t) → (putAll l vs a).eval (.tmp t) = a.eval (.tmp t)
  | [], _, _, _ => by unfold putAll; rfl
  | _ :: _, [], _, _ => rfl
  | o :: l, v :: vs, a, h => by
    rw [putAll, putAll_out l vs _ (fun k o' ho => h (k + 1) o' (by simpa using ho)), Act.eval_put]
    intro d hd e
    injection e with e
    subst e
    exact h 0 o rfl hd
theorem putAll_at {t : Nat} {o : Oper} {v : Value} : ∀ (l : List Oper) (vs : List Value) (a : Act) (j : Nat), l[j]? = some o → o.dst = some t → t < a.tmps.size → vs[j]? = some v → (∀ (k : Nat) (o' : Oper), l[k]? = some o' → o'.dst = some t → k = j) → (putAll l vs a).eval (.tmp t) = v
  | [], _, _, j, h, _, _, _, _ => by simp at h
  | _ :: _, [], _, j, _, _, _, h, _ => by simp at h
  | o1 :: l, v1 :: vs, a, 0, h, hd, ht, hv, hu => by
    simp at h hv
    subst h; subst hv
    rw [putAll, putAll_out l vs _ (fun k o' ho e => by have := hu (k + 1) o' (by simpa using ho) e; omega), hd, eval_put_selfG ht]
  | o1 :: l, v1 :: vs, a, j + 1, h, hd, ht, hv, hu => by
    rw [putAll]
    exact putAll_at l vs _ j (by simpa using h) hd (by rw [put_sizeG]; exact ht) (by simpa using hv) (fun k o' ho e => by have := hu (k + 1) o' (by simpa using ho) e; omega)

theorem wpFx_get {P : Program} {ops : Array Oper} {I : World → Prop} {Q : Exit → Act → World → Prop} {d : List Deferred} {w0 : World} (hI0 : I w0) : ∀ (l : List Oper) (a : Act), a.defers = d → wpFx P ops I Q d l a →
    ∃ vs : List Value, vs.length = l.length ∧ (∀ (i : Nat) (o : Oper) (v : Value), l[i]? = some o → vs[i]? = some v → ∀ w, I w → wpList P ops (FixEnd d ((putAll (l.take i) (vs.take i) a).put o.dst v) I) [o] (putAll (l.take i) (vs.take i) a) w) ∧ ∀ w, I w → Q .normal (putAll l vs a) w
  | [], a, _, h => ⟨[], rfl, fun i o v ho => by simp at ho, h⟩
  | o :: l, a, hd, ⟨a1, h1, h2⟩ => by
    obtain ⟨v, rfl⟩ := fix_put hd (h1 w0 hI0)
    obtain ⟨vs, e, h3, h4⟩ := wpFx_get hI0 l _ (by rw [put_defersG]; exact hd) h2
    refine ⟨v :: vs, by simp [e], fun i o' v' ho hv => ?_, h4⟩
    cases i with
    | zero =>
      simp at ho hv
      subst ho; subst hv
      exact h1
    | succ i =>
      simp only [List.take_succ_cons, putAll]
      exact h3 i o' v' (by simpa using ho) (by simpa using hv)

def notSelect : Op → Bool
  | .select _ _ => false
  | _ => true
/-- Each slot is written once; what an operation looks at is written ahead of it by one that it waits for. -/
def tidyF (ops : Array Oper) (n : Nat) : Bool :=
  tidyG ops n && (List.range ops.size).all fun i => match ops[i]? with
    | none => true
    | some o => notSelect o.op && (o.looksAt ops).all fun t => (List.range ops.size).all fun j => match ops[j]? with
      | none => true
      | some o' => !decide (o'.dst = some t) || o.after.toList.any fun e => decide (e.on = j) && Region.binds .any e
theorem tidyF_spec {ops : Array Oper} {n : Nat} (h : tidyF ops n = true) {i : Nat} {o : Oper} (ho : ops[i]? = some o) :
    (∀ cs b, o.op ≠ .select cs b) ∧ ∀ t ∈ o.looksAt ops, ∀ (j : Nat) (o' : Oper), ops[j]? = some o' → o'.dst = some t → ∃ e ∈ o.after, e.on = j ∧ Region.binds .any e = true := by
  have hi := (Array.getElem?_eq_some_iff.1 ho).1
  unfold tidyF at h
  rw [Bool.and_eq_true, List.all_eq_true] at h
  have h1 := h.2 i (List.mem_range.2 hi)
  rw [ho] at h1
  simp only [Bool.and_eq_true, List.all_eq_true] at h1
  refine ⟨fun cs b e => by rw [e] at h1; simp [notSelect] at h1, fun t ht j o' hj hd => ?_⟩
  have h2 := h1.2 t ht j (List.mem_range.2 (Array.getElem?_eq_some_iff.1 hj).1)
  rw [hj] at h2
  simp only [hd, decide_true, Bool.not_true, Bool.false_or, List.any_eq_true, Bool.and_eq_true, decide_eq_true_eq] at h2
  obtain ⟨e, he, h3, h4⟩ := h2
  exact ⟨e, by simpa using he, h3, h4⟩

theorem act_extF {a b : Act} (hs : a.tmps.size = b.tmps.size) (hd : a.defers = b.defers) (h : ∀ t, t < a.tmps.size → a.eval (.tmp t) = b.eval (.tmp t)) : a = b := by
  obtain ⟨at_, ad⟩ := a
  obtain ⟨bt, bd⟩ := b
  simp only at hs hd h
  subst hd
  have : at_ = bt := Array.ext hs fun i h1 h2 => by
    have := h i h1
    simpa [Act.eval, h1, h2] using this
  rw [this]
theorem wanted_congrF {ops : Array Oper} {o : Oper} {a b : Act} (hs : a.tmps.size = b.tmps.size) (h : ∀ t ∈ o.looksAt ops, a.eval (.tmp t) = b.eval (.tmp t)) : Region.wanted o (yielded ops a.tmps) = Region.wanted o (yielded ops b.tmps) := by
  unfold Region.wanted
  cases hg : o.guard with
  | none => rfl
  | some gw =>
    obtain ⟨g, want⟩ := gw
    have hy : yielded ops a.tmps g = yielded ops b.tmps g := by
      unfold yielded
      cases ht : (ops[g]?).bind (·.dst) with
      | none => rfl
      | some t =>
        have h1 := h t (by simp [Oper.looksAt, hg, ht])
        have h2 : a.tmps[t]? = b.tmps[t]? := by
          by_cases hlt : t < a.tmps.size
          · have hlt2 : t < b.tmps.size := hs ▸ hlt
            rw [Array.getElem?_eq_getElem hlt, Array.getElem?_eq_getElem hlt2]
            have : a.tmps.getD t undef = b.tmps.getD t undef := h1
            simpa [Array.getD, hlt, hlt2] using this
          · have hlt2 : ¬ t < b.tmps.size := hs ▸ hlt
            rw [Array.getElem?_eq_none (Nat.le_of_not_lt hlt), Array.getElem?_eq_none (Nat.le_of_not_lt hlt2)]
        simp [h2]
    simp only [hy]

theorem wp_region_fixedA {P : Program} {id : Nat} {ops : Array Oper} {Q : Exit → Act → World → Prop} {w : World} (a0 : Act) (I : World → Prop) (hm : P.follows .mixedOrders = true) (ht : tidyF ops a0.tmps.size = true) (hI : I w.drew)
    (h : wpFx P ops I Q a0.defers ops.toList a0) : (Code.region id ops true).wp P Q a0 w := by
  have htG : tidyG ops a0.tmps.size = true := by unfold tidyF at ht; rw [Bool.and_eq_true] at ht; exact ht.1
  obtain ⟨vs, hvl, hst, hend⟩ := wpFx_get hI _ _ rfl h
  have hlen : vs.length = ops.size := by rw [hvl, Array.length_toList]
  have hop : ∀ (i : Nat) (o : Oper), ops.toList[i]? = some o ↔ ops[i]? = some o := fun i o => by rw [Array.getElem?_toList]
  have hat : ∀ (i d : Nat) (o : Oper) (v : Value), ops[i]? = some o → o.dst = some d → vs[i]? = some v → (putAll ops.toList vs a0).eval (.tmp d) = v := fun i d o v ho hd hv => by
    obtain ⟨hdn, hdu⟩ := (tidyG_spec htG ho).2 d hd
    exact putAll_at (o := o) _ _ _ i ((hop i o).2 ho) hd hdn hv (fun k o' hk e => hdu k o' ((hop k o').1 hk) e)
  have hout : ∀ t : Nat, (ops.all fun o => match o.dst with | none => true | some d => !decide (d = t)) = true → (putAll ops.toList vs a0).eval (.tmp t) = a0.eval (.tmp t) := fun t h => by
    refine putAll_out _ _ _ fun k o hk e => ?_
    rw [Array.all_eq_true_iff_forall_mem] at h
    have := h o (Array.mem_of_getElem? ((hop k o).1 hk))
    rw [e] at this
    simp at this
  have hsome : ∀ t : Nat, (ops.all fun o => match o.dst with | none => true | some d => !decide (d = t)) = true ∨ ∃ (j : Nat) (o : Oper), ops[j]? = some o ∧ o.dst = some t := fun t => by
    by_cases hx : ∃ (j : Nat) (o : Oper), ops[j]? = some o ∧ o.dst = some t
    · exact .inr hx
    · refine .inl ?_
      rw [Array.all_eq_true_iff_forall_mem]
      intro o ho
      obtain ⟨j, hj⟩ := Array.getElem?_of_mem ho
      cases hd : o.dst with
      | none => rfl
      | some d =>
        simp only [Bool.not_eq_true', decide_eq_false_iff_not]
        intro e
        subst e
        exact hx ⟨j, o, hj, hd⟩
  refine wp_region_typedG a0 (fun i _ u => ∀ (o : Oper) (d : Nat), ops[i]? = some o → o.dst = some d → u = (putAll ops.toList vs a0).eval (.tmp d)) (fun _ w => I w) hm htG hI ?_ ?_
  · intro i o listed a w k K ho hG hk hIw hdep hK
    have hi := (Array.getElem?_eq_some_iff.1 ho).1
    obtain ⟨hns, hlk⟩ := tidyF_spec ht ho
    obtain ⟨haf, hds⟩ := tidyG_spec htG ho
    have hil : i < vs.length := by omega
    have hv : vs[i]? = some vs[i] := List.getElem?_eq_getElem hil
    have hrun := hst i o _ ((hop i o).2 ho) hv w hIw
    generalize hav : vs[i] = v at hv hrun
    generalize hai : putAll (ops.toList.take i) (vs.take i) a0 = ai at hrun
    have hsz : ai.tmps.size = a0.tmps.size := by rw [← hai, putAll_size]
    have hdf : ai.defers = a0.defers := by rw [← hai, putAll_defers]
    have agree : ∀ t ∈ o.looksAt ops, a.eval (.tmp t) = ai.eval (.tmp t) := fun t htk => by
      rcases hsome t with hno | ⟨j, oj, hj, hjd⟩
      · rw [hG.old t hno, ← hai, putAll_out]
        intro k o' hk e
        rw [Array.all_eq_true_iff_forall_mem] at hno
        have h1 : ops.toList[k]? = some o' := by
          rw [List.getElem?_take] at hk
          split at hk
          · exact hk
          · simp at hk
        have := hno o' (Array.mem_of_getElem? ((hop k o').1 h1))
        rw [e] at this
        simp at this
      · obtain ⟨e, he, h1, h2⟩ := hlk t htk j oj hj hjd
        have hlst := hdep e he h2
        rw [h1] at hlst
        have hji : j < i := by rw [← h1]; exact haf e he
        have hjl : j < vs.length := by omega
        have hjv : vs[j]? = some vs[j] := List.getElem?_eq_getElem hjl
        rw [hG.new j oj t hj hlst hjd oj t hj hjd, hat j t oj _ hj hjd hjv, ← hai]
        obtain ⟨hdn, hdu⟩ := (tidyG_spec htG hj).2 t hjd
        refine (putAll_at (o := oj) _ _ _ j ?_ hjd hdn ?_ fun k o' hk e' => ?_).symm
        · rw [List.getElem?_take, if_pos hji]; exact (hop j oj).2 hj
        · rw [List.getElem?_take, if_pos hji]; exact hjv
        · rw [List.getElem?_take] at hk
          split at hk
          · exact hdu k o' ((hop k o').1 hk) e'
          · simp at hk
    have hex : execOp a.eval o = execOp ai.eval o := execOp_congr o hns fun x hx => by
      cases x with
      | tmp t => exact agree t (by unfold Oper.looksAt; exact List.mem_append_left _ (List.mem_filterMap.2 ⟨.tmp t, by simpa using hx, rfl⟩))
      | _ => rfl
    have hwt : Region.wanted o (yielded ops a.tmps) = Region.wanted o (yielded ops ai.tmps) := wanted_congrF (by rw [hG.sz, hsz]) agree
    have done : ∀ (u : Value) (w' : World), ai.put o.dst u = ai.put o.dst v → I w' → K (a.put o.dst u) w' := fun u w' e hI' => by
      refine hK u w' hI' (fun _ _ h => h) fun hne o2 d ho2 hd2 => ?_
      obtain rfl := Option.some.inj (ho.symm.trans ho2)
      have hdn := (hds d hd2).1
      rw [hat i d o v ho hd2 hv]
      have := congrArg (fun x : Act => x.eval (.tmp d)) e
      simp only [hd2] at this
      have hdn2 : d < ai.tmps.size := by rw [hsz]; exact hdn
      rwa [eval_put_selfG hdn2, eval_put_selfG hdn2] at this
    have hLO : ∀ x, ¬ LetsOut (FixEnd a0.defers x I) := fun x ⟨_, _, h⟩ => h
    rw [hwt]
    unfold wpList at hrun
    by_cases hw : Region.wanted o (yielded ops ai.tmps) = true
    · rw [if_pos hw] at hrun ⊢
      rcases hrun with hrun | ⟨_, hrun⟩
      · unfold Oper.wp at hrun ⊢
        rw [hex]
        generalize (execOp ai.eval o).run P w = r at hrun ⊢
        cases r with
        | ok n w' =>
          cases n <;> simp only [Oper.upon, wpList] at hrun ⊢
          case value u => exact done u w' hrun.1 hrun.2.2
          case skip => exact done undef w' hrun.1 hrun.2.2
          case defer d =>
            have := congrArg Act.defers hrun.1
            rw [put_defersG, put_defersG] at this
            have h2 := congrArg List.length this
            simp at h2
          case enter f args =>
            refine Calls.mono hrun fun e w'' he => ?_
            cases e with
            | returned u => exact done u w'' he.1 he.2.2
            | panicked c => exact he.elim
            | outgrown => exact absurd he (hLO _)
          case row row args => exact Rows.mono hrun fun u w'' he => done u w'' he.1 he.2.2
        | halt x w' =>
          cases x <;> simp only [Oper.upon] at hrun ⊢
          case panic u => exact hrun.elim
      · exact absurd hrun (hLO _)
    · rw [if_neg hw] at hrun ⊢
      exact done undef w hrun.1 hrun.2.2
  · intro listed a w' hG hall hIw
    have : a = putAll ops.toList vs a0 := act_extF (by rw [hG.sz, putAll_size]) (by rw [hG.df, putAll_defers]) fun t _ => by
      rcases hsome t with hno | ⟨j, oj, hj, hjd⟩
      · rw [hG.old t hno, hout t hno]
      · exact hG.new j oj t hj (hall j (Array.getElem?_eq_some_iff.1 hj).1) hjd oj t hj hjd
    rw [this]
    exact hend w' hIw

theorem wp_region_fixed {P : Program} {id : Nat} {l : List Oper} {Q : Exit → Act → World → Prop} {w : World} {a0 : Act} (I : World → Prop) (hm : P.follows .mixedOrders = true) (ht : tidyF l.toArray a0.tmps.size = true) (hI : I w.drew)
    (h : wpFx P l.toArray I Q a0.defers l a0) : (Code.region id l.toArray true).wp P Q a0 w := wp_region_fixedA a0 I hm ht hI (by simpa using h)
theorem wpFx_step {P : Program} {ops : Array Oper} {I : World → Prop} {Q : Exit → Act → World → Prop} {d : List Deferred} {o : Oper} {rest : List Oper} {a a1 : Act} (h : ∀ w, I w → wpList P ops (FixEnd d a1 I) [o] a w) (h2 : wpFx P ops I Q d rest a1) : wpFx P ops I Q d (o :: rest) a := ⟨a1, h, h2⟩
theorem wpFx_end {P : Program} {ops : Array Oper} {I : World → Prop} {Q : Exit → Act → World → Prop} {d : List Deferred} {a : Act} (h : ∀ w, I w → Q .normal a w) : wpFx P ops I Q d [] a := h
end Go.Proofs.YtaieopdfkapgdaaDoor
