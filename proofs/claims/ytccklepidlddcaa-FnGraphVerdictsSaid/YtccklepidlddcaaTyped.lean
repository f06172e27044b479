/- A region that draws its order, by what each operation yields, whatever the order: no Go function is walked here. -/
import Derived.Test.YtccklepidlddcaaKit
import Derived.Orders
namespace Go.Proofs.Ytccklepidlddcaa
open Go.RowKit
set_option linter.unusedSimpArgs false
set_option linter.unusedVariables false

/-- No guards; each slot is written once; what an operation waits for stands ahead of it. -/
def tidyB (ops : Array Oper) (n : Nat) : Bool :=
  (List.range ops.size).all fun i => match ops[i]? with
    | none => true
    | some o => o.guard.isNone && o.after.all (fun e => decide (e.on < i)) && (match o.dst with
      | none => true
      | some d => decide (d < n) && (List.range ops.size).all fun j => decide (j = i) || match ops[j]? with
        | none => true
        | some o' => match o'.dst with
          | none => true
          | some d' => !decide (d' = d))
theorem tidyB_spec {ops : Array Oper} {n : Nat} (h : tidyB ops n = true) {i : Nat} {o : Oper} (ho : ops[i]? = some o) :
    o.guard = none ∧ (∀ e ∈ o.after, e.on < i) ∧ (∀ d, o.dst = some d → d < n ∧ ∀ (j : Nat) (o' : Oper), ops[j]? = some o' → o'.dst = some d → j = i) := by
  have hi := (Array.getElem?_eq_some_iff.1 ho).1
  unfold tidyB at h
  rw [List.all_eq_true] at h
  have h1 := h i (List.mem_range.2 hi)
  rw [ho] at h1
  simp only [Bool.and_eq_true, Option.isNone_iff_eq_none, Array.all_eq_true_iff_forall_mem, decide_eq_true_eq] at h1
  refine ⟨h1.1.1, h1.1.2, fun d hd => ?_⟩
  have h2 := h1.2
  rw [hd] at h2
  simp only [Bool.and_eq_true, decide_eq_true_eq, List.all_eq_true] at h2
  refine ⟨h2.1, fun j o' ho' hd' => ?_⟩
  have hj := (Array.getElem?_eq_some_iff.1 ho').1
  have h3 := h2.2 j (List.mem_range.2 hj)
  rw [ho'] at h3
  simp only [hd', Bool.or_eq_true, decide_eq_true_eq] at h3
  rcases h3 with h3 | h3
  · exact h3
  · simp at h3

structure TInv (ops : Array Oper) (a0 : Act) (T : Nat → World → Value → Prop) (listed : Array Bool) (a : Act) (w : World) : Prop where
  ls : listed.size = ops.size
  sz : a.tmps.size = a0.tmps.size
  df : a.defers = a0.defers
  old : ∀ t : Nat, (ops.all fun o => match o.dst with | none => true | some d => !decide (d = t)) = true → a.eval (.tmp t) = a0.eval (.tmp t)
  new : ∀ (i : Nat) (o : Oper) (d : Nat), ops[i]? = some o → listed.getD i false = true → o.dst = some d → T i w (a.eval (.tmp d))

theorem eval_put_self {a : Act} {d : Nat} {v : Value} (h : d < a.tmps.size) : (a.put (some d) v).eval (.tmp d) = v := by
  simp [Act.put, Act.eval, Array.getD, h]
theorem put_size (a : Act) (d : Option Tmp) (v : Value) : (a.put d v).tmps.size = a.tmps.size := by cases d <;> simp [Act.put]
theorem put_defers (a : Act) (d : Option Tmp) (v : Value) : (a.put d v).defers = a.defers := by cases d <;> simp [Act.put]

theorem TInv.step {ops : Array Oper} {a0 : Act} {T : Nat → World → Value → Prop} {listed : Array Bool} {a : Act} {w w' : World} {i : Nat} {o : Oper} {v : Value} (hI : TInv ops a0 T listed a w) (ht : tidyB ops a0.tmps.size = true) (ho : ops[i]? = some o) (hu : listed.getD i true = false)
    (hs : ∀ (j : Nat) (u : Value), T j w u → T j w' u) (hv : o.dst ≠ none → T i w' v) : TInv ops a0 T (listed.setIfInBounds i true) (a.put o.dst v) w' := by
  obtain ⟨-, -, hd⟩ := tidyB_spec ht ho
  refine ⟨by simp [hI.ls], by rw [put_size]; exact hI.sz, by rw [put_defers]; exact hI.df, fun t h => ?_, fun j oj d hj hl hdj => ?_⟩
  · rw [Act.eval_put (fun d e => ?_)]
    · exact hI.old t h
    · rw [Array.all_eq_true_iff_forall_mem] at h
      have := h o (Array.mem_of_getElem? ho)
      rw [e] at this
      simp only [Bool.not_eq_true', decide_eq_false_iff_not] at this
      intro e2
      injection e2 with e3
      exact this e3.symm
  · by_cases e : j = i
    · subst e
      rw [ho] at hj
      cases hj
      rw [hdj, eval_put_self (by rw [hI.sz]; exact (hd d hdj).1)]
      exact hv (by rw [hdj]; simp)
    · have hl' : listed.getD j false = true := by
        rw [Array.getD_eq_getD_getElem?] at hl ⊢
        rwa [Array.getElem?_setIfInBounds_ne (fun e2 => e e2.symm)] at hl
      have h1 := hs j _ (hI.new j oj d hj hl' hdj)
      rw [Act.eval_put (fun d' e' => ?_)]
      · exact h1
      · intro e2
        injection e2 with e3
        subst e3
        exact e ((hd d e').2 j oj hj hdj)

theorem all_listed {md : Region.Mode} {ops : Array Oper} {n : Nat} {listed : Array Bool} (ht : tidyB ops n = true) (hl : listed.size = ops.size) (hr : Region.ready md ops listed = []) : ∀ i, i < ops.size → listed.getD i true = true := by
  intro i
  induction i using Nat.strongRecOn with
  | _ i ih =>
    intro hi
    cases h : listed.getD i true with
    | true => rfl
    | false =>
      have ho : ops[i]? = some ops[i] := Array.getElem?_eq_getElem hi
      have : i ∈ Region.ready md ops listed := mem_ready.2 ⟨h, _, ho, fun e he _ => by
        have hlt := (tidyB_spec ht ho).2.1 e he
        have := ih e.on hlt (by omega)
        rw [Array.getD_eq_getD_getElem?] at this ⊢
        rw [Array.getElem?_eq_getElem (by omega)] at this ⊢
        exact this⟩
      rw [hr] at this
      cases this

def listedN (l : Array Bool) : Nat := l.toList.count true
theorem listedN_all {l : Array Bool} (h : ∀ i, i < l.size → l.getD i true = true) : listedN l = l.size := by
  unfold listedN
  rw [← Array.length_toList, List.count_eq_length]
  intro b hb
  obtain ⟨i, hi, rfl⟩ := List.getElem_of_mem hb
  have := h i (by simpa using hi)
  rw [Array.getD_eq_getD_getElem?, Array.getElem?_eq_getElem (by simpa using hi)] at this
  simpa using this.symm
theorem listedN_set {l : Array Bool} {i : Nat} (h : l.getD i true = false) : listedN (l.setIfInBounds i true) = listedN l + 1 := by
  have hi : i < l.size := by
    by_cases hi : i < l.size
    · exact hi
    · rw [Array.getD_eq_getD_getElem?, Array.getElem?_eq_none (by omega)] at h; simp at h
  have hv : l.toList[i]'(by simpa using hi) = false := by
    rw [Array.getD_eq_getD_getElem?, Array.getElem?_eq_getElem hi] at h
    simpa using h
  unfold listedN
  rw [Array.toList_setIfInBounds, List.count_set (by simpa using hi), hv]
  simp
theorem listedN_le (l : Array Bool) : listedN l ≤ l.size := by unfold listedN; have := List.count_le_length (a := true) (l := l.toList); simpa using this

theorem wpAny_typed {P : Program} {md : Region.Mode} {ops : Array Oper} {Q : Exit → Act → World → Prop} (a0 : Act) (T : Nat → World → Value → Prop) (I : Nat → World → Prop) (ht : tidyB ops a0.tmps.size = true)
    (hstep : ∀ (i : Nat) (o : Oper) (listed : Array Bool) (a : Act) (w : World) (k : Nat) (K : Act → World → Prop), ops[i]? = some o → TInv ops a0 T listed a w → k < ops.size → I k w → (∀ e ∈ o.after, Region.binds md e = true → listed.getD e.on false = true) →
      (∀ (v : Value) (w' : World), I (k + 1) w' → (∀ (j : Nat) (u : Value), T j w u → T j w' u) → (o.dst ≠ none → T i w' v) → K (a.put o.dst v) w') → o.wp P a w K Q)
    (hend : ∀ (listed : Array Bool) (a : Act) (w : World), TInv ops a0 T listed a w → (∀ i, i < ops.size → listed.getD i false = true) → I ops.size w → Q .normal a w) :
    ∀ (fuel : Nat) (listed : Array Bool) (a : Act) (w : World), TInv ops a0 T listed a w → listedN listed + fuel = ops.size → I (listedN listed) w → wpAny P md ops Q fuel listed a w
  | 0, listed, a, w, hT, hf, hI => by
    have hall : ∀ i, i < ops.size → listed.getD i true = true := by
      intro i hi
      cases h : listed.getD i true with
      | true => rfl
      | false =>
        have h1 := listedN_set h
        have h2 := listedN_le (listed.setIfInBounds i true)
        rw [h1, Array.size_setIfInBounds, hT.ls] at h2
        omega
    refine ⟨?_, hend listed a w hT (fun i hi => ?_) (by have : listedN listed = ops.size := by omega
                                                        rwa [this] at hI)⟩
    · cases hr : Region.ready md ops listed with
      | nil => rfl
      | cons i rs =>
        obtain ⟨h1, o, ho, -⟩ := mem_ready.1 (show i ∈ Region.ready md ops listed by rw [hr]; simp)
        rw [hall i (Array.getElem?_eq_some_iff.1 ho).1] at h1
        cases h1
    · have h1 := hall i hi
      rw [Array.getD_eq_getD_getElem?, Array.getElem?_eq_getElem (by rw [hT.ls]; exact hi)] at h1 ⊢
      exact h1
  | fuel + 1, listed, a, w, hT, hf, hI => by
    refine ⟨fun hr => ?_, fun i hi => ?_⟩
    · have := listedN_all (l := listed) (fun i hi => all_listed ht hT.ls hr i (by rw [← hT.ls]; exact hi))
      rw [hT.ls] at this
      omega
    · obtain ⟨hu, o, ho, hall⟩ := mem_ready.1 hi
      obtain ⟨hgd, -, -⟩ := tidyB_spec ht ho
      unfold wpOp
      rw [ho]
      simp only []
      rw [if_pos (by simp [Region.wanted, hgd])]
      refine .inl (hstep i o listed a w (listedN listed) _ ho hT (by omega) hI hall fun v w' hI' hs hv => ?_)
      have h1 := listedN_set hu
      refine wpAny_typed a0 T I ht hstep hend fuel _ _ _ (hT.step ht ho hu hs hv) (by rw [h1]; omega) (by rw [h1]; exact hI')

theorem wp_region_typed {P : Program} {id : Nat} {ops : Array Oper} {Q : Exit → Act → World → Prop} {w : World} (a0 : Act) (T : Nat → World → Value → Prop) (I : Nat → World → Prop) (hm : P.follows .mixedOrders = true) (ht : tidyB ops a0.tmps.size = true) (hI : I 0 w.drew)
    (hstep : ∀ (i : Nat) (o : Oper) (listed : Array Bool) (a : Act) (w : World) (k : Nat) (K : Act → World → Prop), ops[i]? = some o → TInv ops a0 T listed a w → k < ops.size → I k w → (∀ e ∈ o.after, Region.binds .any e = true → listed.getD e.on false = true) →
      (∀ (v : Value) (w' : World), I (k + 1) w' → (∀ (j : Nat) (u : Value), T j w u → T j w' u) → (o.dst ≠ none → T i w' v) → K (a.put o.dst v) w') → o.wp P a w K Q)
    (hend : ∀ (listed : Array Bool) (a : Act) (w : World), TInv ops a0 T listed a w → (∀ i, i < ops.size → listed.getD i false = true) → I ops.size w → Q .normal a w) : (Code.region id ops true).wp P Q a0 w := by
  have h0 : listedN (Array.replicate ops.size false) = 0 := by
    unfold listedN
    simp [List.count_eq_zero]
  refine wp_region_any hm (wpAny_typed a0 T I ht hstep hend ops.size _ a0 _ ⟨by simp, rfl, rfl, fun _ _ => rfl, fun i o d ho hl _ => ?_⟩ (by rw [h0]; omega) (by rw [h0]; exact hI))
  rw [Array.getD_eq_getD_getElem?, Array.getElem?_replicate] at hl
  split at hl <;> simp at hl
end Go.Proofs.Ytccklepidlddcaa
