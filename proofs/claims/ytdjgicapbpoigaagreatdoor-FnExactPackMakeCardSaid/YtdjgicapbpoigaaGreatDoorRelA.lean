/- Joined texts: TypedG Fixed Rel. -/
import Derived.Test.YtdjgicapbpoigaaGreatDoorKit
import Derived.Orders
namespace Go.Proofs.YtdjgicapbpoigaaGreatDoor
open Go.RowKit
set_option linter.unusedSimpArgs false
set_option linter.unusedVariables false

def tidyG (ops : Array Oper) (n : Nat) : Bool :=
 (List.range ops.size).all fun i => match ops[i]? with
   | none => true
   | some o => o.after.toList.all (fun e => !Region.binds .any e || decide (e.on < i)) && (match o.dst with
     | none => true
     | some d => decide (d < n) && (List.range ops.size).all fun j => decide (j = i) || match ops[j]? with
       | none => true
       | some o' => match o'.dst with
         | none => true
         | some d' => !decide (d' = d))
theorem tidyG_spec {ops : Array Oper} {n : Nat} (h : tidyG ops n = true) {i : Nat} {o : Oper} (ho : ops[i]? = some o) :
   (∀ e ∈ o.after, Region.binds .any e = true → e.on < i) ∧ (∀ d, o.dst = some d → d < n ∧ ∀ (j : Nat) (o' : Oper), ops[j]? = some o' → o'.dst = some d → j = i) := by
 have hi := (Array.getElem?_eq_some_iff.1 ho).1
 unfold tidyG at h
 rw [List.all_eq_true] at h
 have h1 := h i (List.mem_range.2 hi)
 rw [ho] at h1
 rw [Bool.and_eq_true] at h1
 refine ⟨fun e he hb => ?_, fun d hd => ?_⟩
 · have := List.all_eq_true.1 h1.1 e (by simpa using he)
   simpa [hb] using this
 have h2 := h1.2
 rw [hd] at h2
 simp only [Bool.and_eq_true, decide_eq_true_eq, List.all_eq_true] at h2
 refine ⟨h2.1, fun j o' ho' hd' => ?_⟩
 have hj := (Array.getElem?_eq_some_iff.1 ho').1
 have h3 := h2.2 j (List.mem_range.2 hj)
 rw [ho'] at h3
 simp only [hd', Bool.or_eq_true, decide_eq_true_eq] at h3
 rcases h3 with h3 | h3
 · exact h3
 · simp at h3

def waitsG (ops : Array Oper) : Nat → Nat → Nat → Bool
 | 0, _, _ => false
 | n + 1, j, i => match ops[j]? with
   | none => false
   | some o => o.after.toList.any fun e => Region.binds .any e && (decide (e.on = i) || waitsG ops n e.on i)
theorem waitsG_spec {ops : Array Oper} {listed : Array Bool} (hc : ∀ (i : Nat) (o : Oper), ops[i]? = some o → listed.getD i false = true → ∀ e ∈ o.after, Region.binds .any e = true → listed.getD e.on false = true) : ∀ (n j i : Nat), waitsG ops n j i = true → listed.getD j false = true → listed.getD i false = true
 | 0, _, _, h, _ => by simp [waitsG] at h
 | n + 1, j, i, h, hl => by
   unfold waitsG at h
   cases ho : ops[j]? with
   | none => rw [ho] at h; simp at h
   | some o =>
     rw [ho] at h
     simp only [List.any_eq_true, Bool.and_eq_true, Bool.or_eq_true, decide_eq_true_eq] at h
     obtain ⟨e, he, hb, h⟩ := h
     have h1 := hc j o ho hl e (by simpa using he) hb
     rcases h with h | h
     · rw [← h]; exact h1
     · exact waitsG_spec hc n e.on i h h1

structure GInv (ops : Array Oper) (a0 : Act) (T : Nat → World → Value → Prop) (con : Nat → Option Nat) (listed : Array Bool) (a : Act) (w : World) : Prop where
 ls : listed.size = ops.size
 cl : ∀ (i : Nat) (o : Oper), ops[i]? = some o → listed.getD i false = true → ∀ e ∈ o.after, Region.binds .any e = true → listed.getD e.on false = true
 sz : a.tmps.size = a0.tmps.size
 df : a.defers = a0.defers
 old : ∀ t : Nat, (∀ (j : Nat) (o : Oper), ops[j]? = some o → o.dst = some t → listed.getD j false = false) → a.eval (.tmp t) = a0.eval (.tmp t)
 new : ∀ (i : Nat) (o : Oper) (d : Nat), ops[i]? = some o → listed.getD i false = true → o.dst = some d → (∀ c, con i = some c → listed.getD c false = false) → T i w (a.eval (.tmp d))

theorem eval_put_selfG {a : Act} {d : Nat} {v : Value} (h : d < a.tmps.size) : (a.put (some d) v).eval (.tmp d) = v := by
 simp [Act.put, Act.eval, Array.getD, h]
theorem put_sizeG (a : Act) (d : Option Tmp) (v : Value) : (a.put d v).tmps.size = a.tmps.size := by cases d <;> simp [Act.put]
theorem put_defersG (a : Act) (d : Option Tmp) (v : Value) : (a.put d v).defers = a.defers := by cases d <;> simp [Act.put]

theorem GInv.step {ops : Array Oper} {a0 : Act} {T : Nat → World → Value → Prop} {con : Nat → Option Nat} {listed : Array Bool} {a : Act} {w w' : World} {i : Nat} {o : Oper} {v : Value} (hI : GInv ops a0 T con listed a w) (ht : tidyG ops a0.tmps.size = true) (ho : ops[i]? = some o) (hu : listed.getD i true = false)
   (hdep : ∀ e ∈ o.after, Region.binds .any e = true → listed.getD e.on false = true) (hs : ∀ (j : Nat) (u : Value), j ≠ i → con j ≠ some i → waitsG ops ops.size j i = false → T j w u → T j w' u) (hv : o.dst ≠ none → T i w' v) : GInv ops a0 T con (listed.setIfInBounds i true) (a.put o.dst v) w' := by
 obtain ⟨-, hd⟩ := tidyG_spec ht ho
 have hset : ∀ c : Nat, listed.getD c false = true → (listed.setIfInBounds i true).getD c false = true := fun c hc => by
   by_cases e : i = c
   · subst e
     have hil : i < listed.size := by rw [hI.ls]; exact (Array.getElem?_eq_some_iff.1 ho).1
     simp [hil]
   · rw [Array.getD_eq_getD_getElem?] at hc ⊢
     rwa [Array.getElem?_setIfInBounds_ne e]
 refine ⟨by simp [hI.ls], fun j oj hj hl e he hb => ?_, by rw [put_sizeG]; exact hI.sz, by rw [put_defersG]; exact hI.df, fun t h => ?_, fun j oj d hj hl hdj hc => ?_⟩
 · by_cases e2 : j = i
   · subst e2
     rw [ho] at hj
     cases hj
     exact hset _ (hdep e he hb)
   · rw [Array.getD_eq_getD_getElem?, Array.getElem?_setIfInBounds_ne (fun e3 => e2 e3.symm)] at hl
     exact hset _ (hI.cl j oj hj (by rw [Array.getD_eq_getD_getElem?]; exact hl) e he hb)
 · have hil : i < listed.size := by rw [hI.ls]; exact (Array.getElem?_eq_some_iff.1 ho).1
   have hii : (listed.setIfInBounds i true).getD i false = true := by simp [hil]
   rw [Act.eval_put (fun d e => ?_)]
   · refine hI.old t fun j oj hj hdj => ?_
     have h1 := h j oj hj hdj
     by_cases e : i = j
     · subst e; rw [hii] at h1; cases h1
     · rw [Array.getD_eq_getD_getElem?, Array.getElem?_setIfInBounds_ne e] at h1
       rw [Array.getD_eq_getD_getElem?]
       exact h1
   · intro e2
     injection e2 with e3
     have h1 := h i o ho (by rw [e, e3])
     rw [hii] at h1
     cases h1
 · by_cases e : j = i
   · subst e
     rw [ho] at hj
     cases hj
     rw [hdj, eval_put_selfG (by rw [hI.sz]; exact (hd d hdj).1)]
     exact hv (by rw [hdj]; simp)
   · have hl' : listed.getD j false = true := by
       rw [Array.getD_eq_getD_getElem?] at hl ⊢
       rwa [Array.getElem?_setIfInBounds_ne (fun e2 => e e2.symm)] at hl
     have hli : (listed.setIfInBounds i true).getD i false = true := by
       have hil : i < listed.size := by rw [hI.ls]; exact (Array.getElem?_eq_some_iff.1 ho).1
       simp [hil]
     have hci : con j ≠ some i := fun e2 => by rw [hc i e2] at hli; cases hli
     have hwj : waitsG ops ops.size j i = false := by
       cases hx : waitsG ops ops.size j i with
       | false => rfl
       | true =>
         have h2 := waitsG_spec hI.cl _ _ _ hx hl'
         rw [Array.getD_eq_getD_getElem?] at h2 hu
         cases hy : listed[i]? with
         | none => rw [hy] at h2; cases h2
         | some y => rw [hy] at h2 hu; simp at h2 hu; rw [h2] at hu; cases hu
     have h1 := hs j _ e hci hwj (hI.new j oj d hj hl' hdj (fun c hcj => by
       have h2 := hc c hcj
       have hne : i ≠ c := fun e2 => hci (by rw [e2]; exact hcj)
       rw [Array.getD_eq_getD_getElem?] at h2 ⊢
       rwa [Array.getElem?_setIfInBounds_ne hne] at h2))
     rw [Act.eval_put (fun d' e' => ?_)]
     · exact h1
     · intro e2
       injection e2 with e3
       subst e3
       exact e ((hd d e').2 j oj hj hdj)

theorem all_listedG {ops : Array Oper} {n : Nat} {listed : Array Bool} (ht : tidyG ops n = true) (hl : listed.size = ops.size) (hr : Region.ready .any ops listed = []) : ∀ i, i < ops.size → listed.getD i true = true := by
 intro i
 induction i using Nat.strongRecOn with
 | _ i ih =>
   intro hi
   cases h : listed.getD i true with
   | true => rfl
   | false =>
     have ho : ops[i]? = some ops[i] := Array.getElem?_eq_getElem hi
     have : i ∈ Region.ready .any ops listed := mem_ready.2 ⟨h, _, ho, fun e he hb => by
       have hlt := (tidyG_spec ht ho).1 e he hb
       have := ih e.on hlt (by omega)
       rw [Array.getD_eq_getD_getElem?] at this ⊢
       rw [Array.getElem?_eq_getElem (by omega)] at this ⊢
       exact this⟩
     rw [hr] at this
     cases this

def listedG (l : Array Bool) : Nat := l.toList.count true
theorem listedG_all {l : Array Bool} (h : ∀ i, i < l.size → l.getD i true = true) : listedG l = l.size := by
 unfold listedG
 rw [← Array.length_toList, List.count_eq_length]
 intro b hb
 obtain ⟨i, hi, rfl⟩ := List.getElem_of_mem hb
 have := h i (by simpa using hi)
 rw [Array.getD_eq_getD_getElem?, Array.getElem?_eq_getElem (by simpa using hi)] at this
 simpa using this.symm
theorem listedG_set {l : Array Bool} {i : Nat} (h : l.getD i true = false) : listedG (l.setIfInBounds i true) = listedG l + 1 := by
 have hi : i < l.size := by
   by_cases hi : i < l.size
   · exact hi
   · rw [Array.getD_eq_getD_getElem?, Array.getElem?_eq_none (by omega)] at h; simp at h
 have hv : l.toList[i]'(by simpa using hi) = false := by
   rw [Array.getD_eq_getD_getElem?, Array.getElem?_eq_getElem hi] at h
   simpa using h
 unfold listedG
 rw [Array.toList_setIfInBounds, List.count_set (by simpa using hi), hv]
 simp
theorem listedG_le (l : Array Bool) : listedG l ≤ l.size := by unfold listedG; have := List.count_le_length (a := true) (l := l.toList); simpa using this

theorem wpAny_typedG {P : Program} {ops : Array Oper} {Q : Exit → Act → World → Prop} (a0 : Act) (T : Nat → World → Value → Prop) (con : Nat → Option Nat) (I : Array Bool → World → Prop) (ht : tidyG ops a0.tmps.size = true)
   (hstep : ∀ (i : Nat) (o : Oper) (listed : Array Bool) (a : Act) (w : World) (K : Act → World → Prop), ops[i]? = some o → GInv ops a0 T con listed a w → I listed w → listed.getD i false = false → (∀ e ∈ o.after, Region.binds .any e = true → listed.getD e.on false = true) →
     (∀ (v : Value) (w' : World), I (listed.setIfInBounds i true) w' → (∀ (j : Nat) (u : Value), j ≠ i → con j ≠ some i → waitsG ops ops.size j i = false → T j w u → T j w' u) → (o.dst ≠ none → T i w' v) → K (a.put o.dst v) w') → if Region.wanted o (yielded ops a.tmps) = true then o.wp P a w K Q else K (a.put o.dst undef) w)
   (hend : ∀ (listed : Array Bool) (a : Act) (w : World), GInv ops a0 T con listed a w → (∀ i, i < ops.size → listed.getD i false = true) → I listed w → Q .normal a w) :
   ∀ (fuel : Nat) (listed : Array Bool) (a : Act) (w : World), GInv ops a0 T con listed a w → listedG listed + fuel = ops.size → I listed w → wpAny P .any ops Q fuel listed a w
 | 0, listed, a, w, hT, hf, hI => by
   have hall : ∀ i, i < ops.size → listed.getD i true = true := by
     intro i hi
     cases h : listed.getD i true with
     | true => rfl
     | false =>
       have h1 := listedG_set h
       have h2 := listedG_le (listed.setIfInBounds i true)
       rw [h1, Array.size_setIfInBounds, hT.ls] at h2
       omega
   refine ⟨?_, hend listed a w hT (fun i hi => ?_) hI⟩
   · cases hr : Region.ready .any ops listed with
     | nil => rfl
     | cons i rs =>
       obtain ⟨h1, o, ho, -⟩ := mem_ready.1 (show i ∈ Region.ready .any ops listed by rw [hr]; simp)
       rw [hall i (Array.getElem?_eq_some_iff.1 ho).1] at h1
       cases h1
   · have h1 := hall i hi
     rw [Array.getD_eq_getD_getElem?, Array.getElem?_eq_getElem (by rw [hT.ls]; exact hi)] at h1 ⊢
     exact h1
 | fuel + 1, listed, a, w, hT, hf, hI => by
   refine ⟨fun hr => ?_, fun i hi => ?_⟩
   · have := listedG_all (l := listed) (fun i hi => all_listedG ht hT.ls hr i (by rw [← hT.ls]; exact hi))
     rw [hT.ls] at this
     omega
   · obtain ⟨hu, o, ho, hall⟩ := mem_ready.1 hi
     have h1 := listedG_set hu
     have h2 := hstep i o listed a w (wpAny P .any ops Q fuel (listed.setIfInBounds i true)) ho hT hI (by
       rw [Array.getD_eq_getD_getElem?] at hu ⊢
       cases hx : listed[i]? with
       | none => rfl
       | some x => rw [hx] at hu; exact hu) hall (fun v w' hI' hs hv =>
       wpAny_typedG a0 T con I ht hstep hend fuel _ _ _ (hT.step ht ho hu hall hs hv) (by rw [h1]; omega) hI')
     unfold wpOp
     rw [ho]
     simp only []
     by_cases hw : Region.wanted o (yielded ops a.tmps) = true
     · rw [if_pos hw] at h2 ⊢
       exact .inl h2
     · rw [if_neg hw] at h2 ⊢
       exact h2

theorem wp_region_typedG {P : Program} {id : Nat} {ops : Array Oper} {Q : Exit → Act → World → Prop} {w : World} (a0 : Act) (T : Nat → World → Value → Prop) (con : Nat → Option Nat) (I : Array Bool → World → Prop) (hm : P.follows .mixedOrders = true) (ht : tidyG ops a0.tmps.size = true) (hI : I (Array.replicate ops.size false) w.drew)
   (hstep : ∀ (i : Nat) (o : Oper) (listed : Array Bool) (a : Act) (w : World) (K : Act → World → Prop), ops[i]? = some o → GInv ops a0 T con listed a w → I listed w → listed.getD i false = false → (∀ e ∈ o.after, Region.binds .any e = true → listed.getD e.on false = true) →
     (∀ (v : Value) (w' : World), I (listed.setIfInBounds i true) w' → (∀ (j : Nat) (u : Value), j ≠ i → con j ≠ some i → waitsG ops ops.size j i = false → T j w u → T j w' u) → (o.dst ≠ none → T i w' v) → K (a.put o.dst v) w') → if Region.wanted o (yielded ops a.tmps) = true then o.wp P a w K Q else K (a.put o.dst undef) w)
   (hend : ∀ (listed : Array Bool) (a : Act) (w : World), GInv ops a0 T con listed a w → (∀ i, i < ops.size → listed.getD i false = true) → I listed w → Q .normal a w) : (Code.region id ops true).wp P Q a0 w := by
 have h0 : listedG (Array.replicate ops.size false) = 0 := by
   unfold listedG
   simp [List.count_eq_zero]
 refine wp_region_any hm (wpAny_typedG a0 T con I ht hstep hend ops.size _ a0 _ ⟨by simp, fun i o ho hl => ?_, rfl, rfl, fun _ _ => rfl, fun i o d ho hl _ _ => ?_⟩ (by rw [h0]; omega) hI)
 all_goals
   rw [Array.getD_eq_getD_getElem?, Array.getElem?_replicate] at hl
   split at hl <;> simp at hl

theorem GInv.old_ {ops : Array Oper} {a0 : Act} {T : Nat → World → Value → Prop} {con : Nat → Option Nat} {listed : Array Bool} {a : Act} {w : World} (hI : GInv ops a0 T con listed a w) (t : Nat) (h : (ops.all fun o => match o.dst with | none => true | some d => !decide (d = t)) = true) : a.eval (.tmp t) = a0.eval (.tmp t) := by
 refine hI.old t fun j o hj hd => ?_
 rw [Array.all_eq_true_iff_forall_mem] at h
 have := h o (Array.mem_of_getElem? hj)
 rw [hd] at this
 simp at this
end Go.Proofs.YtdjgicapbpoigaaGreatDoor

namespace Go.Proofs.YtdjgicapbpoigaaGreatDoor
open Go.RowKit
set_option linter.unusedSimpArgs false
set_option linter.unusedVariables false

def notSelect : Op → Bool
 | .select _ _ => false
 | _ => true
def tidyF (ops : Array Oper) (n : Nat) : Bool :=
 tidyG ops n && (List.range ops.size).all fun i => match ops[i]? with
   | none => true
   | some o => notSelect o.op && (o.looksAt ops).all fun t => (List.range ops.size).all fun j => match ops[j]? with
     | none => true
     | some o' => !decide (o'.dst = some t) || (o.after.toList.any fun e => decide (e.on = j) && Region.binds .any e) || o'.after.toList.any fun e => decide (e.on = i) && Region.binds .any e
theorem tidyF_spec {ops : Array Oper} {n : Nat} (h : tidyF ops n = true) {i : Nat} {o : Oper} (ho : ops[i]? = some o) :
   (∀ cs b, o.op ≠ .select cs b) ∧ ∀ t ∈ o.looksAt ops, ∀ (j : Nat) (o' : Oper), ops[j]? = some o' → o'.dst = some t → (∃ e ∈ o.after, e.on = j ∧ Region.binds .any e = true) ∨ ∃ e ∈ o'.after, e.on = i ∧ Region.binds .any e = true := by
 have hi := (Array.getElem?_eq_some_iff.1 ho).1
 unfold tidyF at h
 rw [Bool.and_eq_true, List.all_eq_true] at h
 have h1 := h.2 i (List.mem_range.2 hi)
 rw [ho] at h1
 simp only [Bool.and_eq_true, List.all_eq_true] at h1
 refine ⟨fun cs b e => by rw [e] at h1; simp [notSelect] at h1, fun t ht j o' hj hd => ?_⟩
 have h2 := h1.2 t ht j (List.mem_range.2 (Array.getElem?_eq_some_iff.1 hj).1)
 rw [hj] at h2
 simp only [hd, decide_true, Bool.not_true, Bool.false_or, Bool.or_eq_true, List.any_eq_true, Bool.and_eq_true, decide_eq_true_eq] at h2
 rcases h2 with ⟨e, he, h3, h4⟩ | ⟨e, he, h3, h4⟩
 · exact .inl ⟨e, by simpa using he, h3, h4⟩
 · exact .inr ⟨e, by simpa using he, h3, h4⟩

theorem act_extF {a b : Act} (hs : a.tmps.size = b.tmps.size) (hd : a.defers = b.defers) (h : ∀ t, t < a.tmps.size → a.eval (.tmp t) = b.eval (.tmp t)) : a = b := by
 obtain ⟨at_, ad⟩ := a
 obtain ⟨bt, bd⟩ := b
 simp only at hs hd h
 subst hd
 have : at_ = bt := Array.ext hs fun i h1 h2 => by
   have := h i h1
   simpa [Act.eval, h1, h2] using this
 rw [this]
theorem wanted_congrF {ops : Array Oper} {o : Oper} {a b : Act} (hs : a.tmps.size = b.tmps.size) (h : ∀ t ∈ o.looksAt ops, a.eval (.tmp t) = b.eval (.tmp t)) : Region.wanted o (yielded ops a.tmps) = Region.wanted o (yielded ops b.tmps) := by
 unfold Region.wanted
 cases hg : o.guard with
 | none => rfl
 | some gw =>
   obtain ⟨g, want⟩ := gw
   have hy : yielded ops a.tmps g = yielded ops b.tmps g := by
     unfold yielded
     cases ht : (ops[g]?).bind (·.dst) with
     | none => rfl
     | some t =>
       have h1 := h t (by simp [Oper.looksAt, hg, ht])
       have h2 : a.tmps[t]? = b.tmps[t]? := by
         by_cases hlt : t < a.tmps.size
         · have hlt2 : t < b.tmps.size := hs ▸ hlt
           rw [Array.getElem?_eq_getElem hlt, Array.getElem?_eq_getElem hlt2]
           have : a.tmps.getD t undef = b.tmps.getD t undef := h1
           simpa [Array.getD, hlt, hlt2] using this
         · have hlt2 : ¬ t < b.tmps.size := hs ▸ hlt
           rw [Array.getElem?_eq_none (Nat.le_of_not_lt hlt), Array.getElem?_eq_none (Nat.le_of_not_lt hlt2)]
       simp [h2]
   simp only [hy]

end Go.Proofs.YtdjgicapbpoigaaGreatDoor

namespace Go.Proofs.YtdjgicapbpoigaaGreatDoor
open Go.RowKit
set_option linter.unusedSimpArgs false
set_option linter.unusedVariables false

def fillR (vals : Nat → Value) (a : Act) : List Nat → Act
 | [] => a
 | d :: ds => fillR vals (a.put (some d) (vals d)) ds
theorem fillR_spec (vals : Nat → Value) : ∀ (ds : List Nat) (b : Act), (∀ d ∈ ds, d < b.tmps.size) → (fillR vals b ds).tmps.size = b.tmps.size ∧ (fillR vals b ds).defers = b.defers ∧ ∀ t, (fillR vals b ds).eval (.tmp t) = if t ∈ ds then vals t else b.eval (.tmp t)
 | [], b, _ => ⟨rfl, rfl, fun t => by simp [fillR]⟩
 | d :: ds, b, h => by
   obtain ⟨h1, h2, h3⟩ := fillR_spec vals ds (b.put (some d) (vals d)) (fun x hx => by rw [put_sizeG]; exact h x (by simp [hx]))
   refine ⟨by rw [fillR, h1, put_sizeG], by rw [fillR, h2, put_defersG], fun t => ?_⟩
   rw [fillR, h3]
   by_cases e1 : t ∈ ds
   · rw [if_pos e1, if_pos (by simp [e1])]
   · rw [if_neg e1]
     by_cases e2 : t = d
     · subst e2
       rw [eval_put_selfG (h t (by simp)), if_pos (by simp)]
     · rw [Act.eval_put (fun d' e' => by cases e'; intro e3; injection e3 with e4; exact e2 e4), if_neg (by simp [e1, e2])]

def putL (L : Nat → Bool) (i : Nat) : Nat → Bool := fun j => decide (j = i) || L j
theorem putL_set {listed : Array Bool} {i : Nat} (hi : i < listed.size) : (fun j => (listed.setIfInBounds i true).getD j false) = putL (fun j => listed.getD j false) i := by
 funext j
 unfold putL
 by_cases e : j = i
 · subst e; simp [hi]
 · rw [Array.getD_eq_getD_getElem?, Array.getElem?_setIfInBounds_ne (fun e2 => e e2.symm)]
   simp [e]
def RelEnd (d : List Deferred) (a : Act) (dst : Option Tmp) (I R : World → Prop) (T : World → Value → Prop) : Exit → Act → World → Prop
 | .normal, a', w' => ∃ v, a' = a.put dst v ∧ a'.defers = d ∧ I w' ∧ R w' ∧ (dst ≠ none → T w' v)
 | _, _, _ => False
def depB (ops : Array Oper) (o : Oper) (j d : Nat) : Bool := (o.after.toList.any fun e => decide (e.on = j) && Region.binds .any e) && decide ((ops[j]?).bind (·.dst) = some d)
def depL (o : Oper) (j : Nat) : Bool := o.after.toList.any fun e => decide (e.on = j) && Region.binds .any e
def writtenB (ops : Array Oper) (t : Nat) : Bool := (List.range ops.size).any fun j => decide ((ops[j]?).bind (·.dst) = some t)
def laterB (ops : Array Oper) (i t : Nat) : Bool := (List.range ops.size).all fun j => match ops[j]? with
 | none => true
 | some o' => !decide (o'.dst = some t) || depL o' i
def okDs (ops : Array Oper) (i : Nat) (o : Oper) (ds : List Nat) : Bool := ((o.looksAt ops).all fun t => ds.contains t || laterB ops i t) && ds.all fun t => writtenB ops t
def okAll (ops : Array Oper) (ds : List Nat) : Bool := ((List.range ops.size).all fun j => match (ops[j]?).bind (·.dst) with | none => true | some d => ds.contains d) && ds.all fun t => writtenB ops t
def wpRel (P : Program) (ops : Array Oper) (T : Nat → World → Value → Prop) (con : Nat → Option Nat) (I : (Nat → Bool) → Nat → World → Prop) (R : Nat → World → World → Prop) (Q : Exit → Act → World → Prop) (a0 : Act) : Nat → List Oper → Prop
 | _, [] => ∃ ds, okAll ops ds = true ∧ ∀ (L : Nat → Bool) (w : World) (vals : Nat → Value), (∀ j, j < ops.size → L j = true) → I L ops.size w → (∀ j d : Nat, (ops[j]?).bind (·.dst) = some d → con j = none → T j w (vals d)) → Q .normal (fillR vals a0 ds) w
 | i, o :: rest => (∃ ds, okDs ops i o ds = true ∧ ∀ (L : Nat → Bool) (k : Nat) (w : World) (vals : Nat → Value), k < ops.size → I L k w → L i = false → (∀ j : Nat, waitsG ops ops.size j i = true → L j = false) → (∀ j : Nat, depL o j = true → L j = true) → (∀ j d : Nat, depB ops o j d = true → con j = none ∨ con j = some i → T j w (vals d)) → wpList P ops (RelEnd a0.defers (fillR vals a0 ds) o.dst (I (putL L i) (k + 1)) (R i w) (T i)) [o] (fillR vals a0 ds) w) ∧ wpRel P ops T con I R Q a0 (i + 1) rest

theorem wpRel_get {P : Program} {ops : Array Oper} {T : Nat → World → Value → Prop} {con : Nat → Option Nat} {I : (Nat → Bool) → Nat → World → Prop} {R : Nat → World → World → Prop} {Q : Exit → Act → World → Prop} {a0 : Act} : ∀ (l : List Oper) (i : Nat), wpRel P ops T con I R Q a0 i l →
   (∀ (j : Nat) (o : Oper), l[j]? = some o → ∃ ds, okDs ops (i + j) o ds = true ∧ ∀ (L : Nat → Bool) (k : Nat) (w : World) (vals : Nat → Value), k < ops.size → I L k w → L (i + j) = false → (∀ j2 : Nat, waitsG ops ops.size j2 (i + j) = true → L j2 = false) → (∀ j2 : Nat, depL o j2 = true → L j2 = true) → (∀ j' d : Nat, depB ops o j' d = true → con j' = none ∨ con j' = some (i + j) → T j' w (vals d)) → wpList P ops (RelEnd a0.defers (fillR vals a0 ds) o.dst (I (putL L (i + j)) (k + 1)) (R (i + j) w) (T (i + j))) [o] (fillR vals a0 ds) w) ∧
   ∃ ds, okAll ops ds = true ∧ ∀ (L : Nat → Bool) (w : World) (vals : Nat → Value), (∀ j, j < ops.size → L j = true) → I L ops.size w → (∀ j d : Nat, (ops[j]?).bind (·.dst) = some d → con j = none → T j w (vals d)) → Q .normal (fillR vals a0 ds) w
 | [], i, h => ⟨fun j o ho => by simp at ho, h⟩
 | o :: l, i, ⟨h1, h2⟩ => by
   obtain ⟨h3, h4⟩ := wpRel_get l (i + 1) h2
   refine ⟨fun j o' ho => ?_, h4⟩
   cases j with
   | zero =>
     simp at ho
     subst ho
     exact h1
   | succ j =>
     have := h3 j o' (by simpa using ho)
     rw [show i + (j + 1) = i + 1 + j by omega]
     exact this

theorem written_iff {ops : Array Oper} {t : Nat} : writtenB ops t = true ↔ ∃ (j : Nat) (o : Oper), ops[j]? = some o ∧ o.dst = some t := by
 unfold writtenB
 rw [List.any_eq_true]
 constructor
 · rintro ⟨j, hj, h⟩
   simp only [decide_eq_true_eq] at h
   cases ho : ops[j]? with
   | none => rw [ho] at h; simp at h
   | some o => rw [ho] at h; exact ⟨j, o, ho, by simpa using h⟩
 · rintro ⟨j, o, ho, hd⟩
   exact ⟨j, List.mem_range.2 (Array.getElem?_eq_some_iff.1 ho).1, by simp [ho, hd]⟩
theorem unwritten {ops : Array Oper} {t : Nat} (h : writtenB ops t = false) : (ops.all fun o => match o.dst with | none => true | some d => !decide (d = t)) = true := by
 rw [Array.all_eq_true_iff_forall_mem]
 intro o ho
 obtain ⟨j, hj⟩ := Array.getElem?_of_mem ho
 cases hd : o.dst with
 | none => rfl
 | some d =>
   simp only [Bool.not_eq_true', decide_eq_false_iff_not]
   intro e
   subst e
   rw [written_iff.2 ⟨j, o, hj, hd⟩] at h
   cases h

theorem wp_region_relA {P : Program} {id : Nat} {ops : Array Oper} {Q : Exit → Act → World → Prop} {w : World} (a0 : Act) (T : Nat → World → Value → Prop) (con : Nat → Option Nat) (I : (Nat → Bool) → Nat → World → Prop) (R : Nat → World → World → Prop) (hm : P.follows .mixedOrders = true) (ht : tidyF ops a0.tmps.size = true) (hI : I (fun _ => false) 0 w.drew)
   (hR : ∀ (i j : Nat) (w w' : World) (u : Value), j ≠ i → con j ≠ some i → waitsG ops ops.size j i = false → R i w w' → T j w u → T j w' u) (h : wpRel P ops T con I R Q a0 0 ops.toList) : (Code.region id ops true).wp P Q a0 w := by
 have htG : tidyG ops a0.tmps.size = true := by unfold tidyF at ht; rw [Bool.and_eq_true] at ht; exact ht.1
 obtain ⟨hst, dsA, hda, hend⟩ := wpRel_get _ _ h
 have hop : ∀ (i : Nat) (o : Oper), ops.toList[i]? = some o ↔ ops[i]? = some o := fun i o => by rw [Array.getElem?_toList]
 have hin : ∀ (ds : List Nat), (ds.all fun t => writtenB ops t) = true → ∀ d ∈ ds, d < a0.tmps.size := fun ds hds d hd => by
   obtain ⟨j, o, ho, hdd⟩ := written_iff.1 (List.all_eq_true.1 hds d hd)
   exact ((tidyG_spec htG ho).2 d hdd).1
 refine wp_region_typedG a0 T con (fun listed w => I (fun j => listed.getD j false) (listedG listed) w) hm htG ?_ ?_ ?_
 · have h1 : (fun j => (Array.replicate ops.size false).getD j false) = fun _ => false := by
     funext j
     rw [Array.getD_eq_getD_getElem?, Array.getElem?_replicate]
     split <;> rfl
   have h0 : listedG (Array.replicate ops.size false) = 0 := by
     unfold listedG
     simp [List.count_eq_zero]
   show I (fun j => (Array.replicate ops.size false).getD j false) (listedG (Array.replicate ops.size false)) w.drew
   rw [h1, h0]
   exact hI
 · intro i o listed a w K ho hG hIw hun hdep hK
   have hil : i < listed.size := by rw [hG.ls]; exact (Array.getElem?_eq_some_iff.1 ho).1
   have hun' : listed.getD i true = false := by
     rw [Array.getD_eq_getD_getElem?, Array.getElem?_eq_getElem hil] at hun ⊢
     exact hun
   have hls := listedG_set hun'
   have hle := listedG_le (listed.setIfInBounds i true)
   rw [hls, Array.size_setIfInBounds, hG.ls] at hle
   obtain ⟨k, hkk⟩ : ∃ k, k = listedG listed := ⟨_, rfl⟩
   rw [← hkk] at hIw hls hle
   have hcl : ∀ j : Nat, waitsG ops ops.size j i = true → listed.getD j false = false := fun j hw => by
     cases hj : listed.getD j false with
     | false => rfl
     | true =>
       have := waitsG_spec hG.cl _ _ _ hw hj
       rw [hun] at this
       cases this
   obtain ⟨hns, hlk⟩ := tidyF_spec ht ho
   obtain ⟨haf, hds⟩ := tidyG_spec htG ho
   obtain ⟨ds, hok, hrun⟩ := hst i o ((hop i o).2 ho)
   unfold okDs at hok
   rw [Bool.and_eq_true] at hok
   rw [Nat.zero_add] at hrun
   have hrun := hrun (fun j => listed.getD j false) k w (fun t => a.eval (.tmp t)) (by omega) hIw hun hcl (fun j hj => by
     unfold depL at hj
     simp only [List.any_eq_true, Bool.and_eq_true, decide_eq_true_eq] at hj
     obtain ⟨e, he, h1, h2⟩ := hj
     rw [← h1]
     exact hdep e (by simpa using he) h2) (fun j d hjd hcj => by
     unfold depB at hjd
     simp only [Bool.and_eq_true, List.any_eq_true, decide_eq_true_eq] at hjd
     obtain ⟨⟨e, he, h1, h2⟩, h3⟩ := hjd
     cases hoj : ops[j]? with
     | none => rw [hoj] at h3; simp at h3
     | some oj =>
       rw [hoj] at h3
       have hls := hdep e (by simpa using he) h2
       rw [h1] at hls
       exact hG.new j oj d hoj hls (by simpa using h3) (fun c hc => by
         rcases hcj with hcj | hcj
         · rw [hcj] at hc; cases hc
         · rw [hcj] at hc
           cases hc
           exact hun))
   obtain ⟨f1, f2, f3⟩ := fillR_spec (fun t => a.eval (.tmp t)) ds a0 (hin ds hok.2)
   generalize fillR (fun t => a.eval (.tmp t)) a0 ds = ai at hrun f1 f2 f3
   have agree : ∀ t ∈ o.looksAt ops, a.eval (.tmp t) = ai.eval (.tmp t) := fun t htk => by
     rw [f3]
     by_cases e : t ∈ ds
     · rw [if_pos e]
     · rw [if_neg e]
       have := List.all_eq_true.1 hok.1 t htk
       have hlt : laterB ops i t = true := by simpa [e] using this
       refine hG.old t fun j oj hj hd => ?_
       have h5 := List.all_eq_true.1 hlt j (List.mem_range.2 (Array.getElem?_eq_some_iff.1 hj).1)
       rw [hj] at h5
       simp only [hd, decide_true, Bool.not_true, Bool.false_or] at h5
       unfold depL at h5
       simp only [List.any_eq_true, Bool.and_eq_true, decide_eq_true_eq] at h5
       obtain ⟨e5, he5, h6, h7⟩ := h5
       cases hx : listed.getD j false with
       | false => rfl
       | true =>
         have := hG.cl j oj hj hx e5 (by simpa using he5) h7
         rw [h6, hun] at this
         cases this
   have hex : execOp a.eval o = execOp ai.eval o := execOp_congr o hns fun x hx => by
     cases x with
     | tmp t => exact agree t (by unfold Oper.looksAt; exact List.mem_append_left _ (List.mem_filterMap.2 ⟨.tmp t, by simpa using hx, rfl⟩))
     | _ => rfl
   have hwt : Region.wanted o (yielded ops a.tmps) = Region.wanted o (yielded ops ai.tmps) := wanted_congrF (by rw [hG.sz, f1]) agree
   have done : ∀ (u : Value) (w' : World), RelEnd a0.defers ai o.dst (I (putL (fun j => listed.getD j false) i) (k + 1)) (R i w) (T (i)) .normal (ai.put o.dst u) w' → K (a.put o.dst u) w' := fun u w' he => by
     obtain ⟨v, e, -, hI', hR', hT'⟩ := he
     refine hK u w' (by show I (fun j => (listed.setIfInBounds i true).getD j false) (listedG (listed.setIfInBounds i true)) w'; rw [putL_set hil, hls]; exact hI') (fun j u' hji hcj hwj h => hR i j w w' u' hji hcj hwj hR' h) fun hne => ?_
     cases hd2 : o.dst with
     | none => exact absurd hd2 hne
     | some d =>
       have hdn := (hds d hd2).1
       have h1 := congrArg (fun x : Act => x.eval (.tmp d)) e
       simp only [hd2] at h1
       have hdn2 : d < ai.tmps.size := by rw [f1]; exact hdn
       rw [eval_put_selfG hdn2, eval_put_selfG hdn2] at h1
       rw [h1]
       exact hT' hne
   have hLO : ¬ LetsOut (RelEnd a0.defers ai o.dst (I (putL (fun j => listed.getD j false) i) (k + 1)) (R i w) (T (i))) := fun ⟨_, _, h⟩ => h
   rw [hwt]
   unfold wpList at hrun
   by_cases hw : Region.wanted o (yielded ops ai.tmps) = true
   · rw [if_pos hw] at hrun ⊢
     rcases hrun with hrun | ⟨_, hrun⟩
     · unfold Oper.wp at hrun ⊢
       rw [hex]
       generalize (execOp ai.eval o).run P w = r at hrun ⊢
       cases r with
       | ok n w' =>
         cases n <;> simp only [Oper.upon, wpList] at hrun ⊢
         case value u => exact done u w' hrun
         case skip => exact done undef w' hrun
         case defer d =>
           obtain ⟨v, e, e2, -⟩ := hrun
           have h2 := congrArg List.length e2
           rw [put_defersG, ← f2] at h2
           simp at h2
         case enter f args =>
           refine Calls.mono hrun fun e w'' he => ?_
           cases e with
           | returned u => exact done u w'' he
           | panicked c => exact he.elim
           | outgrown => exact absurd he hLO
         case row row args => exact Rows.mono hrun fun u w'' he => done u w'' he
       | halt x w' =>
         cases x <;> simp only [Oper.upon] at hrun ⊢
         case panic u => exact hrun.elim
     · exact absurd hrun hLO
   · rw [if_neg hw] at hrun ⊢
     exact done undef w hrun
 · intro listed a w' hG hall hIw
   unfold okAll at hda
   rw [Bool.and_eq_true] at hda
   obtain ⟨f1, f2, f3⟩ := fillR_spec (fun t => a.eval (.tmp t)) dsA a0 (hin dsA hda.2)
   have : a = fillR (fun t => a.eval (.tmp t)) a0 dsA := act_extF (by rw [hG.sz, f1]) (by rw [hG.df, f2]) fun t _ => by
     rw [f3]
     by_cases e : t ∈ dsA
     · rw [if_pos e]
     · rw [if_neg e]
       refine hG.old_ t (unwritten ?_)
       cases hwb : writtenB ops t with
       | false => rfl
       | true =>
         obtain ⟨j, o, ho, hd⟩ := written_iff.1 hwb
         have := List.all_eq_true.1 hda.1 j (List.mem_range.2 (Array.getElem?_eq_some_iff.1 ho).1)
         rw [ho] at this
         simp only [Option.bind_some, hd] at this
         exact absurd (by simpa using this) e
   rw [this]
   have hall' : listedG listed = ops.size := by
     rw [← hG.ls]
     exact listedG_all fun i hi => by
       have := hall i (by rw [← hG.ls]; exact hi)
       rw [Array.getD_eq_getD_getElem?, Array.getElem?_eq_getElem hi] at this ⊢
       exact this
   refine hend (fun j => listed.getD j false) w' _ hall (by rw [← hall']; exact hIw) fun j d hjd hcj => ?_
   cases hoj : ops[j]? with
   | none => rw [hoj] at hjd; simp at hjd
   | some oj =>
     rw [hoj] at hjd
     exact hG.new j oj d hoj (hall j (Array.getElem?_eq_some_iff.1 hoj).1) (by simpa using hjd) (fun c hc => by rw [hcj] at hc; cases hc)
theorem wp_region_rel {P : Program} {id : Nat} {l : List Oper} {Q : Exit → Act → World → Prop} {w : World} {a0 : Act} (T : Nat → World → Value → Prop) (con : Nat → Option Nat) (I : (Nat → Bool) → Nat → World → Prop) (R : Nat → World → World → Prop) (hm : P.follows .mixedOrders = true) (ht : tidyF l.toArray a0.tmps.size = true) (hI : I (fun _ => false) 0 w.drew)
   (hR : ∀ (i j : Nat) (w w' : World) (u : Value), j ≠ i → con j ≠ some i → waitsG l.toArray l.toArray.size j i = false → R i w w' → T j w u → T j w' u) (h : wpRel P l.toArray T con I R Q a0 0 l) : (Code.region id l.toArray true).wp P Q a0 w := wp_region_relA a0 T con I R hm ht hI hR (by simpa using h)
theorem wpRel_step {P : Program} {ops : Array Oper} {T : Nat → World → Value → Prop} {con : Nat → Option Nat} {I : (Nat → Bool) → Nat → World → Prop} {R : Nat → World → World → Prop} {Q : Exit → Act → World → Prop} {a0 : Act} {i : Nat} {o : Oper} {rest : List Oper} (ds : List Nat) (hd : okDs ops i o ds = true)
   (h : ∀ (L : Nat → Bool) (k : Nat) (w : World) (vals : Nat → Value), k < ops.size → I L k w → L i = false → (∀ j : Nat, waitsG ops ops.size j i = true → L j = false) → (∀ j : Nat, depL o j = true → L j = true) → (∀ j d : Nat, depB ops o j d = true → con j = none ∨ con j = some i → T j w (vals d)) → wpList P ops (RelEnd a0.defers (fillR vals a0 ds) o.dst (I (putL L i) (k + 1)) (R i w) (T i)) [o] (fillR vals a0 ds) w) (h2 : wpRel P ops T con I R Q a0 (i + 1) rest) : wpRel P ops T con I R Q a0 i (o :: rest) := ⟨⟨ds, hd, h⟩, h2⟩
theorem wpRel_end {P : Program} {ops : Array Oper} {T : Nat → World → Value → Prop} {con : Nat → Option Nat} {I : (Nat → Bool) → Nat → World → Prop} {R : Nat → World → World → Prop} {Q : Exit → Act → World → Prop} {a0 : Act} {i : Nat} (ds : List Nat) (hd : okAll ops ds = true)
   (h : ∀ (L : Nat → Bool) (w : World) (vals : Nat → Value), (∀ j, j < ops.size → L j = true) → I L ops.size w → (∀ j d : Nat, (ops[j]?).bind (·.dst) = some d → con j = none → T j w (vals d)) → Q .normal (fillR vals a0 ds) w) : wpRel P ops T con I R Q a0 i [] := ⟨ds, hd, h⟩
end Go.Proofs.YtdjgicapbpoigaaGreatDoor
