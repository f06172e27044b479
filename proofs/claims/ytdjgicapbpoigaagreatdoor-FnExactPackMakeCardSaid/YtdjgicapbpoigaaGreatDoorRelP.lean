/- A region that draws its order and in which an operation may panic, operation by operation: as wp_region_rel, and what holds of a world in which it panics. No Go function is walked here. -/
import Derived.Test.YtdjgicapbpoigaaGreatDoorRelA
namespace Go.Proofs.YtdjgicapbpoigaaGreatDoor
open Go.RowKit
set_option linter.unusedSimpArgs false
set_option linter.unusedVariables false

def RelEndP (X : List PanicEntry → World → Prop) (d : List Deferred) (a : Act) (dst : Option Tmp) (I R : World → Prop) (T : World → Value → Prop) : Exit → Act → World → Prop
 | .normal, a', w' => ∃ v, a' = a.put dst v ∧ a'.defers = d ∧ I w' ∧ R w' ∧ (dst ≠ none → T w' v)
 | .panic c, _, w' => X c w'
 | _, _, _ => False
def wpRelP (X : List PanicEntry → World → Prop) (P : Program) (ops : Array Oper) (T : Nat → World → Value → Prop) (con : Nat → Option Nat) (I : (Nat → Bool) → Nat → World → Prop) (R : Nat → World → World → Prop) (Q : Exit → Act → World → Prop) (a0 : Act) : Nat → List Oper → Prop
 | _, [] => ∃ ds, okAll ops ds = true ∧ ∀ (L : Nat → Bool) (w : World) (vals : Nat → Value), (∀ j, j < ops.size → L j = true) → I L ops.size w → (∀ j d : Nat, (ops[j]?).bind (·.dst) = some d → con j = none → T j w (vals d)) → Q .normal (fillR vals a0 ds) w
 | i, o :: rest => (∃ ds, okDs ops i o ds = true ∧ ∀ (L : Nat → Bool) (k : Nat) (w : World) (vals : Nat → Value), k < ops.size → I L k w → L i = false → (∀ j : Nat, waitsG ops ops.size j i = true → L j = false) → (∀ j : Nat, depL o j = true → L j = true) → (∀ j d : Nat, depB ops o j d = true → con j = none ∨ con j = some i → T j w (vals d)) → wpList P ops (RelEndP X a0.defers (fillR vals a0 ds) o.dst (I (putL L i) (k + 1)) (R i w) (T i)) [o] (fillR vals a0 ds) w) ∧ wpRelP X P ops T con I R Q a0 (i + 1) rest

theorem wpRelP_get {X : List PanicEntry → World → Prop} {P : Program} {ops : Array Oper} {T : Nat → World → Value → Prop} {con : Nat → Option Nat} {I : (Nat → Bool) → Nat → World → Prop} {R : Nat → World → World → Prop} {Q : Exit → Act → World → Prop} {a0 : Act} : ∀ (l : List Oper) (i : Nat), wpRelP X P ops T con I R Q a0 i l →
   (∀ (j : Nat) (o : Oper), l[j]? = some o → ∃ ds, okDs ops (i + j) o ds = true ∧ ∀ (L : Nat → Bool) (k : Nat) (w : World) (vals : Nat → Value), k < ops.size → I L k w → L (i + j) = false → (∀ j2 : Nat, waitsG ops ops.size j2 (i + j) = true → L j2 = false) → (∀ j2 : Nat, depL o j2 = true → L j2 = true) → (∀ j' d : Nat, depB ops o j' d = true → con j' = none ∨ con j' = some (i + j) → T j' w (vals d)) → wpList P ops (RelEndP X a0.defers (fillR vals a0 ds) o.dst (I (putL L (i + j)) (k + 1)) (R (i + j) w) (T (i + j))) [o] (fillR vals a0 ds) w) ∧
   ∃ ds, okAll ops ds = true ∧ ∀ (L : Nat → Bool) (w : World) (vals : Nat → Value), (∀ j, j < ops.size → L j = true) → I L ops.size w → (∀ j d : Nat, (ops[j]?).bind (·.dst) = some d → con j = none → T j w (vals d)) → Q .normal (fillR vals a0 ds) w
 | [], i, h => ⟨fun j o ho => by simp at ho, h⟩
 | o :: l, i, ⟨h1, h2⟩ => by
   obtain ⟨h3, h4⟩ := wpRelP_get l (i + 1) h2
   refine ⟨fun j o' ho => ?_, h4⟩
   cases j with
   | zero =>
     simp at ho
     subst ho
     exact h1
   | succ j =>
     have := h3 j o' (by simpa using ho)
     rw [show i + (j + 1) = i + 1 + j by omega]
     exact this

theorem wp_region_relPA {X : List PanicEntry → World → Prop} {P : Program} {id : Nat} {ops : Array Oper} {Q : Exit → Act → World → Prop} {w : World} (a0 : Act) (T : Nat → World → Value → Prop) (con : Nat → Option Nat) (I : (Nat → Bool) → Nat → World → Prop) (R : Nat → World → World → Prop) (hX : ∀ (c : List PanicEntry) (a : Act) (w : World), a.defers = a0.defers → (∀ t : Nat, writtenB ops t = false → a.eval (.tmp t) = a0.eval (.tmp t)) → X c w → Q (.panic c) a w) (hm : P.follows .mixedOrders = true) (ht : tidyF ops a0.tmps.size = true) (hI : I (fun _ => false) 0 w.drew)
   (hR : ∀ (i j : Nat) (w w' : World) (u : Value), j ≠ i → con j ≠ some i → waitsG ops ops.size j i = false → R i w w' → T j w u → T j w' u) (h : wpRelP X P ops T con I R Q a0 0 ops.toList) : (Code.region id ops true).wp P Q a0 w := by
 have htG : tidyG ops a0.tmps.size = true := by unfold tidyF at ht; rw [Bool.and_eq_true] at ht; exact ht.1
 obtain ⟨hst, dsA, hda, hend⟩ := wpRelP_get _ _ h
 have hop : ∀ (i : Nat) (o : Oper), ops.toList[i]? = some o ↔ ops[i]? = some o := fun i o => by rw [Array.getElem?_toList]
 have hin : ∀ (ds : List Nat), (ds.all fun t => writtenB ops t) = true → ∀ d ∈ ds, d < a0.tmps.size := fun ds hds d hd => by
   obtain ⟨j, o, ho, hdd⟩ := written_iff.1 (List.all_eq_true.1 hds d hd)
   exact ((tidyG_spec htG ho).2 d hdd).1
 refine wp_region_typedG a0 T con (fun listed w => I (fun j => listed.getD j false) (listedG listed) w) hm htG ?_ ?_ ?_
 · have h1 : (fun j => (Array.replicate ops.size false).getD j false) = fun _ => false := by
     funext j
     rw [Array.getD_eq_getD_getElem?, Array.getElem?_replicate]
     split <;> rfl
   have h0 : listedG (Array.replicate ops.size false) = 0 := by
     unfold listedG
     simp [List.count_eq_zero]
   show I (fun j => (Array.replicate ops.size false).getD j false) (listedG (Array.replicate ops.size false)) w.drew
   rw [h1, h0]
   exact hI
 · intro i o listed a w K ho hG hIw hun hdep hK
   have hil : i < listed.size := by rw [hG.ls]; exact (Array.getElem?_eq_some_iff.1 ho).1
   have hun' : listed.getD i true = false := by
     rw [Array.getD_eq_getD_getElem?, Array.getElem?_eq_getElem hil] at hun ⊢
     exact hun
   have hls := listedG_set hun'
   have hle := listedG_le (listed.setIfInBounds i true)
   rw [hls, Array.size_setIfInBounds, hG.ls] at hle
   obtain ⟨k, hkk⟩ : ∃ k, k = listedG listed := ⟨_, rfl⟩
   rw [← hkk] at hIw hls hle
   have hcl : ∀ j : Nat, waitsG ops ops.size j i = true → listed.getD j false = false := fun j hw => by
     cases hj : listed.getD j false with
     | false => rfl
     | true =>
       have := waitsG_spec hG.cl _ _ _ hw hj
       rw [hun] at this
       cases this
   obtain ⟨hns, hlk⟩ := tidyF_spec ht ho
   obtain ⟨haf, hds⟩ := tidyG_spec htG ho
   obtain ⟨ds, hok, hrun⟩ := hst i o ((hop i o).2 ho)
   unfold okDs at hok
   rw [Bool.and_eq_true] at hok
   rw [Nat.zero_add] at hrun
   have hrun := hrun (fun j => listed.getD j false) k w (fun t => a.eval (.tmp t)) (by omega) hIw hun hcl (fun j hj => by
     unfold depL at hj
     simp only [List.any_eq_true, Bool.and_eq_true, decide_eq_true_eq] at hj
     obtain ⟨e, he, h1, h2⟩ := hj
     rw [← h1]
     exact hdep e (by simpa using he) h2) (fun j d hjd hcj => by
     unfold depB at hjd
     simp only [Bool.and_eq_true, List.any_eq_true, decide_eq_true_eq] at hjd
     obtain ⟨⟨e, he, h1, h2⟩, h3⟩ := hjd
     cases hoj : ops[j]? with
     | none => rw [hoj] at h3; simp at h3
     | some oj =>
       rw [hoj] at h3
       have hls := hdep e (by simpa using he) h2
       rw [h1] at hls
       exact hG.new j oj d hoj hls (by simpa using h3) (fun c hc => by
         rcases hcj with hcj | hcj
         · rw [hcj] at hc; cases hc
         · rw [hcj] at hc
           cases hc
           exact hun))
   obtain ⟨f1, f2, f3⟩ := fillR_spec (fun t => a.eval (.tmp t)) ds a0 (hin ds hok.2)
   generalize fillR (fun t => a.eval (.tmp t)) a0 ds = ai at hrun f1 f2 f3
   have agree : ∀ t ∈ o.looksAt ops, a.eval (.tmp t) = ai.eval (.tmp t) := fun t htk => by
     rw [f3]
     by_cases e : t ∈ ds
     · rw [if_pos e]
     · rw [if_neg e]
       have := List.all_eq_true.1 hok.1 t htk
       have hlt : laterB ops i t = true := by simpa [e] using this
       refine hG.old t fun j oj hj hd => ?_
       have h5 := List.all_eq_true.1 hlt j (List.mem_range.2 (Array.getElem?_eq_some_iff.1 hj).1)
       rw [hj] at h5
       simp only [hd, decide_true, Bool.not_true, Bool.false_or] at h5
       unfold depL at h5
       simp only [List.any_eq_true, Bool.and_eq_true, decide_eq_true_eq] at h5
       obtain ⟨e5, he5, h6, h7⟩ := h5
       cases hx : listed.getD j false with
       | false => rfl
       | true =>
         have := hG.cl j oj hj hx e5 (by simpa using he5) h7
         rw [h6, hun] at this
         cases this
   have hex : execOp a.eval o = execOp ai.eval o := execOp_congr o hns fun x hx => by
     cases x with
     | tmp t => exact agree t (by unfold Oper.looksAt; exact List.mem_append_left _ (List.mem_filterMap.2 ⟨.tmp t, by simpa using hx, rfl⟩))
     | _ => rfl
   have hwt : Region.wanted o (yielded ops a.tmps) = Region.wanted o (yielded ops ai.tmps) := wanted_congrF (by rw [hG.sz, f1]) agree
   have done : ∀ (u : Value) (w' : World), RelEndP X a0.defers ai o.dst (I (putL (fun j => listed.getD j false) i) (k + 1)) (R i w) (T (i)) .normal (ai.put o.dst u) w' → K (a.put o.dst u) w' := fun u w' he => by
     obtain ⟨v, e, -, hI', hR', hT'⟩ := he
     refine hK u w' (by show I (fun j => (listed.setIfInBounds i true).getD j false) (listedG (listed.setIfInBounds i true)) w'; rw [putL_set hil, hls]; exact hI') (fun j u' hji hcj hwj h => hR i j w w' u' hji hcj hwj hR' h) fun hne => ?_
     cases hd2 : o.dst with
     | none => exact absurd hd2 hne
     | some d =>
       have hdn := (hds d hd2).1
       have h1 := congrArg (fun x : Act => x.eval (.tmp d)) e
       simp only [hd2] at h1
       have hdn2 : d < ai.tmps.size := by rw [f1]; exact hdn
       rw [eval_put_selfG hdn2, eval_put_selfG hdn2] at h1
       rw [h1]
       exact hT' hne
   have hLO : ¬ LetsOut (RelEndP X a0.defers ai o.dst (I (putL (fun j => listed.getD j false) i) (k + 1)) (R i w) (T (i))) := fun ⟨_, _, h⟩ => h
   rw [hwt]
   unfold wpList at hrun
   by_cases hw : Region.wanted o (yielded ops ai.tmps) = true
   · rw [if_pos hw] at hrun ⊢
     rcases hrun with hrun | ⟨_, hrun⟩
     · unfold Oper.wp at hrun ⊢
       rw [hex]
       generalize (execOp ai.eval o).run P w = r at hrun ⊢
       cases r with
       | ok n w' =>
         cases n <;> simp only [Oper.upon, wpList] at hrun ⊢
         case value u => exact done u w' hrun
         case skip => exact done undef w' hrun
         case defer dd =>
           obtain ⟨v, e, e2, -⟩ := hrun
           have h2 := congrArg List.length e2
           rw [put_defersG, ← f2] at h2
           simp at h2
         case enter f args =>
           refine Calls.mono hrun fun e w'' he => ?_
           cases e with
           | returned u => exact done u w'' he
           | panicked c => exact hX c a w'' hG.df (fun t ht => hG.old_ t (unwritten ht)) he
           | outgrown => exact absurd he hLO
         case row row args => exact Rows.mono hrun fun u w'' he => done u w'' he
       | halt x w' =>
         cases x <;> simp only [Oper.upon] at hrun ⊢
         case panic u => exact hX _ a w' hG.df (fun t ht => hG.old_ t (unwritten ht)) hrun
     · exact absurd hrun hLO
   · rw [if_neg hw] at hrun ⊢
     exact done undef w hrun
 · intro listed a w' hG hall hIw
   unfold okAll at hda
   rw [Bool.and_eq_true] at hda
   obtain ⟨f1, f2, f3⟩ := fillR_spec (fun t => a.eval (.tmp t)) dsA a0 (hin dsA hda.2)
   have : a = fillR (fun t => a.eval (.tmp t)) a0 dsA := act_extF (by rw [hG.sz, f1]) (by rw [hG.df, f2]) fun t _ => by
     rw [f3]
     by_cases e : t ∈ dsA
     · rw [if_pos e]
     · rw [if_neg e]
       refine hG.old_ t (unwritten ?_)
       cases hwb : writtenB ops t with
       | false => rfl
       | true =>
         obtain ⟨j, o, ho, hd⟩ := written_iff.1 hwb
         have := List.all_eq_true.1 hda.1 j (List.mem_range.2 (Array.getElem?_eq_some_iff.1 ho).1)
         rw [ho] at this
         simp only [Option.bind_some, hd] at this
         exact absurd (by simpa using this) e
   rw [this]
   have hall' : listedG listed = ops.size := by
     rw [← hG.ls]
     exact listedG_all fun i hi => by
       have := hall i (by rw [← hG.ls]; exact hi)
       rw [Array.getD_eq_getD_getElem?, Array.getElem?_eq_getElem hi] at this ⊢
       exact this
   refine hend (fun j => listed.getD j false) w' _ hall (by rw [← hall']; exact hIw) fun j d hjd hcj => ?_
   cases hoj : ops[j]? with
   | none => rw [hoj] at hjd; simp at hjd
   | some oj =>
     rw [hoj] at hjd
     exact hG.new j oj d hoj (hall j (Array.getElem?_eq_some_iff.1 hoj).1) (by simpa using hjd) (fun c hc => by rw [hcj] at hc; cases hc)
theorem wp_region_relP (X : List PanicEntry → World → Prop) {P : Program} {id : Nat} {l : List Oper} {Q : Exit → Act → World → Prop} {w : World} {a0 : Act} (T : Nat → World → Value → Prop) (con : Nat → Option Nat) (I : (Nat → Bool) → Nat → World → Prop) (R : Nat → World → World → Prop) (hX : ∀ (c : List PanicEntry) (a : Act) (w : World), a.defers = a0.defers → (∀ t : Nat, writtenB l.toArray t = false → a.eval (.tmp t) = a0.eval (.tmp t)) → X c w → Q (.panic c) a w) (hm : P.follows .mixedOrders = true) (ht : tidyF l.toArray a0.tmps.size = true) (hI : I (fun _ => false) 0 w.drew)
   (hR : ∀ (i j : Nat) (w w' : World) (u : Value), j ≠ i → con j ≠ some i → waitsG l.toArray l.toArray.size j i = false → R i w w' → T j w u → T j w' u) (h : wpRelP X P l.toArray T con I R Q a0 0 l) : (Code.region id l.toArray true).wp P Q a0 w := wp_region_relPA a0 T con I R hX hm ht hI hR (by simpa using h)
theorem wpRelP_step {X : List PanicEntry → World → Prop} {P : Program} {ops : Array Oper} {T : Nat → World → Value → Prop} {con : Nat → Option Nat} {I : (Nat → Bool) → Nat → World → Prop} {R : Nat → World → World → Prop} {Q : Exit → Act → World → Prop} {a0 : Act} {i : Nat} {o : Oper} {rest : List Oper} (ds : List Nat) (hd : okDs ops i o ds = true)
   (h : ∀ (L : Nat → Bool) (k : Nat) (w : World) (vals : Nat → Value), k < ops.size → I L k w → L i = false → (∀ j : Nat, waitsG ops ops.size j i = true → L j = false) → (∀ j : Nat, depL o j = true → L j = true) → (∀ j d : Nat, depB ops o j d = true → con j = none ∨ con j = some i → T j w (vals d)) → wpList P ops (RelEndP X a0.defers (fillR vals a0 ds) o.dst (I (putL L i) (k + 1)) (R i w) (T i)) [o] (fillR vals a0 ds) w) (h2 : wpRelP X P ops T con I R Q a0 (i + 1) rest) : wpRelP X P ops T con I R Q a0 i (o :: rest) := ⟨⟨ds, hd, h⟩, h2⟩
theorem wpRelP_end {X : List PanicEntry → World → Prop} {P : Program} {ops : Array Oper} {T : Nat → World → Value → Prop} {con : Nat → Option Nat} {I : (Nat → Bool) → Nat → World → Prop} {R : Nat → World → World → Prop} {Q : Exit → Act → World → Prop} {a0 : Act} {i : Nat} (ds : List Nat) (hd : okAll ops ds = true)
   (h : ∀ (L : Nat → Bool) (w : World) (vals : Nat → Value), (∀ j, j < ops.size → L j = true) → I L ops.size w → (∀ j d : Nat, (ops[j]?).bind (·.dst) = some d → con j = none → T j w (vals d)) → Q .normal (fillR vals a0 ds) w) : wpRelP X P ops T con I R Q a0 i [] := ⟨ds, hd, h⟩
end Go.Proofs.YtdjgicapbpoigaaGreatDoor
