/- A region that draws its order, within a round of a range over a function: all its operations but the last ones only read, in whatever order, and then come the last ones, in the one order that is left. By the library's words on such regions outside a fence; no Go function is walked here. -/
import Derived.RangeFuncCalls
import Derived.StillTailTactics
import Derived.OwnWalkIn
import Derived.Test.YteflnpejhhkchaaGreatDoorMarks
namespace Go.Proofs.YteflnpejhhkchaaGreatDoor
open Go.RowKit
set_option linter.unusedSimpArgs false
set_option linter.unusedVariables false

section
variable {P : Program} {ops : Array Oper} {md : Region.Mode} {l n : Nat} {Q : Exit → Act → World → Prop} {w : World}

theorem opIn_of_still {i : Nat} {a : Act} {K' : Act → Prop} {K : Act → World → Prop} (hnd : ∀ (o : Oper) c, ops[i]? = some o → o.op ≠ .defer c) (hK : ∀ a', K' a' → K a' w) (h : stOp P ops w i K' a) : wpOpIn (Fence.wide.inRound l) n P ops Q i K a w := by
  unfold wpOpIn
  cases ho : ops[i]? with
  | none => unfold stOp at h; simp only [ho] at h; exact hK _ h
  | some o =>
    obtain ⟨v, hy, hv⟩ := yieldsAt_of_stOp ho h
    simp only
    rcases hy with ⟨hw, hy⟩ | ⟨hw, rfl⟩
    · rw [if_pos hw]
      refine ⟨fun _ _ => trivial, ?_⟩
      rw [show (Fence.wide.inRound l).round = some l from rfl, Oper.semAt_eq _ _ _ (fun c => hnd o c ho)]
      rcases hy with hy | ⟨hy, rfl⟩ | ⟨f, args, hy, hc⟩
      · rw [hy]; exact hK _ hv
      · rw [hy]; exact hK _ hv
      · rw [hy]
        refine ⟨fun h => (by cases h), CallsIn.inRound l (callsIn_wide.2 (hc.mono ?_))⟩
        rintro e w' ⟨rfl, rfl⟩
        exact hK _ hv
    · rw [if_neg (by rw [hw]; simp)]
      exact ⟨fun _ _ => trivial, hK _ hv⟩

theorem anyIn_of_head {m g : Nat} {L : Array Bool → Act → Prop} (hnd : ∀ (i : Nat) (o : Oper) c, ops[i]? = some o → o.op ≠ .defer c) (hL : ∀ listed a, L listed a → wpAnyIn (Fence.wide.inRound l) n P md ops Q g listed a w) :
    ∀ (f : Nat) (listed : Array Bool) (a : Act), wpAnyL P md ops w m L f listed a → wpAnyIn (Fence.wide.inRound l) n P md ops Q (f + g) listed a w
  | 0, listed, a, h => by rw [Nat.zero_add]; exact hL _ _ h
  | f + 1, listed, a, h => by
    rw [show f + 1 + g = (f + g) + 1 by omega]
    exact ⟨fun h0 => absurd h0 h.1, fun i hi => opIn_of_still (hnd i) (fun a' h' => anyIn_of_head hnd hL f _ a' h') (h.2 i hi).2⟩

theorem anyIn_of_seq {F : Fence} : ∀ (t : List Oper) (k : Nat) (listed : Array Bool) (a : Act) (w : World), (∀ j, t[j]? = ops[k + j]?) →
    Region.seqB md ops t.length k listed = true → wpListIn F n P ops Q t a w → wpAnyIn F n P md ops Q t.length listed a w
  | [], _, _, _, _, _, hB, h => ⟨by simpa [Region.seqB] using hB, h⟩
  | o :: t, k, listed, a, w, hl, hB, h => by
    have h0 : ops[k]? = some o := by simpa using (hl 0).symm
    simp only [List.length_cons, Region.seqB, Bool.and_eq_true, decide_eq_true_eq] at hB
    refine ⟨fun h1 => (by rw [hB.1] at h1; cases h1), fun i hi => ?_⟩
    rw [hB.1] at hi
    obtain rfl : i = k := by simpa using hi
    have hw : wpOpIn F n P ops Q i (wpListIn F n P ops Q t) a w := by unfold wpOpIn; simp only [h0]; exact h
    exact wpOpIn_mono (fun a' w' h' => anyIn_of_seq t (i + 1) _ a' w' (fun j => by have := hl (j + 1); simpa [Nat.add_assoc, Nat.add_comm 1 j] using this) hB.2 h') hw

/-- THE LAW. -/
theorem wpIn_round_tail {id : Nat} {a : Act} {w : World} {ls : List Oper} (k : Nat) (hm : P.follows .mixedOrders = true) (hB : Region.lexTailB .any ls.toArray k = true) (hnd : (ls.all fun o => match o.op with | .defer _ => false | _ => true) = true)
    (h : wpStill P ls.toArray { w with drawn := w.drawn + 1 } (fun a' => wpListIn (Fence.wide.inRound l) n P ls.toArray Q (ls.drop k) a' { w with drawn := w.drawn + 1 }) (ls.take k) a) : (Code.region id ls.toArray true).wpIn (Fence.wide.inRound l) n P Q a w := by
  have hd : ∀ (i : Nat) (o : Oper) c, ls.toArray[i]? = some o → o.op ≠ .defer c := fun i o c hi e => by
    have hi' : ls[i]? = some o := by simpa using hi
    have := List.all_eq_true.1 hnd o (List.mem_of_getElem? hi')
    rw [e] at this
    cases this
  simp only [Region.lexTailB, Bool.and_eq_true, decide_eq_true_eq] at hB
  obtain ⟨⟨⟨⟨hsel, hn⟩, hs⟩, hc⟩, hlex⟩ := hB
  have hn' : k < ls.length := by simpa using hn
  have htl : (ls.take k).length = k := by simp; omega
  have hdl : (ls.drop k).length = ls.toArray.size - k := by simp
  have inv0 : HeadInv .any ls.toArray k (Array.replicate ls.toArray.size false) :=
    ⟨by simp, fun j oj _ hl => (by rw [getD_replicate_false] at hl; cases hl), fun t _ ht => getD_in (by simpa using ht) (getD_replicate_false _ _)⟩
  have H := wpAnyL_lex (md := .any) (g := ls.toArray.size - k) hsel hs hc hn (ls.take k) 0 _ a (fun j hj => by
    have hj' : j < k := by rw [htl] at hj; exact hj
    simp [hj']) (by simpa using htl) inv0 (by rw [htl]; exact hlex) h
  refine wpIn_region_any hm ?_
  have := anyIn_of_head (n := n) (l := l) (Q := Q) (g := ls.toArray.size - k) hd (fun listed a' hL => by
    have := anyIn_of_seq (md := .any) (F := Fence.wide.inRound l) (n := n) (Q := Q) (ls.drop k) k listed a' { w with drawn := w.drawn + 1 } (fun j => by simp [List.getElem?_drop]) (by rw [hdl]; exact hL.1) hL.2
    rwa [hdl] at this) _ _ _ H
  rw [htl, show k + (ls.toArray.size - k) = ls.toArray.size by omega] at this
  exact this
end
end Go.Proofs.YteflnpejhhkchaaGreatDoor
