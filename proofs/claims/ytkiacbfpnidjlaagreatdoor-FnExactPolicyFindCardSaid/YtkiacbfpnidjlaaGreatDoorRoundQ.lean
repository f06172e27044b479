/- A region that draws its order, within a round of a range over a function: its operations only read, and its callees may draw and lay blocks. By the library's words on such regions outside a fence; no Go function is walked here. -/
import Derived.RangeFuncCalls
import Derived.Lib.QuietBelow
import Derived.OwnWalkIn
namespace Go.Proofs.YtkiacbfpnidjlaaGreatDoor
open Go.RowKit Go.Sort
set_option linter.unusedSimpArgs false
set_option linter.unusedVariables false

section
variable {P : Program} {ops : Array Oper} {md : Region.Mode} {l n : Nat} {C : World → Prop}

theorem opIn_of_quiet {Q : Exit → Act → World → Prop} {i : Nat} {a : Act} {w : World} {K' : Act → Prop} {K : Act → World → Prop} (hnd : ∀ (o : Oper) c, ops[i]? = some o → o.op ≠ .defer c) (hC : C w) (hK : ∀ a' w', C w' → K' a' → K a' w') (h : qOp P ops C i K' a) : wpOpIn (Fence.wide.inRound l) n P ops Q i K a w := by
  unfold wpOpIn
  cases ho : ops[i]? with
  | none => unfold qOp at h; simp only [ho] at h; exact hK _ _ hC h
  | some o =>
    obtain ⟨v, hy, hv⟩ := yieldsIn_of_qOp ho h
    simp only
    rcases hy with ⟨hw, hy⟩ | ⟨hw, rfl⟩
    · rw [if_pos hw]
      have hy := hy w hC
      unfold Oper.quietAt at hy
      refine ⟨fun _ _ => trivial, ?_⟩
      rw [show (Fence.wide.inRound l).round = some l from rfl, Oper.semAt_eq _ _ _ (fun c => hnd o c ho)]
      generalize (execOp a.eval o).run P w = r at hy ⊢
      cases r with
      | halt x w' => simp only [Oper.quietUpon] at hy
      | ok nx w' =>
        cases nx <;> simp only [Oper.quietUpon] at hy
        case value u =>
          obtain ⟨e1, e2⟩ := hy
          rw [e1, e2]
          exact hK _ _ hC hv
        case skip =>
          obtain ⟨e1, e2⟩ := hy
          subst e2
          rw [e1]
          exact hK _ _ hC hv
        case enter f args =>
          obtain ⟨e1, hc⟩ := hy
          rw [e1]
          refine ⟨fun h => (by cases h), CallsIn.inRound l (callsIn_wide.2 (hc.mono ?_))⟩
          rintro e w'' ⟨rfl, hw''⟩
          exact hK _ _ hw'' hv
    · rw [if_neg (by rw [hw]; simp)]
      exact ⟨fun _ _ => trivial, hK _ _ hC hv⟩

theorem anyIn_of_quiet {Q : Exit → Act → World → Prop} {Q0 : Act → Prop} (hnd : ∀ (i : Nat) (o : Oper) c, ops[i]? = some o → o.op ≠ .defer c) (hQ : ∀ a w, C w → Q0 a → Q .normal a w) : ∀ (fuel : Nat) (listed : Array Bool) (a : Act) (w : World), C w →
    wpAnyQ P md ops C Q0 fuel listed a → wpAnyIn (Fence.wide.inRound l) n P md ops Q fuel listed a w
  | 0, _, _, _, hw, h => ⟨h.1, hQ _ _ hw h.2⟩
  | fuel + 1, _, _, _, hw, h => ⟨fun h0 => hQ _ _ hw (h.1 h0), fun i hi => opIn_of_quiet (hnd i) hw (fun a' w' hw' => anyIn_of_quiet hnd hQ fuel _ a' w' hw') (h.2 i hi)⟩

/-- THE LAW. -/
theorem wpIn_round_quiet_below {id : Nat} {Q : Exit → Act → World → Prop} {a : Act} {w : World} {ls : List Oper} (hm : P.follows .mixedOrders = true) (hB : Region.lexB .any ls.toArray = true) (hnd : (ls.all fun o => match o.op with | .defer _ => false | _ => true) = true)
    (h : wpQuiet P ls.toArray (fun w' => ∃ p : Regrown, w' = grow (redrawn w p.d) p.os) (fun a' => ∀ w', (∃ p : Regrown, w' = grow (redrawn w p.d) p.os) → Q .normal a' w') ls a) : (Code.region id ls.toArray true).wpIn (Fence.wide.inRound l) n P Q a w := by
  have hd : ∀ (i : Nat) (o : Oper) c, ls.toArray[i]? = some o → o.op ≠ .defer c := fun i o c hi e => by
    have hi' : ls[i]? = some o := by simpa using hi
    have := List.all_eq_true.1 hnd o (List.mem_of_getElem? hi')
    rw [e] at this
    cases this
  simp only [Region.lexB, Bool.and_eq_true] at hB
  refine wpIn_region_any hm (anyIn_of_quiet (C := fun w' => ∃ p : Regrown, w' = grow (redrawn w p.d) p.os) hd (Q0 := fun a' => ∀ w', (∃ p : Regrown, w' = grow (redrawn w p.d) p.os) → Q .normal a' w') (fun _ w' hw' h => h w' hw') _ _ _ _ ⟨⟨w.drawn + 1, #[]⟩, by rw [grow_empty]; rfl⟩ ?_)
  have := wpAnyQ_lex (C := fun w' => ∃ p : Regrown, w' = grow (redrawn w p.d) p.os) (md := .any) hB.1 ls 0 (Array.replicate ls.toArray.size false) a (by simp) (by simpa using hB.2) h
  simpa using this
end
end Go.Proofs.YtkiacbfpnidjlaaGreatDoor
