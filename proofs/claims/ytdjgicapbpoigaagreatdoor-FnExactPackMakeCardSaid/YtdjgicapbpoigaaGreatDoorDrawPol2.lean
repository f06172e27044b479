/- How the laws draw policies: no bounds are asked. -/
import Derived.Test.YtdjgicapbpoigaaGreatDoorDrawPol
import Derived.Test.YtdjgicapbpoigaaGreatDoorKit
import Derived.Deep.RegionLaw
namespace Go.Proofs.YtdjgicapbpoigaaGreatDoor
open Go.RowKit
set_option linter.unusedSimpArgs false
set_option linter.unusedVariables false

theorem info_TestM : (Tryz.prog.info? 99).map (fun i => (i.zero, i.size, i.bytes)) = some (some (.agg #[.int .i64 0, .int .i64 0, .int .i64 0, .int .i64 0]), 4, 32) := by kernel_rfl
theorem info_RuleM : (Tryz.prog.info? 58).map (fun i => (i.zero, i.size, i.bytes)) = some (some (.agg #[.int .i64 0, .int .i64 0, .int .i64 0, .slice none 0 0]), 4, 48) := by kernel_rfl

theorem own_apart {w : World} {b1 b2 n1 n2 s1 s2 : Nat} {e1 e2 : TypeId} {v1 v2 : Value} {x1 x2 : List Value} (h1 : w.ownsRow b1 e1 s1 v1 n1 x1) (h2 : w.ownsRow b2 e2 s2 v2 n2 x2) (hne : e1 ≠ e2) : v1.ownBlock = none ∨ v1.ownBlock ≠ v2.ownBlock := by
 rcases h1.2 with ⟨rfl, _⟩ | ⟨g1, cap1, cur1, rfl, _, hg1, _⟩
 · exact .inl rfl
 rcases h2.2 with ⟨rfl, _⟩ | ⟨g2, cap2, cur2, rfl, _, hg2, _⟩
 · exact .inr (by intro e; cases e)
 · refine .inr fun e => ?_
   cases e
   have := hg1.symm.trans hg2
   exact hne (by injection this with h1; injection h1 with h2 h3)
theorem own_low {w w' : World} {B g s n : Nat} {e : TypeId} {v : Value} {xs : List Value} (h : w.ownsRow B e s v n xs) (hg : w.grownBy w' (some g)) (hB : g < B) : w'.ownsRow B e s v n xs :=
 h.kept hg (by
   rcases ho : v.ownBlock with _ | b
   · exact .inl rfl
   · exact .inr (by have := (h.lt b ho).1; intro e; cases e; omega))

theorem own_blk_ne {w : World} {base n k : Nat} {e t : TypeId} {size : Nat} {v : Value} {xs : List Value} {cs : Array Value} (h : w.ownsRow base e size v n xs) (hk : Blk w k t cs) (ht : t ≠ e) : v.ownBlock ≠ some k := by
 rcases h.2 with ⟨rfl, _⟩ | ⟨g', cap', cur, rfl, _, hg, _⟩
 · intro e; cases e
 · intro e
   cases e
   have := hg.symm.trans hk
   exact ht (by injection this with h1; injection h1 with h2 h3; exact h3.symm)
def RuleOwn (w : World) (B : Nat) (r : Rl) (cs : List Value) : Prop := ∃ tv, cs = [.int .i64 r.verdict, .int .i64 r.low, .int .i64 r.high, tv] ∧ w.ownsRow B 99 4 tv r.tests.length (tsR r.tests).flatten
def RulesOwn (w : World) (B : Nat) (rs : List Rl) (css : List (List Value)) : Prop := css.length = rs.length ∧ ∀ (i : Nat) (r : Rl) (cs : List Value), rs[i]? = some r → css[i]? = some cs → RuleOwn w B r cs
theorem RulesOwn.nil (w : World) (B : Nat) : RulesOwn w B [] [] := ⟨rfl, fun i r cs h => by simp at h⟩
theorem RulesOwn.imp {w w' : World} {B B' : Nat} {rs : List Rl} {css : List (List Value)} (h : RulesOwn w B rs css) (hi : ∀ (tv : Value) (n : Nat) (xs : List Value), w.ownsRow B 99 4 tv n xs → w'.ownsRow B' 99 4 tv n xs) : RulesOwn w' B' rs css :=
 ⟨h.1, fun i r cs h1 h2 => let ⟨tv, e, ho⟩ := h.2 i r cs h1 h2; ⟨tv, e, hi tv _ _ ho⟩⟩
theorem RulesOwn.snoc {w : World} {B : Nat} {rs : List Rl} {css : List (List Value)} {r : Rl} {cs : List Value} (h : RulesOwn w B rs css) (hr : RuleOwn w B r cs) : RulesOwn w B (rs ++ [r]) (css ++ [cs]) := by
 refine ⟨by simp [h.1], fun i r' cs' h1 h2 => ?_⟩
 have hl := h.1
 by_cases hi : i < rs.length
 · rw [List.getElem?_append_left hi] at h1
   rw [List.getElem?_append_left (by omega)] at h2
   exact h.2 i r' cs' h1 h2
 · rw [List.getElem?_append_right (by omega)] at h1
   rw [List.getElem?_append_right (by omega), hl] at h2
   have e : i - rs.length = 0 := by have := (List.getElem?_eq_some_iff.1 h1).1; simp at this; omega
   rw [e] at h1 h2
   simp at h1 h2
   subst h1 h2
   exact hr
theorem RulesOwn.are {w : World} {B : Nat} {rs : List Rl} {css : List (List Value)} (h : RulesOwn w B rs css) : RulesAre w rs css :=
 ⟨h.1, fun i r cs h1 h2 => by
   obtain ⟨tv, e, ho⟩ := h.2 i r cs h1 h2
   obtain ⟨A, n, c, rfl, hA⟩ := SlA.of_own ho (by rw [tsR_len]) (tsR_rows _)
   exact ⟨_, e, A, n, c, rfl, hA⟩⟩

def PolOwn (w : World) (B : Nat) (p : Pol) (v : Value) : Prop := ∃ rv css, v = .agg #[rv, .int .i64 p.els] ∧ w.ownsRow B 58 4 rv css.length css.flatten ∧ RulesOwn w B p.rules css
theorem PolOwn.is {w : World} {B : Nat} {p : Pol} {v : Value} (h : PolOwn w B p v) : PolIs w p v := by
 obtain ⟨rv, css, rfl, ho, hr⟩ := h
 exact ⟨rv, css, rfl, SlA.of_own ho rfl hr.are.rows, hr.are⟩
theorem PolOwn.below {w w' : World} {B : Nat} {p : Pol} {v : Value} (h : PolOwn w B p v) (hb : Below w.heap.size w w') : PolOwn w' B p v := by
 obtain ⟨rv, css, rfl, ho, hr⟩ := h
 exact ⟨rv, css, rfl, own_below ho hb, hr.imp fun tv n xs h => own_below h hb⟩
theorem PolOwn.grown {w w' : World} {B g : Nat} {p : Pol} {v : Value} (h : PolOwn w B p v) (hg : w.grownBy w' (some g)) (hB : g < B) : PolOwn w' B p v := by
 obtain ⟨rv, css, rfl, ho, hr⟩ := h
 exact ⟨rv, css, rfl, own_low ho hg hB, hr.imp fun tv n xs h => own_low h hg hB⟩

end Go.Proofs.YtdjgicapbpoigaaGreatDoor
