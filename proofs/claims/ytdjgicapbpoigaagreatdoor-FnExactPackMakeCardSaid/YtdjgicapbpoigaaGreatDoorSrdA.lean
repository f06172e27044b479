/- Joined texts: SrdV SrdR SrdP. -/
import Derived.Test.YtdjgicapbpoigaaGreatDoorTxt
import Derived.Test.YtdjgicapbpoigaaGreatDoorPolSA
import Derived.Deep.CutBlock
import Derived.Test.YtdjgicapbpoigaaGreatDoorDrawPol2
import Derived.Test.YtdjgicapbpoigaaGreatDoorRelA
import Derived.Test.YtdjgicapbpoigaaGreatDoorCodeS3
namespace Go.Proofs.YtdjgicapbpoigaaGreatDoor
open Go.RowKit
set_option linter.unusedSimpArgs false
set_option linter.unusedVariables false

abbrev TTestS : TypeId := 99
structure TT (w wr : World) (tb : Nat) (a b c d : Int) : Prop where
 test : Blk wr tb TTestS #[.int .i64 a, .int .i64 b, .int .i64 c, .int .i64 d]
 res : Blk wr w.heap.size TTestS #[.int .i64 0, .int .i64 0, .int .i64 0, .int .i64 0]
 below : Below w.heap.size w wr
 after : w.heap.size < tb
theorem TT.next {w wr w' : World} {tb : Nat} {a b c d : Int} (h : TT w wr tb a b c d) (hb : Below wr.heap.size wr w') : TT w w' tb a b c d :=
 ⟨h.test.below hb h.test.lt, h.res.below hb h.res.lt, below_then h.below hb, h.after⟩
theorem TT.set {w wr : World} {tb : Nat} {a b c d : Int} (h : TT w wr tb a b c d) (i : Nat) (x a' b' c' d' : Int) (e : (#[Value.int .i64 a, .int .i64 b, .int .i64 c, .int .i64 d]).setIfInBounds i (.int .i64 x) = #[.int .i64 a', .int .i64 b', .int .i64 c', .int .i64 d']) : TT w (wr.setCell ⟨tb, i, none⟩ (.int .i64 x)) tb a' b' c' d' :=
 ⟨by rw [← e]; exact h.test.set_ i _, h.res.far (show w.heap.size ≠ tb by have := h.after; omega) _, h.below.setCell (p := ⟨tb, i, none⟩) (Nat.le_of_lt h.after) _, h.after⟩
theorem TT.end_ {w wr : World} {tb : Nat} {a b c d : Int} (h : TT w wr tb a b c d) (i : Nat) (v : Value) : Below w.heap.size w (wr.setCell ⟨w.heap.size, i, none⟩ v) := h.below.setCell (p := ⟨w.heap.size, i, none⟩) (Nat.le_refl _) v
theorem own_lowsetS {w : World} {base n size rb i : Nat} {e : TypeId} {v x : Value} {xs : List Value} (h : w.ownsRow base e size v n xs) (hb : rb < base) : (w.setCell ⟨rb, i, none⟩ x).ownsRow base e size v n xs :=
 h.kept (grown_set w rb i x) (by
   rcases ho : v.ownBlock with _ | b
   · exact .inl rfl
   · exact .inr (by have := (h.lt b ho).1; intro e; cases e; omega))
end Go.Proofs.YtdjgicapbpoigaaGreatDoor

namespace Go.Proofs.YtdjgicapbpoigaaGreatDoor
open Go.RowKit
set_option linter.unusedSimpArgs false
set_option linter.unusedVariables false

abbrev TRulS : TypeId := 58
structure RQ (w w1 wr : World) (rb : Nat) (vd lo hi : Int) (tv : Value) : Prop where
 rule : Blk wr rb TRulS #[.int .i64 vd, .int .i64 lo, .int .i64 hi, tv]
 res : Blk wr w.heap.size TRulS #[.int .i64 0, .int .i64 0, .int .i64 0, .slice none 0 0]
 low : Below w1.heap.size w1 wr
 first : Below w.heap.size w w1
 more : w.heap.size < w1.heap.size
 after : w1.heap.size ≤ rb
theorem RQ.below {w w1 wr w' : World} {rb B : Nat} {a b c : Int} {tv : Value} (h : RQ w w1 wr rb a b c tv) (hb : Below B wr w') (hB : rb < B) : RQ w w1 w' rb a b c tv :=
 ⟨h.rule.below hb hB, h.res.below hb (by have := h.more; have := h.after; omega), h.low.trans (hb.mono (by have := h.after; omega)), h.first, h.more, h.after⟩
theorem RQ.next {w w1 wr w' : World} {rb : Nat} {a b c : Int} {tv : Value} (h : RQ w w1 wr rb a b c tv) (hb : Below wr.heap.size wr w') : RQ w w1 w' rb a b c tv := h.below hb h.rule.lt
theorem RQ.set {w w1 wr : World} {rb : Nat} {a b c a' b' c' : Int} {tv tv' : Value} (h : RQ w w1 wr rb a b c tv) (i : Nat) (x : Value) (e : (#[Value.int .i64 a, .int .i64 b, .int .i64 c, tv]).setIfInBounds i x = #[.int .i64 a', .int .i64 b', .int .i64 c', tv']) : RQ w w1 (wr.setCell ⟨rb, i, none⟩ x) rb a' b' c' tv' :=
 ⟨by rw [← e]; exact h.rule.set_ i _, h.res.far (show w.heap.size ≠ rb by have := h.more; have := h.after; omega) _, h.low.setCell (p := ⟨rb, i, none⟩) h.after _, h.first, h.more, h.after⟩
theorem RQ.all {w w1 wr : World} {rb : Nat} {a b c : Int} {tv : Value} (h : RQ w w1 wr rb a b c tv) : Below w.heap.size w wr := below_then h.first h.low
def tcS (t : Ts) : List Value := [.int .i64 t.field, .int .i64 t.mask, .int .i64 t.op, .int .i64 t.value]
theorem tsR_snoc (ts : List Ts) (t : Ts) : (tsR (ts ++ [t])).flatten = (tsR ts).flatten ++ tcS t := by
 simp [tsR, tcS]
 rfl
def sruR (rb i : Nat) (w w' : World) : Prop := (i = 8) ∨ Below w.heap.size w w' ∨ ∃ x cs, Blk w rb TRulS cs ∧ w' = w.setCell ⟨rb, 3, none⟩ x
theorem own_gbS {w w' : World} {base n : Nat} {e : TypeId} {size : Nat} {v : Value} {xs : List Value} (h : w.ownsRow base e size v n xs) (hg : w.grownBy w' v.ownBlock) (hb : base ≤ w.heap.size) : Below base w w' :=
 ⟨hg.os, hg.tape, hg.output, hg.size, fun k hk => hg.block k (by omega) (fun e => by have := (h.lt k e.symm).1; omega)⟩
theorem blk_flatS {w : World} {b : Nat} {t : TypeId} {l : List Value} (h : Blk w b t l.toArray) : ∀ (j : Nat) (u : Value), l[j]? = some u → w.cell? ((⟨b, 0, none⟩ : Addr).add j) = some u := fun j u hu => by
 rw [add_at, h.cell j]
 simpa using hu
theorem tcS_one (t : Ts) : ∀ u ∈ tcS t, u.oneCell' = true := by simp [tcS, Value.oneCell']
theorem putL_neS {L : Nat → Bool} {i j : Nat} (h : j ≠ i) : putL L i j = L j := by unfold putL; simp [h]
structure RZ (w w' : World) (rb qb pb : Nat) (r : Rl) (tv : Value) (res : Array Value) : Prop where
 rule : Blk w' rb TRulS #[.int .i64 r.verdict, .int .i64 r.low, .int .i64 r.high, tv]
 rows : Blk w' qb TRulS #[.int .i64 r.verdict, .int .i64 r.low, .int .i64 r.high, tv]
 pol : Blk w' pb 35 #[.slice (some ⟨qb, 0, none⟩) 1 1, .int .i64 1]
 own : w'.ownsRow (rb + 1) TTestS 4 tv r.tests.length (tsR r.tests).flatten
 res : Blk w' w.heap.size TRulS res
 below : Below w.heap.size w w'
 rlow : w.heap.size < rb
 qlow : w.heap.size < qb
 plow : w.heap.size < pb
theorem RZ.next {w w1 w2 : World} {rb qb pb : Nat} {r : Rl} {tv : Value} {res : Array Value} (h : RZ w w1 rb qb pb r tv res) (hb : Below w1.heap.size w1 w2) : RZ w w2 rb qb pb r tv res :=
 ⟨h.rule.below hb h.rule.lt, h.rows.below hb h.rows.lt, h.pol.below hb h.pol.lt, own_below h.own hb, h.res.below hb h.res.lt, below_then h.below hb, h.rlow, h.qlow, h.plow⟩
theorem RZ.set {w w1 : World} {rb qb pb : Nat} {r : Rl} {tv : Value} {res : Array Value} (h : RZ w w1 rb qb pb r tv res) (i : Nat) (x : Value) : RZ w (w1.setCell ⟨w.heap.size, i, none⟩ x) rb qb pb r tv (res.setIfInBounds i x) :=
 ⟨h.rule.far (show rb ≠ w.heap.size by have := h.rlow; omega) _, h.rows.far (show qb ≠ w.heap.size by have := h.qlow; omega) _, h.pol.far (show pb ≠ w.heap.size by have := h.plow; omega) _, own_lowsetS h.own (by have := h.rlow; omega), h.res.set_ i _, h.below.setCell (p := ⟨w.heap.size, i, none⟩) (Nat.le_refl _) _, h.rlow, h.qlow, h.plow⟩
theorem RZ.tests {w w1 : World} {rb qb pb : Nat} {r : Rl} {tv : Value} {res : Array Value} (h : RZ w w1 rb qb pb r tv res) : Sl w1 4 tv (tsR r.tests) :=
 SlA.of_own h.own (tsR_len _) (tsR_rows _)
theorem RZ.polIs {w w1 : World} {rb qb pb : Nat} {r : Rl} {tv : Value} {res : Array Value} (h : RZ w w1 rb qb pb r tv res) : PolIs w1 ⟨[r], 1⟩ (.agg #[.slice (some ⟨qb, 0, none⟩) 1 1, .int .i64 1]) := by
 refine ⟨_, [[.int .i64 r.verdict, .int .i64 r.low, .int .i64 r.high, tv]], rfl, ⟨_, 1, 1, rfl, SlA.of_filled h.rows rfl (by unfold maxLen; omega) ?_⟩, rfl, fun i r' cs h1 h2 => ?_⟩
 · intro i c hk hi j u hu
   match i, hi, hk with
   | 0, hi, _ => simp at hi; subst hi; simpa using hu
   | i + 1, _, h => omega
 · match i, h1, h2 with
   | 0, h1, h2 =>
     simp at h1 h2
     subst h1 h2
     exact ⟨tv, rfl, h.tests⟩
   | i + 1, h1, _ => simp at h1
def rzT (qb : Nat) (l : List UInt8) (r : Rl) (tv : Value) (ok eq : Bool) : Nat → World → Value → Prop
 | 0, _, u => u = .agg #[.int .i64 r.verdict, .int .i64 r.low, .int .i64 r.high, tv]
 | 1, _, u => u = .agg #[.slice (some ⟨qb, 0, none⟩) 1 1, .int .i64 1]
 | 2, _, u => u = .bool ok
 | 3, _, u => u = .bool ok
 | 4, _, u => ok = true → u = .agg #[.int .i64 r.verdict, .int .i64 r.low, .int .i64 r.high, tv]
 | 5, _, u => ok = true → u = .string ⟨(ruleText r).toArray⟩
 | 6, _, u => ok = true → u = .string ⟨l.toArray⟩
 | 7, _, u => ok = true → u = .string ⟨(l ++ [10]).toArray⟩
 | 8, _, u => ok = true → u = .bool eq
 | 9, _, u => u = .bool (ok && eq)
 | 11, _, u => u = .bool (ok && eq)
 | _, _, _ => True
theorem rzT_any {qb : Nat} {l : List UInt8} {r : Rl} {tv : Value} {ok eq : Bool} {j : Nat} {w w' : World} {u : Value} (h : rzT qb l r tv ok eq j w u) : rzT qb l r tv ok eq j w' u := by
 unfold rzT at *
 split <;> simp_all
def rzRes (b : Bool) (r : Rl) (tv : Value) : Array Value := if b then #[.int .i64 r.verdict, .int .i64 r.low, .int .i64 r.high, tv] else #[.int .i64 0, .int .i64 0, .int .i64 0, .slice none 0 0]

end Go.Proofs.YtdjgicapbpoigaaGreatDoor

namespace Go.Proofs.YtdjgicapbpoigaaGreatDoor
open Go.RowKit
set_option linter.unusedSimpArgs false
set_option linter.unusedVariables false

abbrev TPolS : TypeId := 35
theorem nlGo : ∀ (l cur : List UInt8), ((cutGo 10 cur l).map fun x => x ++ [10]).flatten = cur ++ l ++ [10]
 | [], cur => by simp [cutGo]
 | b :: l, cur => by
   unfold cutGo
   split
   · rename_i h
     rw [List.map_cons, List.flatten_cons, nlGo l [], h]; simp
   · rw [nlGo l _]; simp
theorem nl_cut (l : List UInt8) : ((cut 10 l).map fun x => x ++ [10]).flatten = l ++ [10] := nlGo l []
theorem polText_of {l : List UInt8} {rs : List Rl} {n : Nat} {last : List UInt8} {els : Int} (hn : (cut 10 l).length = n + 2) (hr : ((cut 10 l).take n).map (fun x => x ++ [10]) = rs.map ruleText) (h1 : (cut 10 l)[n]? = some last) (h2 : (cut 10 l)[n + 1]? = some []) (he : last = [101, 108, 115, 101, 32] ++ verdNm els) : polText ⟨rs, els⟩ = l := by
 have h := nl_cut l
 have e : cut 10 l = (cut 10 l).take n ++ [last] ++ [[]] := by
   apply List.ext_getElem?
   intro i
   by_cases hi : i < n
   · rw [List.append_assoc, List.getElem?_append_left (by simp; omega), List.getElem?_take_of_lt hi]
   · rw [List.append_assoc, List.getElem?_append_right (by simp; omega)]
     have hl : ((cut 10 l).take n).length = n := by simp; omega
     rw [hl]
     by_cases hi1 : i = n
     · subst hi1; simp [h1]
     · by_cases hi2 : i = n + 1
       · subst hi2
         rw [h2]
         rw [show n + 1 - n = 1 by omega]
         rfl
       · rw [List.getElem?_eq_none (by omega), List.getElem?_eq_none (by simp; omega)]
 rw [e] at h
 simp only [List.map_append, List.flatten_append, hr] at h
 simp at h
 have h3 : polText ⟨rs, els⟩ ++ [10] = l ++ [10] := by
   rw [← h, he]
   simp [polText, rulesText]
 exact List.append_cancel_right h3
structure PQ (w w1 wr : World) (els : Int) (rv : Value) (rs : List Rl) (css : List (List Value)) : Prop where
 r0 : Blk wr w.heap.size TPolS #[.slice none 0 0, .int .i64 0]
 p0 : Blk wr w1.heap.size TPolS #[rv, .int .i64 els]
 low : Below w1.heap.size w1 wr
 first : Below w.heap.size w w1
 after : w.heap.size < w1.heap.size
 own : wr.ownsRow (w1.heap.size + 1) TRulS 4 rv css.length css.flatten
 rules : RulesOwn wr (w1.heap.size + 1) rs css
theorem PQ.next {w w1 wr w2 : World} {els : Int} {rv : Value} {rs : List Rl} {css : List (List Value)} (h : PQ w w1 wr els rv rs css) (hb : Below wr.heap.size wr w2) : PQ w w1 w2 els rv rs css :=
 ⟨h.r0.below hb h.r0.lt, h.p0.below hb h.p0.lt, below_then h.low hb, h.first, h.after, own_below h.own hb, h.rules.imp fun tv n xs ho => own_below ho hb⟩
theorem PQ.all {w w1 wr : World} {els : Int} {rv : Value} {rs : List Rl} {css : List (List Value)} (h : PQ w w1 wr els rv rs css) : Below w.heap.size w wr := below_then h.first h.low
theorem PQ.setEls {w w1 wr : World} {els : Int} {rv : Value} {rs : List Rl} {css : List (List Value)} (h : PQ w w1 wr els rv rs css) (e : Int) : PQ w w1 (wr.setCell ⟨w1.heap.size, 1, none⟩ (.int .i64 e)) e rv rs css :=
 ⟨h.r0.far (show w.heap.size ≠ w1.heap.size by have := h.after; omega) _, h.p0.set_ 1 _, h.low.setCell (p := ⟨w1.heap.size, 1, none⟩) (Nat.le_refl _) _, h.first, h.after, own_lowsetS h.own (Nat.lt_succ_self _), h.rules.imp fun tv n xs ho => own_lowsetS ho (Nat.lt_succ_self _)⟩
theorem PQ.app {w w1 wr w2 : World} {els : Int} {rv v2 : Value} {rs : List Rl} {css : List (List Value)} {r : Rl} {cs : List Value} (h : PQ w w1 wr els rv rs css) (hr : RuleOwn wr (w1.heap.size + 1) r cs) (ho : w2.ownsRow (w1.heap.size + 1) TRulS 4 v2 (css.length + 1) (css ++ [cs]).flatten) (hg : wr.grownBy w2 rv.ownBlock) : PQ w w1 (w2.setCell ⟨w1.heap.size, 0, none⟩ v2) els v2 (rs ++ [r]) (css ++ [cs]) := by
 have haf := h.after
 have hb : Below (w1.heap.size + 1) wr w2 := (Below.refl _ wr).grown hg (by have := h.p0.lt; omega) (fun k hk => (h.own.lt k hk).1)
 have hk : ∀ (tv : Value) (n : Nat) (xs : List Value), wr.ownsRow (w1.heap.size + 1) TTestS 4 tv n xs → (w2.setCell ⟨w1.heap.size, 0, none⟩ v2).ownsRow (w1.heap.size + 1) TTestS 4 tv n xs := fun tv n xs ht =>
   own_lowsetS (ht.kept hg (own_apart ht h.own (by decide))) (Nat.lt_succ_self _)
 refine ⟨(h.r0.below hb (by omega)).far (show w.heap.size ≠ w1.heap.size by omega) _, (h.p0.below hb (by omega)).set_ 0 _, (h.low.trans (hb.mono (Nat.le_succ _))).setCell (p := ⟨w1.heap.size, 0, none⟩) (Nat.le_refl _) _, h.first, haf, ?_, ?_⟩
 · rw [List.length_append]
   exact own_lowsetS ho (Nat.lt_succ_self _)
 · exact (h.rules.imp hk).snoc (let ⟨tv, e, ht⟩ := hr; ⟨tv, e, hk _ _ _ ht⟩)
theorem PQ.rows {w w1 wr : World} {els : Int} {rv : Value} {rs : List Rl} {css : List (List Value)} (h : PQ w w1 wr els rv rs css) : ∀ c ∈ css, c.length = 4 := h.rules.are.rows
def PolRd (l : List UInt8) (w : World) (e : Ending) (w' : World) : Prop := ∃ (p : Pol) (v : Value) (at_ : Int), e = .returned (.tuple #[v, .int .i64 at_]) ∧ (at_ = 0 → polOkB p = true ∧ polText p = l) ∧ PolOwn w' w.heap.size p v ∧ Below w.heap.size w w'
theorem PQ.end_ {l : List UInt8} {w w1 wr : World} {els : Int} {rv : Value} {rs : List Rl} {css : List (List Value)} (h : PQ w w1 wr els rv rs css) (at_ : Int) (ha : at_ = 0 → polOkB ⟨rs, els⟩ = true ∧ polText ⟨rs, els⟩ = l) : PolRd l w (.returned (.tuple #[.agg #[rv, .int .i64 els], .int .i64 at_])) ((wr.setCell ⟨w.heap.size, 0, none⟩ rv).setCell ⟨w.heap.size, 1, none⟩ (.int .i64 els)) := by
 have haf := h.after
 have hs : w.heap.size < w1.heap.size + 1 := by omega
 refine ⟨⟨rs, els⟩, _, at_, rfl, ha, ⟨rv, css, rfl, own_base (own_lowsetS (own_lowsetS h.own hs) hs) (by omega), h.rules.imp fun tv n xs ho => own_base (own_lowsetS (own_lowsetS ho hs) hs) (by omega)⟩, ?_⟩
 exact (h.all.setCell (p := ⟨w.heap.size, 0, none⟩) (Nat.le_refl _) _).setCell (p := ⟨w.heap.size, 1, none⟩) (Nat.le_refl _) _
end Go.Proofs.YtdjgicapbpoigaaGreatDoor
