/- How a check's data lie in memory, apart from the block that it turns: no Go function is walked here. -/
import Derived.Test.YtnlhnnidbppciaaGreatDoorChkP
import Derived.Test.YtnlhnnidbppciaaGreatDoorKit
namespace Go.Proofs.YtnlhnnidbppciaaGreatDoor
open Go.RowKit
set_option linter.unusedSimpArgs false
set_option linter.unusedVariables false

/-- A slice that reads as a list and lies apart from a block. -/
def SlN (cg : Nat) (w : World) (size : Nat) (v : Value) (cs : List (List Value)) : Prop := ∃ A n c, v = .slice A n c ∧ SlA w size A n c cs ∧ (0 < n → ∀ b off, A = some ⟨b, off, none⟩ → b ≠ cg)
theorem SlN.sl {cg : Nat} {w : World} {size : Nat} {v : Value} {cs : List (List Value)} (h : SlN cg w size v cs) : Sl w size v cs := by
  obtain ⟨A, n, c, e, hA, -⟩ := h
  exact ⟨A, n, c, e, hA⟩
theorem SlN.grown {cg : Nat} {w w' : World} {size : Nat} {v : Value} {cs : List (List Value)} (h : SlN cg w size v cs) (hg : w.grownBy w' (some cg)) : SlN cg w' size v cs := by
  obtain ⟨A, n, c, e, hA, hn⟩ := h
  exact ⟨A, n, c, e, ⟨hA.len, hA.cap, hA.max, fun h0 => let ⟨b, off, e, hl, he⟩ := hA.at_ h0
    ⟨b, off, e, Nat.lt_of_lt_of_le hl hg.size, fun k r hr j v hv => hg.cell (he k r hr j v hv) (fun e2 => hn h0 b off e (by cases e2; rfl))⟩⟩, hn⟩
theorem SlN.below {cg : Nat} {w w' : World} {size : Nat} {v : Value} {cs : List (List Value)} (h : SlN cg w size v cs) (hb : Below w.heap.size w w') : SlN cg w' size v cs := h.grown (grown_of_below hb _)
theorem SlN.of_sl {cg : Nat} {w : World} {size : Nat} {v : Value} {cs : List (List Value)} (h : Sl w size v cs) (hc : w.heap.size ≤ cg) : SlN cg w size v cs := by
  obtain ⟨A, n, c, e, hA⟩ := h
  refine ⟨A, n, c, e, hA, fun hn b' off' e' => ?_⟩
  obtain ⟨b, off, e2, hl, _⟩ := hA.at_ hn
  rw [e2] at e'; cases e'; omega
theorem SlN.of_own {cg : Nat} {w : World} {base : Nat} {e : TypeId} {size n : Nat} {v : Value} {cs : List (List Value)} (h : w.ownsRow base e size v n cs.flatten) (hl : cs.length = n) (hs : ∀ r ∈ cs, r.length = size) (hc : cg < base) : SlN cg w size v cs := by
  obtain ⟨A, n', c, e1, hA⟩ := SlA.of_own h hl hs
  refine ⟨A, n', c, e1, hA, fun hn b off e2 hb => ?_⟩
  subst e1 e2 hb
  have := (h.lt b rfl).1
  omega

theorem Blk.same {w w' : World} {g : Nat} {t : TypeId} {cs : Array Value} (h : Blk w g t cs) (hb : Below w.heap.size w w') : Blk w' g t cs := h.below hb h.lt
/-- Rules that are read, apart from a block. -/
def RulesN (cg : Nat) (w : World) (rs : List Rl) (css : List (List Value)) : Prop := css.length = rs.length ∧ ∀ (i : Nat) (r : Rl) (cs : List Value), rs[i]? = some r → css[i]? = some cs → ∃ tv, cs = [.int .i64 r.verdict, .int .i64 r.low, .int .i64 r.high, tv] ∧ SlN cg w 4 tv (tsR r.tests)
theorem RulesN.grown {cg : Nat} {w w' : World} {rs : List Rl} {css : List (List Value)} (h : RulesN cg w rs css) (hg : w.grownBy w' (some cg)) : RulesN cg w' rs css :=
  ⟨h.1, fun i r cs h1 h2 => by obtain ⟨tv, e, hs⟩ := h.2 i r cs h1 h2; exact ⟨tv, e, hs.grown hg⟩⟩
theorem RulesN.of {cg : Nat} {w : World} {rs : List Rl} {css : List (List Value)} (h : RulesAre w rs css) (hc : w.heap.size ≤ cg) : RulesN cg w rs css :=
  ⟨h.1, fun i r cs h1 h2 => by obtain ⟨tv, e, hs⟩ := h.2 i r cs h1 h2; exact ⟨tv, e, SlN.of_sl hs hc⟩⟩

/-- The cells of a look with whether it holds. -/
def knC (x : Lk × Bool) : List Value := [.int .i64 x.1.field, .int .i64 x.1.mask, .int .i64 x.1.op, .int .i64 x.1.value, .bool x.2]
def knR (l : List (Lk × Bool)) : List (List Value) := l.map knC
theorem knR_len (l : List (Lk × Bool)) : (knR l).length = l.length := by simp [knR]
theorem knR_rows (l : List (Lk × Bool)) : ∀ r ∈ knR l, r.length = 5 := fun r hr => by
  obtain ⟨x, _, rfl⟩ := List.mem_map.1 hr
  rfl
theorem knR_snoc (l : List (Lk × Bool)) (x : Lk × Bool) : knR (l ++ [x]) = knR l ++ [knC x] := by simp [knR]

theorem kn_get {cg : Nat} {w : World} {A : Option Addr} {n c : Nat} {l : List (Lk × Bool)} (h : SlA w 5 A n c (knR l)) {k : Nat} (hk : k < n) :
    ∃ b off x, A = some ⟨b, off, none⟩ ∧ b < w.heap.size ∧ l[k]? = some x ∧ (∀ (w' : World) (B : Nat), Below B w w' → b < B →
      w'.cell? ⟨b, off + k * 5, none⟩ = some (.int .i64 x.1.field) ∧ w'.cell? ⟨b, off + k * 5 + 1, none⟩ = some (.int .i64 x.1.mask) ∧ w'.cell? ⟨b, off + k * 5 + 2, none⟩ = some (.int .i64 x.1.op) ∧ w'.cell? ⟨b, off + k * 5 + 3, none⟩ = some (.int .i64 x.1.value) ∧ w'.cell? ⟨b, off + k * 5 + 4, none⟩ = some (.bool x.2)) := by
  have hl := h.len
  rw [knR_len] at hl
  obtain ⟨b, o, e, hb, hc⟩ := h.get hk
  have hk' : k < l.length := by omega
  refine ⟨b, o, l[k], e, hb, List.getElem?_eq_getElem hk', fun w' B hw hB => ?_⟩
  have hr : (knR l)[k]? = some (knC l[k]) := by simp [knR, hk']
  exact ⟨cellAt hw hB (hc _ hr 0 _ rfl), cellAt hw hB (hc _ hr 1 _ rfl), cellAt hw hB (hc _ hr 2 _ rfl), cellAt hw hB (hc _ hr 3 _ rfl), cellAt hw hB (hc _ hr 4 _ rfl)⟩
end Go.Proofs.YtnlhnnidbppciaaGreatDoor
