/- What a policy says of a call, in plain Lean. No program in sight. -/
import Derived.Test.YtkiacbfpnidjlaaGreatDoorNearP
namespace Go.Proofs.YtkiacbfpnidjlaaGreatDoor
open Go.RowKit
set_option linter.unusedSimpArgs false
set_option linter.unusedVariables false

def fieldZ (c : Cl) (f : Int) : Int := if f = 0 then c.num else (c.args[(f - 1).toNat]?).getD 0
def lookB (op n v : Int) : Bool := if op = 1 then n == v else if op = 2 then decide (n < v) else decide (v < n)
def holdsB (t : Ts) (c : Cl) : Bool := lookB t.op (Go.bits BinOp.and IntKind.i64 (fieldZ c t.field) t.mask) t.value
def rfitsB (r : Rl) (c : Cl) : Bool := inB c.num r.low r.high && r.tests.all fun t => holdsB t c
def pofB (els : Int) (c : Cl) : List Rl → Int
  | [] => els
  | r :: rs => if rfitsB r c then r.verdict else pofB els c rs
def polOf (p : Pol) (c : Cl) : Int := pofB p.els c p.rules
theorem pofB_skip {els : Int} {c : Cl} {rs : List Rl} {k : Nat} (h : ∀ (j : Nat) (r : Rl), j < k → rs[j]? = some r → rfitsB r c = false) : pofB els c rs = pofB els c (rs.drop k) := by
  induction rs generalizing k with
  | nil => simp
  | cons r rs ih =>
    cases k with
    | zero => rfl
    | succ k =>
      rw [List.drop_succ_cons, ← ih (fun j q hj hq => h (j + 1) q (by omega) (by simpa using hq))]
      rw [pofB, h 0 r (by omega) rfl]
      rfl
theorem pofB_at {els : Int} {c : Cl} {rs : List Rl} {k : Nat} {x : Rl} (h : ∀ (j : Nat) (r : Rl), j < k → rs[j]? = some r → rfitsB r c = false) (hx : rs[k]? = some x) (hf : rfitsB x c = true) : pofB els c rs = x.verdict := by
  rw [pofB_skip h]
  have hk := (List.getElem?_eq_some_iff.1 hx)
  obtain ⟨h1, rfl⟩ := hk
  rw [List.drop_eq_getElem_cons h1, pofB, if_pos hf]
theorem pofB_none {els : Int} {c : Cl} {rs : List Rl} (h : ∀ (j : Nat) (r : Rl), rs[j]? = some r → rfitsB r c = false) : pofB els c rs = els := by
  rw [pofB_skip (k := rs.length) (fun j r _ hr => h j r hr), List.drop_length]
  rfl
/-- A call as a value. -/
def ClIs (w : World) (c : Cl) (v : Value) : Prop := ∃ A cc, v = .agg #[.int .i64 c.num, .slice A 4 cc] ∧ SlA w 1 A 4 cc (ints c.args)
theorem ClIs.below {w w' : World} {c : Cl} {v : Value} (h : ClIs w c v) (hb : Below w.heap.size w w') : ClIs w' c v := by
  obtain ⟨A, cc, rfl, hA⟩ := h
  exact ⟨A, cc, rfl, hA.below hb⟩
theorem testsAll_take {ts : List Ts} {c : Cl} {k : Nat} {t : Ts} (h : ts[k]? = some t) : (ts.take (k + 1)).all (fun t => holdsB t c) = ((ts.take k).all (fun t => holdsB t c) && holdsB t c) := by
  rw [List.take_add_one, h]
  simp
end Go.Proofs.YtkiacbfpnidjlaaGreatDoor
