/- spec's check in the rules. -/
import Derived.Test.YtnlhnnidbppciaaGreatDoorChkS3
namespace Go.Proofs.YtnlhnnidbppciaaGreatDoor
open Go.RowKit
set_option linter.unusedSimpArgs false
set_option linter.unusedVariables false

/-- What is known, as a slice that lies apart. -/
def LsN (cg : Nat) (w : World) (lv : Value) (l : List (Lk × Bool)) : Prop := ∃ b off n c, lv = .slice (some ⟨b, off, none⟩) n c ∧ SlA w 5 (some ⟨b, off, none⟩) n c (knR l) ∧ b ≠ cg
theorem LsN.grown {cg : Nat} {w w' : World} {lv : Value} {l : List (Lk × Bool)} (h : LsN cg w lv l) (hg : w.grownBy w' (some cg)) : LsN cg w' lv l := by
  obtain ⟨b, off, n, c, e, hs, hb⟩ := h
  exact ⟨b, off, n, c, e, hs.grown hg (fun b' off' e' => by cases e'; exact hb), hb⟩
theorem LsN.sl {cg : Nat} {w : World} {lv : Value} {l : List (Lk × Bool)} (h : LsN cg w lv l) : Sl w 5 lv (knR l) := by
  obtain ⟨b, off, n, c, e, hs, hb⟩ := h
  exact ⟨_, _, _, e, hs⟩
theorem LsN.of_own {cg base n : Nat} {w : World} {v : Value} {l : List (Lk × Bool)} (h : w.ownsRow base 253 5 v (n + 1) (knR l).flatten) (hl : l.length = n + 1) (hc : cg < base) : LsN cg w v l := by
  obtain ⟨A, n', c, e1, hA⟩ := SlA.of_own h ((knR_len l).trans hl) (knR_rows l)
  have hn : 0 < n' := by have := hA.len; rw [knR_len] at this; omega
  obtain ⟨b, off, e2, hb, _⟩ := hA.at_ hn
  subst e1 e2
  refine ⟨b, off, n', c, rfl, hA, fun e => ?_⟩
  subst e
  have := (h.lt b rfl).1
  omega
theorem rulesN_get {cg : Nat} {w : World} {rs : List Rl} {css : List (List Value)} {rv : Value} (hs : SlN cg w 4 rv css) (hr : RulesN cg w rs css) {a : Nat} {r : Rl} (ha : rs[a]? = some r) :
    ∃ b off n c A2 n2 c2, rv = .slice (some ⟨b, off, none⟩) n c ∧ n = rs.length ∧ n ≤ c ∧ c ≤ 9223372036854775807 ∧ b < w.heap.size ∧ b ≠ cg ∧ SlN cg w 4 (.slice A2 n2 c2) (tsR r.tests) ∧
      w.cell? ⟨b, off + a * 4, none⟩ = some (.int .i64 r.verdict) ∧ w.cell? ⟨b, off + a * 4 + 1, none⟩ = some (.int .i64 r.low) ∧ w.cell? ⟨b, off + a * 4 + 2, none⟩ = some (.int .i64 r.high) ∧ w.cell? ⟨b, off + a * 4 + 3, none⟩ = some (.slice A2 n2 c2) := by
  obtain ⟨A, n, c, rfl, hA, hn⟩ := hs
  have hl := (List.getElem?_eq_some_iff.1 ha).1
  have hcs := hr.1
  have hln := hA.len
  obtain ⟨b, off, rfl, hb, hel⟩ := hA.at_ (by omega)
  have hc : css[a]? = some (css[a]'(by omega)) := List.getElem?_eq_getElem (by omega)
  obtain ⟨tv, e, ht⟩ := hr.2 a r _ ha hc
  obtain ⟨A2, n2, c2, rfl, hA2⟩ := id ht
  rw [e] at hc
  exact ⟨b, off, n, c, A2, n2, c2, rfl, by omega, hA.cap, hA.max, hb, hn (by omega) b off rfl, ht, hel a _ hc 0 _ rfl, hel a _ hc 1 _ rfl, hel a _ hc 2 _ rfl, hel a _ hc 3 _ rfl⟩
/-- The rules of a check, where they lie. -/
def RsN (cg : Nat) (w : World) (rv : Value) (rs : List Rl) : Prop := ∃ css, SlN cg w 4 rv css ∧ RulesN cg w rs css
theorem RsN.grown {cg : Nat} {w w' : World} {rv : Value} {rs : List Rl} (h : RsN cg w rv rs) (hg : w.grownBy w' (some cg)) : RsN cg w' rv rs := by
  obtain ⟨css, h1, h2⟩ := h
  exact ⟨css, h1.grown hg, h2.grown hg⟩
theorem RsN.form {cg : Nat} {w : World} {rv : Value} {rs : List Rl} (h : RsN cg w rv rs) : ∃ A n c, rv = .slice A n c ∧ n = rs.length ∧ n ≤ c ∧ c ≤ 9223372036854775807 := by
  obtain ⟨css, ⟨A, n, c, e, hA, _⟩, h2⟩ := h
  exact ⟨A, n, c, e, by have := hA.len; have := h2.1; omega, hA.cap, hA.max⟩
/-- What a call of the check leaves. -/
def ChkPost (cg : Nat) (cv rv : Value) (last : Int) (R : Nat → Bool → Prop) (w : World) (e : Ending) (w' : World) : Prop :=
  e = .returned (.tuple #[]) ∧ ∃ s' b, R s' b ∧ Blk w' cg 84 #[cv, rv, .int .i64 last, .int .i64 ((s' : Nat) : Int), .bool b] ∧ w.grownBy w' (some cg)

section
variable (cg : Nat) (cv rv : Value) (last : Int) (rs : List Rl)
set_option maxHeartbeats 1000000 in
theorem sRule_off (s a k : Nat) (v : Int) (lv : Value) (ok : Bool) (w : World) (h : Blk w cg 84 #[cv, rv, .int .i64 last, .int .i64 (s : Int), .bool ok]) (hs : s ≤ 20000) (ho : 6000 ≤ s ∨ ok = false) :
    Calls Tryz.prog 161 #[.pointer (some ⟨cg, 0, none⟩), .int .i64 (a : Int), .int .i64 (k : Int), .int .i64 v, lv] w (ChkPost cg cv rv last (fun s' b => s' = s + 1 ∧ b = false) w) := by
  have H := Lib.hid h; have HO := Lib.hid ho; clear h ho
  go_enter Tryz.func161, Tryz.ntmps161
  go_wp2_with fail
  refine (sStep_off cg cv rv last s ok _ H.out hs HO.out).mono ?_; rintro e w1 ⟨rfl, hb, hg⟩
  have HB := Lib.hid hb; clear hb
  go_wp2
  go_end0
  exact ⟨rfl, s + 1, false, ⟨rfl, rfl⟩, HB.out, hg⟩

theorem sPart_of (a k : Nat) (v : Int) (lv : Value) (fits : Bool) (w : World) (Q : Ending → World → Prop) (ha : a ≤ 100000) (hk : k ≤ 100000) (hQ : ∀ e w', Q e w' → e = .returned (.tuple #[]))
    (h : Calls Tryz.prog 161 #[.pointer (some ⟨cg, 0, none⟩), .int .i64 ((if fits then a else a + 1 : Nat) : Int), .int .i64 ((if fits then k + 1 else 0 : Nat) : Int), .int .i64 v, lv] w Q) :
    Calls Tryz.prog 203 #[.pointer (some ⟨cg, 0, none⟩), .int .i64 (a : Int), .int .i64 (k : Int), .int .i64 v, lv, .bool fits] w Q := by
  have HQ := Lib.hid hQ
  have H := Lib.hid h
  clear h hQ
  cases fits
  · simp only [if_neg (show ¬ (false = true) by simp)] at H
    rw [Int.natCast_add] at H
    go_enter Tryz.func203, Tryz.ntmps203
    go_wp2_with fail
    refine H.out.mono ?_; intro e w1 hq
    obtain rfl := HQ.out _ _ hq
    have H1 := Lib.hid hq; clear hq
    go_wp2
    go_end0
    exact H1.out
  · simp only [if_pos trivial] at H
    rw [Int.natCast_add] at H
    go_enter Tryz.func203, Tryz.ntmps203
    go_wp2_with fail
    refine H.out.mono ?_; intro e w1 hq
    obtain rfl := HQ.out _ _ hq
    have H1 := Lib.hid hq; clear hq
    go_wp2
    go_end0
    exact H1.out
end
end Go.Proofs.YtnlhnnidbppciaaGreatDoor
