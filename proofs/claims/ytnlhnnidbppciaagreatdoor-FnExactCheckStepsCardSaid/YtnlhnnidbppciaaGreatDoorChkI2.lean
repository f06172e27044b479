/- impl's check: a step; behind a look of a rule. -/
import Derived.Test.YtnlhnnidbppciaaGreatDoorChkI
import Derived.Test.YtnlhnnidbppciaaGreatDoorChkS6
import Derived.Deep.RegionHeld3
namespace Go.Proofs.YtnlhnnidbppciaaGreatDoor
open Go.RowKit
set_option linter.unusedSimpArgs false
set_option linter.unusedVariables false

/-- The rules of impl's check, where they lie. -/
def CkN (cg : Nat) (w : World) (rv : Value) (rs : List Rl) : Prop := ∃ css, SlN cg w 3 rv css ∧ css.length = rs.length ∧ ∀ (i : Nat) (r : Rl) (cs : List Value), rs[i]? = some r → css[i]? = some cs →
  ∃ A n c nb, cs = [.slice A n c, .int .i64 r.verdict, .bool nb] ∧ ((nb = true ∧ Never r) ∨ (nb = false ∧ ¬ Never r ∧ SlN cg w 5 (.slice A n c) (knR (looksOf r))))
theorem CkN.grown {cg : Nat} {w w' : World} {rv : Value} {rs : List Rl} (h : CkN cg w rv rs) (hg : w.grownBy w' (some cg)) : CkN cg w' rv rs := by
  obtain ⟨css, h1, h2, h3⟩ := h
  refine ⟨css, h1.grown hg, h2, fun i r cs a b => ?_⟩
  obtain ⟨A, n, c, nb, e, h⟩ := h3 i r cs a b
  refine ⟨A, n, c, nb, e, ?_⟩
  rcases h with h | ⟨h1, h2, h3⟩
  · exact .inl h
  · exact .inr ⟨h1, h2, h3.grown hg⟩
theorem CkN.form {cg : Nat} {w : World} {rv : Value} {rs : List Rl} (h : CkN cg w rv rs) : ∃ A n c, rv = .slice A n c ∧ n = rs.length ∧ n ≤ c ∧ c ≤ 9223372036854775807 := by
  obtain ⟨css, ⟨A, n, c, e, hA, _⟩, h2, _⟩ := h
  exact ⟨A, n, c, e, by have := hA.len; omega, hA.cap, hA.max⟩
theorem ckN_get {cg : Nat} {w : World} {rs : List Rl} {rv : Value} (h : CkN cg w rv rs) {a : Nat} {r : Rl} (ha : rs[a]? = some r) :
    ∃ b off n c A2 n2 c2 nb, rv = .slice (some ⟨b, off, none⟩) n c ∧ n = rs.length ∧ n ≤ c ∧ c ≤ 9223372036854775807 ∧ b < w.heap.size ∧ b ≠ cg ∧ ((nb = true ∧ Never r) ∨ (nb = false ∧ ¬ Never r ∧ SlN cg w 5 (.slice A2 n2 c2) (knR (looksOf r)))) ∧
      w.cell? ⟨b, off + a * 3, none⟩ = some (.slice A2 n2 c2) ∧ w.cell? ⟨b, off + a * 3 + 1, none⟩ = some (.int .i64 r.verdict) ∧ w.cell? ⟨b, off + a * 3 + 2, none⟩ = some (.bool nb) := by
  obtain ⟨css, ⟨A, n, c, rfl, hA, hn⟩, hcs, hr⟩ := h
  have hl := (List.getElem?_eq_some_iff.1 ha).1
  have hln := hA.len
  obtain ⟨b, off, rfl, hb, hel⟩ := hA.at_ (by omega)
  have hc : css[a]? = some (css[a]'(by omega)) := List.getElem?_eq_getElem (by omega)
  obtain ⟨A2, n2, c2, nb, e, ht⟩ := hr a r _ ha hc
  rw [e] at hc
  exact ⟨b, off, n, c, A2, n2, c2, nb, rfl, by omega, hA.cap, hA.max, hb, hn (by omega) b off rfl, ht, hel a _ hc 0 _ rfl, hel a _ hc 1 _ rfl, hel a _ hc 2 _ rfl⟩
/-- What a call of impl's check leaves. -/
def IPost (cg : Nat) (cv rv : Value) (last : Int) (R : Nat → Bool → Prop) (w : World) (e : Ending) (w' : World) : Prop :=
  e = .returned (.tuple #[]) ∧ ∃ s' b, R s' b ∧ Blk w' cg 91 #[cv, rv, .int .i64 last, .int .i64 ((s' : Nat) : Int), .bool (!b)] ∧ w.grownBy w' (some cg)

section
variable (cg : Nat) (cv rv : Value) (last : Int)
set_option maxHeartbeats 1000000 in
theorem iStep_on (s : Nat) (w : World) (h : Blk w cg 91 #[cv, rv, .int .i64 last, .int .i64 (s : Int), .bool false]) (hs : s < 6000) :
    Calls Tryz.prog 166 #[.pointer (some ⟨cg, 0, none⟩)] w fun e w' => e = .returned (.bool true) ∧ Blk w' cg 91 #[cv, rv, .int .i64 last, .int .i64 ((s + 1 : Nat) : Int), .bool false] ∧ w.grownBy w' (some cg) := by
  have c3 := (show _ = some (Value.int .i64 (s : Int)) from h.cell 3); have c4 := (show _ = some (Value.bool false) from h.cell 4); have f3 := h.frozen 3; have f4 := h.frozen 4
  have HF := Lib.hid (h.set_ 3 (.int .i64 ((s + 1 : Nat) : Int)))
  have hd : ¬ (6000 : Int) < (s : Int) + 1 := by omega
  clear h
  go_enter Tryz.func166, Tryz.ntmps166
  go_wp2
  go_ret
  exact ⟨rfl, HF.out, grown_set _ _ _ _⟩
set_option maxHeartbeats 1000000 in
theorem iStep_off (s : Nat) (ov : Bool) (w : World) (h : Blk w cg 91 #[cv, rv, .int .i64 last, .int .i64 (s : Int), .bool ov]) (hs : s ≤ 20000) (ho : 6000 ≤ s ∨ ov = true) :
    Calls Tryz.prog 166 #[.pointer (some ⟨cg, 0, none⟩)] w fun e w' => e = .returned (.bool false) ∧ Blk w' cg 91 #[cv, rv, .int .i64 last, .int .i64 ((s + 1 : Nat) : Int), .bool true] ∧ w.grownBy w' (some cg) := by
  have c3 := (show _ = some (Value.int .i64 (s : Int)) from h.cell 3); have c4 := (show _ = some (Value.bool ov) from h.cell 4); have f3 := h.frozen 3; have f4 := h.frozen 4
  have HF := Lib.hid (h.set_ 3 (.int .i64 ((s + 1 : Nat) : Int))); have HG := Lib.hid ((h.set_ 3 (.int .i64 ((s + 1 : Nat) : Int))).set_ 4 (.bool true))
  clear h
  by_cases hd : (6000 : Int) < (s : Int) + 1
  · clear ho
    go_enter Tryz.func166, Tryz.ntmps166
    go_wp2
    go_ret
    exact ⟨rfl, HG.out, (grown_set _ _ _ _).trans (grown_set _ _ _ _)⟩
  · obtain rfl : ov = true := by rcases ho with h | h; omega; exact h
    clear ho
    go_enter Tryz.func166, Tryz.ntmps166
    go_wp2
    go_ret
    exact ⟨rfl, HF.out, grown_set _ _ _ _⟩
set_option maxHeartbeats 1000000 in
theorem iRule_off (s : Nat) (a k v : Int) (kv : Value) (ov : Bool) (w : World) (h : Blk w cg 91 #[cv, rv, .int .i64 last, .int .i64 (s : Int), .bool ov]) (hs : s ≤ 20000) (ho : 6000 ≤ s ∨ ov = true) :
    Calls Tryz.prog 167 #[.pointer (some ⟨cg, 0, none⟩), .agg #[.int .i64 a, .int .i64 k, .int .i64 v], kv] w (IPost cg cv rv last (fun s' b => s' = s + 1 ∧ b = false) w) := by
  obtain ⟨X, hX⟩ : ∃ X, X = (w.alloc (.cells #[.pointer (some ⟨cg, 0, none⟩)] 92)).alloc (.cells #[.int .i64 a, .int .i64 k, .int .i64 v] 218) := ⟨_, rfl⟩
  have hbX : Below w.heap.size w X := by rw [hX]; go_grown
  have e0 : X.cell? ⟨w.heap.size, 0, none⟩ = some (.pointer (some ⟨cg, 0, none⟩)) := by rw [hX]; exact ((Blk.new w _ _).alloc _).cell 0
  have H := Lib.hid (h.same hbX); have HO := Lib.hid ho; have HX := Lib.hid hX; clear h ho hX
  go_enter Tryz.func167, Tryz.ntmps167
  go_wp2_with fail
  rw [← HX.out]
  go_loopg [] 1 (fun gk wr => wr = X ∧ gk = 1)
  case atStart => exact ⟨rfl, rfl⟩
  case round =>
    obtain ⟨rfl, -⟩ := hrel
    go_wp2_with fail
    refine (iStep_off cg cv rv last s ov _ H.out hs HO.out).mono ?_; rintro e w1 ⟨rfl, hb, hg⟩
    have HB := Lib.hid hb; clear hb
    go_wp2
    go_end0
    exact ⟨rfl, s + 1, false, ⟨rfl, rfl⟩, HB.out, (grown_of_below hbX _).trans hg⟩

set_option maxHeartbeats 2000000 in
/-- Behind a look of a rule: the closure goes on to the next look, or the next rule. -/
theorem iRuleOn_of (a k : Nat) (v : Int) (kv : Value) (h m : Bool) (q : Lk) (wb cb : Nat) (w : World) (R : Nat → Bool → Prop) (ha : a ≤ 100000) (hk : k ≤ 100000)
    (hW : Blk w wb 213 #[.int .i64 q.field, .int .i64 q.mask, .int .i64 q.op, .int .i64 q.value, .bool m]) (hC : Blk w cb 92 #[.pointer (some ⟨cg, 0, none⟩)])
    (H : ∀ W, Below w.heap.size w W → Calls Tryz.prog 167 #[.pointer (some ⟨cg, 0, none⟩), .agg #[.int .i64 ((nextA a h m : Nat) : Int), .int .i64 ((nextK k h m : Nat) : Int), .int .i64 v], kv] W (IPost cg cv rv last R W)) :
    Calls Tryz.prog 208 #[.agg #[.int .i64 (a : Int), .int .i64 (k : Int), .int .i64 v], kv, .bool h, .pointer (some ⟨wb, 0, none⟩), .pointer (some ⟨cb, 0, none⟩)] w (IPost cg cv rv last R w) := by
  have x4 := (show _ = some (Value.bool m) from hW.cell 4)
  have x0 := (show _ = some (Value.pointer (some ⟨cg, 0, none⟩)) from hC.cell 0)
  have l1 := hW.lt; have l2 := hC.lt
  have HH := Lib.hid H
  clear H hW hC
  by_cases hm : h = m
  · have h9 : Calls Tryz.prog 167 #[.pointer (some ⟨cg, 0, none⟩), .agg #[.int .i64 (a : Int), .int .i64 ((k : Int) + 1), .int .i64 v], kv] (w.alloc (.cells #[.int .i64 (a : Int), .int .i64 ((k : Int) + 1), .int .i64 v] 218)) (IPost cg cv rv last R (w.alloc (.cells #[.int .i64 (a : Int), .int .i64 ((k : Int) + 1), .int .i64 v] 218))) := by
      have := HH.out (w.alloc (.cells #[.int .i64 (a : Int), .int .i64 ((k : Int) + 1), .int .i64 v] 218)) (by go_grown)
      rw [show nextA a h m = a by simp [nextA, hm], show nextK k h m = k + 1 by simp [nextK, hm]] at this
      exact this
    have hd : (h == m) = true := by simp [hm]
    have H9 := Lib.hid h9
    clear h9 hm HH
    go_enter Tryz.func208, Tryz.ntmps208
    go_wp2_with fail
    refine H9.out.mono ?_; rintro e w3 ⟨rfl, s', b', hrun, hb3, hg3⟩
    have HF := Lib.hid (show IPost cg cv rv last R w (.returned (.tuple #[])) w3 from ⟨rfl, s', b', hrun, hb3, (grown_of_below (by go_grown) _).trans hg3⟩)
    clear hrun hb3 hg3
    go_wp2
    go_end0
    exact HF.out
  · have h9 : Calls Tryz.prog 167 #[.pointer (some ⟨cg, 0, none⟩), .agg #[.int .i64 ((a : Int) + 1), .int .i64 0, .int .i64 v], kv] (w.alloc (.cells #[.int .i64 ((a : Int) + 1), .int .i64 0, .int .i64 v] 218)) (IPost cg cv rv last R (w.alloc (.cells #[.int .i64 ((a : Int) + 1), .int .i64 0, .int .i64 v] 218))) := by
      have := HH.out (w.alloc (.cells #[.int .i64 ((a : Int) + 1), .int .i64 0, .int .i64 v] 218)) (by go_grown)
      rw [show nextA a h m = a + 1 by simp [nextA, hm], show nextK k h m = 0 by simp [nextK, hm]] at this
      exact this
    have hd : (h == m) = false := by simp [hm]
    have H9 := Lib.hid h9
    clear h9 hm HH
    go_enter Tryz.func208, Tryz.ntmps208
    go_wp2_with fail
    refine H9.out.mono ?_; rintro e w3 ⟨rfl, s', b', hrun, hb3, hg3⟩
    have HF := Lib.hid (show IPost cg cv rv last R w (.returned (.tuple #[])) w3 from ⟨rfl, s', b', hrun, hb3, (grown_of_below (by go_grown) _).trans hg3⟩)
    clear hrun hb3 hg3
    go_wp2
    go_end0
    exact HF.out
end
end Go.Proofs.YtnlhnnidbppciaaGreatDoor
