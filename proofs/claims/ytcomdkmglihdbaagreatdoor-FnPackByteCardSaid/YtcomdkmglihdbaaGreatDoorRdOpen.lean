/- How a reader for draws is opened on letters that came in. -/
import Derived.Test.YtcomdkmglihdbaaGreatDoorRd
namespace Go.Proofs.YtcomdkmglihdbaaGreatDoor
open Go.RowKit
set_option linter.unusedSimpArgs false
set_option linter.unusedVariables false

/-- The cells of letters. -/
def u8s (ys : List Int) : List (List Value) := ys.map fun y => [.int .u8 y]
theorem u8s_len (ys : List Int) : (u8s ys).length = ys.length := by simp [u8s]

theorem rd_new {w w' : World} {A : Option Addr} {n c m c' : Nat} {ys : List Int} (h : SlA w 1 A n c (u8s ys)) (hb : ∀ y ∈ ys, 0 ≤ y ∧ y ≤ 255) (hm : m ≤ n) (hf : m ≤ 2000) (hc : m ≤ c') (hc2 : c' ≤ maxLen)
    (hw : Below w.heap.size w w') (hk : Blk w' w.heap.size 58 #[.slice A m c', .int .i64 0]) : Rd w' w.heap.size 0 := by
  have hl : ys.length = n := by have := h.len; rwa [u8s_len] at this
  refine ⟨A, m, c', ys.take m, by simpa using hk, by rw [List.length_take]; omega, hf, hc, hc2, fun y hy => hb y (List.mem_of_mem_take hy), fun hm0 => ?_⟩
  obtain ⟨b, off, e, hbw, hcell⟩ := h.get (k := 0) (by omega)
  obtain ⟨b2, off2, e2, hbw2, hel⟩ := h.at_ (by omega)
  refine ⟨b2, off2, e2, hbw2, fun k y hy => ?_⟩
  have hk : k < m := by have := (List.getElem?_eq_some_iff.1 hy).1; rw [List.length_take] at this; omega
  rw [List.getElem?_take, if_pos hk] at hy
  have hr : (u8s ys)[k]? = some [.int .u8 y] := by simp [u8s, hy]
  have f := hel k _ hr 0 _ rfl
  rw [Nat.mul_one, Nat.add_zero] at f
  exact cellAt hw hbw2 f

theorem l1Open_any (v : Value) (ys : List Int) (w : World) (hs : Sl w 1 v (u8s ys)) (hb : ∀ y ∈ ys, 0 ≤ y ∧ y ≤ 255) :
    Calls Tryz.prog 12 #[v] w fun e w' => e = .returned (.pointer (some ⟨w.heap.size, 0, none⟩)) ∧ Rd w' w.heap.size 0 ∧ Below w.heap.size w w' := by
  obtain ⟨A, n, c, rfl, hA⟩ := hs
  have hc := hA.cap
  have hm := hA.max
  have hm' := hm
  unfold maxLen at hm
  by_cases hn : n ≤ 2000
  · have HA := Lib.hid hA; clear hA
    go_enter Tryz.func12, Tryz.ntmps12
    go_wp2
    go_ret
    exact ⟨rfl, rd_new HA.out hb (Nat.le_refl _) hn hc hm' (by go_grown) (Blk.new w _ _), by go_grown⟩
  · have hd : (2000 : Int) < n := by omega
    have HA := Lib.hid hA; clear hA
    go_enter Tryz.func12, Tryz.ntmps12
    go_wp2
    go_ret
    exact ⟨rfl, rd_new (m := 2000) HA.out hb (by omega) (Nat.le_refl _) (by omega) hm' (by go_grown) (Blk.new w _ _), by go_grown⟩
end Go.Proofs.YtcomdkmglihdbaaGreatDoor
