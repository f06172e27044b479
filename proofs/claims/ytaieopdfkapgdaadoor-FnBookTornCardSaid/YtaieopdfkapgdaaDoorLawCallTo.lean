/- The laws' helpers szIntS, szCall, toIntS, toCall. -/
import Derived.Test.YtaieopdfkapgdaaDoorLawCall
namespace Go.Proofs.YtaieopdfkapgdaaDoor
open Go.RowKit Go.Sort
set_option linter.unusedSimpArgs false
set_option linter.unusedVariables false

theorem szIntS_ok (A : Option Addr) (n c : Nat) (left : Int) (w : World) (h : n ≤ left) (h1 : left ≤ 9223372036854775807) :
    Calls Tryd.prog 66 #[.slice A n c, .int .i64 left] w fun e w' => e = .returned (.int .i64 (left - n)) ∧ w = w' := by
  go_enter Tryd.func66, Tryd.ntmps66
  have hd : ¬ left - n < 0 := by omega
  go_wp2
  go_ret
  exact ⟨rfl, rfl⟩
theorem szIntS_no (A : Option Addr) (n c : Nat) (left : Int) (w : World) (hn : n ≤ 9223372036854775807) (h0 : 0 ≤ left) (h : left < n) :
    Calls Tryd.prog 66 #[.slice A n c, .int .i64 left] w fun e w' => e = .returned (.int .i64 (-1)) ∧ w = w' := by
  go_enter Tryd.func66, Tryd.ntmps66
  have hd : left - n < 0 := by omega
  go_wp2
  go_ret
  exact ⟨rfl, rfl⟩
theorem szCall_ok (k : Int) (A : Option Addr) (n c : Nat) (left : Int) (w : World) (h : n ≤ left) (h1 : left ≤ 9223372036854775807) :
    Calls Tryd.prog 47 #[.agg #[.int .i64 k, .slice A n c], .int .i64 left] w fun e w' => e = .returned (.int .i64 (left - n)) ∧ Below w.heap.size w w' := by
  go_enter Tryd.func47, Tryd.ntmps47
  have hd : ¬ left - n < 0 := by omega
  go_wp2_with (go_at_call 66; refine (szIntS_ok A n c left _ h h1).mono ?_; rintro e w1 ⟨rfl, rfl⟩)
  go_ret
  exact ⟨rfl, by go_grown⟩
theorem szCall_no (k : Int) (A : Option Addr) (n c : Nat) (left : Int) (w : World) (hn : n ≤ 9223372036854775807) (h0 : 0 ≤ left) (h : left < n) :
    Calls Tryd.prog 47 #[.agg #[.int .i64 k, .slice A n c], .int .i64 left] w fun e w' => e = .returned (.int .i64 (-1)) ∧ Below w.heap.size w w' := by
  go_enter Tryd.func47, Tryd.ntmps47
  go_wp2_with (go_at_call 66; refine (szIntS_no A n c left _ hn h0 h).mono ?_; rintro e w1 ⟨rfl, rfl⟩)
  go_ret
  exact ⟨rfl, by go_grown⟩

set_option maxHeartbeats 1000000 in
theorem toIntS_any (u : Value) (g : List Int) (w : World) (hu : Sl w 1 u (ints g)) (hn : g.length ≤ 1048576) :
    Calls Tryd.prog 67 #[u] w fun e w' => ∃ v, e = .returned v ∧ w'.ownsRow w.heap.size 3 1 v g.length (ints g).flatten ∧ Below w.heap.size w w' := by
  obtain ⟨A, n, c, rfl, hA⟩ := hu
  have hl : g.length = n := by have := hA.len; rwa [ints_len] at this
  have hc := hA.cap
  have hm := hA.max
  unfold maxLen at hm
  rw [hl] at hn
  have hmk := fun W => run_make_rowN (P := Tryd.prog) 26 3 _ 1 8 Tryd.underlying26 info_int .i64 n (by omega) (by omega) W
  have HL := Lib.hid hl; clear hl
  go_enter Tryd.func67, Tryd.ntmps67
  go_wp2
  go_loopw [4] (fun i wr => ∃ (k : Nat) (cur : Array Value), k ≤ n ∧ i = .int .i64 k ∧ Blk wr w.heap.size 3 cur ∧ cur.size = n * 1 ∧ FilledTo cur 1 (ints g) k ∧ Below w.heap.size w wr) (fun i _ => n - natOf i)
  case atStart => exact ⟨0, _, Nat.zero_le _, rfl, Blk.new _ _ _, by simp [size_madeCells], FilledTo.zero _ _ _, by go_grown⟩
  case round =>
    obtain ⟨k, cur, hk, rfl, hbk, hcs, hf, hb⟩ := hrel
    have hsz := hb.size
    have hblt := hbk.lt
    by_cases hlt : k < n
    · obtain ⟨b, off, p, rfl, hab, hgp, hcell⟩ := intsGet hA hlt
      have c0 := hcell wr _ hb hab
      have HP := Lib.hid hgp; have HB := Lib.hid hbk; clear hgp hcell
      obtain ⟨x0, e0⟩ := hbk.some_ (i := k) (by omega)
      have f0 := hbk.frozen k
      clear hbk
      go_wp2
      refine ⟨⟨k + 1, setArr cur (k * 1) [.int .i64 p], by omega, by go_num, ?_, (setArr_size _ _ _).trans hcs, hf.next (by simp [ints, HP.out]) (ints_rows g) hcs hlt, ?_⟩, by simp [natOf]; omega⟩
      · have := HB.out.run [.int .i64 p] wr _ (k * 1)
        simpa [setRun] using this
      · have := below_run (Nat.le_refl w.heap.size) [.int .i64 p] wr (k * 1) hb
        simpa [setRun] using this
    · obtain rfl : k = n := by omega
      go_wp2
      go_ret
      refine ⟨_, rfl, ?_, hb⟩
      rw [HL.out]
      exact own_of_filled hbk (Nat.le_refl _) (by rw [ints_len]; exact HL.out) (ints_rows g) hcs (by unfold maxLen; omega) hf

theorem toCall_any (m : Int) (u : Value) (g : List Int) (w : World) (hu : Sl w 1 u (ints g)) (hn : g.length ≤ 1048576) :
    Calls Tryd.prog 48 #[.agg #[.int .i64 m, u]] w fun e w' => ∃ v, e = .returned (.agg #[.int .i64 m, v]) ∧ w'.ownsRow w.heap.size 3 1 v g.length (ints g).flatten ∧ Below w.heap.size w w' := by
  have hu0 := hu
  obtain ⟨A, n, c, rfl, hA⟩ := hu
  clear hA
  go_enter Tryd.func48, Tryd.ntmps48
  go_wp2_with fail
  refine (toIntS_any _ g _ (hu0.below (by go_grown)) hn).mono ?_; rintro e1 w1 ⟨v1, rfl, o1, b1⟩
  obtain ⟨A1, n1, k1, rfl, -⟩ := SlA.of_own o1 (ints_len g) (ints_rows g)
  have p0 : w1.cell? ⟨w.heap.size + 1, 0, none⟩ = some (.int .i64 0) := (b1.cell (p := ⟨w.heap.size + 1, 0, none⟩) (by simp)).trans (by simp [go_sem])
  have p1 : w1.cell? ⟨w.heap.size + 1, 1, none⟩ = some (.slice none 0 0) := (b1.cell (p := ⟨w.heap.size + 1, 1, none⟩) (by simp)).trans (by simp [go_sem])
  have p2 : w1.cell? ⟨w.heap.size + 2, 0, none⟩ = some (.int .i64 m) := (b1.cell (p := ⟨w.heap.size + 2, 0, none⟩) (by simp)).trans (by simp [go_sem])
  have p3 : w1.cell? ⟨w.heap.size + 2, 1, none⟩ = some (.slice none 0 0) := (b1.cell (p := ⟨w.heap.size + 2, 1, none⟩) (by simp)).trans (by simp [go_sem])
  have f0 : w1.frozen? ⟨w.heap.size + 1, 0, none⟩ = false := (b1.frozen (p := ⟨w.heap.size + 1, 0, none⟩) (by simp)).trans (by simp [go_sem])
  have f1 : w1.frozen? ⟨w.heap.size + 1, 1, none⟩ = false := (b1.frozen (p := ⟨w.heap.size + 1, 1, none⟩) (by simp)).trans (by simp [go_sem])
  have f2 : w1.frozen? ⟨w.heap.size + 2, 1, none⟩ = false := (b1.frozen (p := ⟨w.heap.size + 2, 1, none⟩) (by simp)).trans (by simp [go_sem])
  have hb : Below w.heap.size w w1 := below_then (by go_grown) b1
  go_wp2
  refine bodyPost_ret (v := .agg #[.int .i64 m, .slice A1 n1 k1]) (by simp [results, Tryd.results48, go_sem, p0, p1]) rfl ⟨_, rfl, ?_, ((hb.setCell (by show _ ≤ w.heap.size + 1 + 1; omega) _).setCell (by simp) _).setCell (by simp) _⟩
  exact own_base (ownsRow_setCell_below (ownsRow_setCell_below (ownsRow_setCell_below o1 (by simp) _) (by simp) _) (by simp) _) (by simp; omega)
end Go.Proofs.YtaieopdfkapgdaaDoor
