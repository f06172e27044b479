/- The laws' helper toInsS, and a program that came in. -/
import Derived.Test.YtnlhnnidbppciaaGreatDoorLawA
import Derived.Test.YtnlhnnidbppciaaGreatDoorKit
namespace Go.Proofs.YtnlhnnidbppciaaGreatDoor
open Go.RowKit Go.Sort Go.WideShapes Go.ChangeShapes Go.ChangeAt
set_option linter.unusedSimpArgs false
set_option linter.unusedVariables false

set_option maxHeartbeats 1000000 in
theorem toInsS_any (u : Value) (g : List In4) (w : World) (hu : Sl w 4 u (insR g)) (hn : g.length ≤ 1048576) :
    Calls Tryz.prog 28 #[u] w fun e w' => ∃ v, e = .returned v ∧ w'.ownsRow w.heap.size 72 4 v g.length (insR g).flatten ∧ Below w.heap.size w w' := by
  obtain ⟨A, n, c, rfl, hA⟩ := hu
  have hl : g.length = n := by have := hA.len; rwa [insR_len] at this
  have hc := hA.cap
  have hm := hA.max
  unfold maxLen at hm
  rw [hl] at hn
  have hmk := fun W => run_make_rowN (P := Tryz.prog) 26 72 _ 4 32 Tryz.underlying26 info_Ins .i64 n (by omega) (by omega) W
  have HL := Lib.hid hl; clear hl
  go_enter Tryz.func28, Tryz.ntmps28
  go_wp2
  go_loopw [4] (fun i wr => ∃ (k : Nat) (cur : Array Value), k ≤ n ∧ i = .int .i64 k ∧ Blk wr w.heap.size 72 cur ∧ cur.size = n * 4 ∧ FilledTo cur 4 (insR g) k ∧ Below w.heap.size w wr) (fun i _ => n - natOf i)
  case atStart => exact ⟨0, _, Nat.zero_le _, rfl, Blk.new _ _ _, by simp [size_madeCells], FilledTo.zero _ _ _, by go_grown⟩
  case round =>
    obtain ⟨k, cur, hk, rfl, hbk, hcs, hf, hb⟩ := hrel
    have hsz := hb.size
    have hblt := hbk.lt
    by_cases hlt : k < n
    · obtain ⟨b, off, p, rfl, hab, hgp, hcell⟩ := ins_get hA hlt
      obtain ⟨c0, c1, c2, c3⟩ := hcell wr _ hb hab
      have HP := Lib.hid hgp; have HB := Lib.hid hbk; clear hgp hcell hbk
      go_wp2_with (go_at_call 63; refine (toIns_any p _).mono ?_; rintro e w1 ⟨rfl, hb1⟩; have hbk1 := HB.out.below hb1 hblt; obtain ⟨x0, e0⟩ := hbk1.some_ (i := k * 4) (by omega); obtain ⟨x1, e1⟩ := hbk1.some_ (i := k * 4 + 1) (by omega); obtain ⟨x2, e2⟩ := hbk1.some_ (i := k * 4 + 2) (by omega); obtain ⟨x3, e3⟩ := hbk1.some_ (i := k * 4 + 3) (by omega); have f0 := hbk1.frozen (k * 4); have f1 := hbk1.frozen (k * 4 + 1); have f2 := hbk1.frozen (k * 4 + 2); have f3 := hbk1.frozen (k * 4 + 3); have HB1 := Lib.hid hbk1; clear hbk1)
      refine ⟨⟨k + 1, setArr cur (k * 4) p.cells, by omega, by go_num, HB1.out.run p.cells _ _ (k * 4), (setArr_size _ _ _).trans hcs, hf.next (by simp [insR, HP.out]) (insR_rows g) hcs hlt, ?_⟩, by simp [natOf]; omega⟩
      exact below_run (Nat.le_refl _) p.cells w1 _ (below_step hb hsz hb1)
    · obtain rfl : k = n := by omega
      go_wp2
      go_ret
      refine ⟨_, rfl, ?_, hb⟩
      rw [HL.out]
      exact own_of_filled hbk (Nat.le_refl _) (by rw [insR_len]; exact HL.out) (insR_rows g) hcs (by unfold maxLen; omega) hf

theorem ins_arg {H : Type} {enc : TypeId × Value → H} {w : World} {base : Nat} {spare : Nat → Bool} {held : Bool} {fuel : Nat} {cs : List Value} {x : DataW H × List MemPlace}
    (h : DataW.trod enc Tryz.prog w base spare held fuel 46 cs = some x) : ∃ (v : Value) (g : List In4), cs = [v] ∧ Sl w 4 v (insR g) := by
  obtain ⟨v, css, rfl, hs, hr⟩ := slice_reads (size := 4) (R := fun r => ∃ p : In4, r = p.cells) Tryz.underlying46 (by kernel_rfl) (by omega) (fun n r y hy => by
    obtain ⟨hl, hf⟩ := struct_cells Tryz.underlying88 (by kernel_rfl) (by kernel_rfl) hy
    obtain ⟨v0, n0, y0, e0, h0⟩ := hf 0 _ rfl
    obtain ⟨v1, n1, y1, e1, h1⟩ := hf 1 _ rfl
    obtain ⟨v2, n2, y2, e2, h2⟩ := hf 2 _ rfl
    obtain ⟨v3, n3, y3, e3, h3⟩ := hf 3 _ rfl
    obtain ⟨x0, rfl, _⟩ := int_cell Tryz.underlying3 h0
    obtain ⟨x1, rfl, _⟩ := int_cell Tryz.underlying3 h1
    obtain ⟨x2, rfl, _⟩ := int_cell Tryz.underlying3 h2
    obtain ⟨x3, rfl, _⟩ := int_cell Tryz.underlying3 h3
    refine ⟨⟨x0, x1, x2, x3⟩, ?_⟩
    match r, hl with
    | [a0, a1, a2, a3], _ =>
      simp at e0 e1 e2 e3
      subst e0 e1 e2 e3
      rfl) h
  obtain ⟨g, rfl⟩ := all_map css (fun r hr' => (hr r hr').1)
  exact ⟨v, g, rfl, hs⟩
end Go.Proofs.YtnlhnnidbppciaaGreatDoor
