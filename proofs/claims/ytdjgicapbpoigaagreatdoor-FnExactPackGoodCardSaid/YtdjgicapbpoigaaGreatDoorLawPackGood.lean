/- FnExactPackGood, walked: both sides say the same of every pack. -/
import Derived.Test.YtdjgicapbpoigaaGreatDoorGoodIA
namespace Go.Proofs.YtdjgicapbpoigaaGreatDoor
open Go.RowKit Go.WideShapes Go.ChangeShapes Go.ChangeAt
set_option linter.unusedSimpArgs false
set_option linter.unusedVariables false

/-- A struct of one-cell fields: each cell reads by itself. -/
theorem struct_cellsG {H : Type} {enc : TypeId × Value → H} {P : Program} {w : World} {base : Nat} {spare : Nat → Bool} {held : Bool} {t : TypeId} {fs : Array Field} {fuel : Nat} {cs : List Value} {x : DataW H × List MemPlace} (ht : P.underlying t = some (.struct fs)) (hone : Go.Deep.oneCellFields P fs = true) (hC : P.cellsOf t = fs.size)
    (h : DataW.trod enc P w base spare held fuel t cs = some x) :
    cs.length = fs.size ∧ ∀ (i : Nat) (f : Field), fs[i]? = some f → ∃ v n y, cs[i]? = some v ∧ DataW.trod enc P w base spare held n f.type [v] = some y := by
  obtain ⟨xs, n, _, _, hlen, hxl, hf⟩ := DataW.trod_struct ht h
  refine ⟨hlen.trans hC, fun i f hi => ?_⟩
  obtain ⟨ho, hk⟩ := Go.Deep.hone_of hone i f hi
  have hil : i < fs.size := (Array.getElem?_eq_some_iff.1 hi).1
  have h1 := hf i f hi
  have hic : i < cs.length := by omega
  rw [ho, hk, List.drop_eq_getElem_cons hic] at h1
  exact ⟨cs[i], n, _, List.getElem?_eq_getElem hic, h1.trans (List.getElem?_eq_getElem (by omega))⟩

theorem int_cellG {H : Type} {enc : TypeId × Value → H} {P : Program} {w : World} {base : Nat} {spare : Nat → Bool} {held : Bool} {t : TypeId} {fuel : Nat} {v : Value} {x : DataW H × List MemPlace} (ht : P.underlying t = some (.int .i64)) (h : DataW.trod enc P w base spare held fuel t [v] = some x) :
    ∃ n : Int, v = .int .i64 n ∧ -9223372036854775808 ≤ n ∧ n ≤ 9223372036854775807 := by
  obtain ⟨n, hc, _, hw⟩ := DataW.trod_int ht h
  refine ⟨n, by simpa using hc, ?_⟩
  simpa [Lit.wf, IntKind.min, IntKind.max, IntKind.signed, IntKind.bits] using hw
theorem pack_arg {H : Type} {enc : TypeId × Value → H} {w : World} {base : Nat} {spare : Nat → Bool} {held : Bool} {fuel : Nat} {cs : List Value} {x : DataW H × List MemPlace}
    (h : DataW.trod enc Tryz.prog w base spare held fuel 23 cs = some x) : ∃ (n : Int) (r c : List UInt8), cs = [.int .i64 n, .string ⟨r.toArray⟩, .string ⟨c.toArray⟩] ∧ r.length ≤ maxLen ∧ c.length ≤ maxLen := by
  obtain ⟨hl, hf⟩ := struct_cellsG Tryz.underlying23 (by kernel_rfl) (by kernel_rfl) h
  obtain ⟨v0, n0, y0, e0, h0⟩ := hf 0 _ rfl
  obtain ⟨v1, n1, y1, e1, h1⟩ := hf 1 _ rfl
  obtain ⟨v2, n2, y2, e2, h2⟩ := hf 2 _ rfl
  obtain ⟨x0, rfl, _⟩ := int_cellG Tryz.underlying3 h0
  obtain ⟨s1, hc1, _, hs1⟩ := DataW.trod_string Tryz.underlying9 h1
  obtain rfl : v1 = .string s1 := by simpa using hc1
  obtain ⟨s2, hc2, _, hs2⟩ := DataW.trod_string Tryz.underlying9 h2
  obtain rfl : v2 = .string s2 := by simpa using hc2
  refine ⟨x0, s1.data.toList, s2.data.toList, ?_, by simpa using hs1, by simpa using hs2⟩
  match cs, hl with
  | [a0, a1, a2], _ =>
    simp at e0 e1 e2
    subst e0 e1 e2
    simp

abbrev TPackL : TypeId := 23
theorem szPack_any (en : Int) (r c : List UInt8) (w : World) (h1 : r.length ≤ maxLen) (h2 : c.length ≤ maxLen) :
    Calls Tryz.prog 5 #[.agg #[.int .i64 en, .string ⟨r.toArray⟩, .string ⟨c.toArray⟩], .int .i64 1048576] w fun e w' => ∃ n : Int, e = .returned (.int .i64 n) ∧ (0 ≤ n → r.length ≤ 1048576 ∧ c.length ≤ 1048576) ∧ Below w.heap.size w w' := by
  unfold maxLen at h1 h2
  obtain ⟨W1, hW1⟩ : ∃ W, W = w.alloc (.cells #[.int .i64 en, .string ⟨r.toArray⟩, .string ⟨c.toArray⟩] TPackL) := ⟨_, rfl⟩
  have b1 : Hid (Below w.heap.size w W1) := by rw [hW1]; exact Lib.hid (by go_grown)
  have B1 : Hid (Blk W1 w.heap.size TPackL #[.int .i64 en, .string ⟨r.toArray⟩, .string ⟨c.toArray⟩]) := by rw [hW1]; exact Lib.hid (Blk.new _ _ _)
  have HW1 := Lib.hid hW1
  clear hW1
  have x1 := (show _ = some (Value.string ⟨r.toArray⟩) from B1.out.cell 1); have x2 := (show _ = some (Value.string ⟨c.toArray⟩) from B1.out.cell 2)
  go_enter Tryz.func5, Tryz.ntmps5
  go_upto_region 1 with (fail)
  rw [← HW1.out]
  by_cases hr : (1048576 : Int) - r.length < 0
  · go_wp2
    go_ret
    exact ⟨-1, rfl, fun h => absurd h (by omega), b1.out⟩
  · by_cases hc : (1048576 : Int) - r.length - c.length < 0
    · go_wp2
      go_ret
      exact ⟨-1, rfl, fun h => absurd h (by omega), b1.out⟩
    · go_wp2
      go_ret
      exact ⟨_, rfl, fun _ => ⟨by omega, by omega⟩, b1.out⟩
theorem toPack_any (en : Int) (r c : List UInt8) (w : World) :
    Calls Tryz.prog 7 #[.agg #[.int .i64 en, .string ⟨r.toArray⟩, .string ⟨c.toArray⟩]] w fun e w' => e = .returned (.agg #[.int .i64 en, .string ⟨r.toArray⟩, .string ⟨c.toArray⟩]) ∧ Below w.heap.size w w' := by
  go_enter Tryz.func7, Tryz.ntmps7
  go_wp2
  exact bodyPost_ret (v := .agg #[.int .i64 en, .string ⟨r.toArray⟩, .string ⟨c.toArray⟩]) (by simp [results, Tryz.results7, go_sem]) rfl ⟨rfl, by go_grown⟩

namespace exactPackGood
set_option maxHeartbeats 2000000 in
theorem walk (en : Int) (r c : List UInt8) (w : World) (h1 : r.length ≤ maxLen) (h2 : c.length ≤ maxLen) (hm : MaxIs w) (hpw : Pow w) (het : EtIs w) :
    Calls Tryz.prog 3 #[.agg #[.int .i64 en, .string ⟨r.toArray⟩, .string ⟨c.toArray⟩]] w fun e w' => e = .returned (.bool true) ∧ Below w.heap.size w w' := by
  obtain ⟨W1, hW1⟩ : ∃ W, W = w.alloc (.cells #[.int .i64 en, .string ⟨r.toArray⟩, .string ⟨c.toArray⟩] TPackL) := ⟨_, rfl⟩
  have b1 : Hid (Below w.heap.size w W1) := by rw [hW1]; exact Lib.hid (by go_grown)
  have B1 : Hid (Blk W1 w.heap.size TPackL #[.int .i64 en, .string ⟨r.toArray⟩, .string ⟨c.toArray⟩]) := by rw [hW1]; exact Lib.hid (Blk.new _ _ _)
  have HM := Lib.hid hm; have HPW := Lib.hid hpw; have HET := Lib.hid het; have H1 := Lib.hid h1; have H2 := Lib.hid h2
  have HW1 := Lib.hid hW1
  clear hW1 hm hpw het h1 h2
  have x0 := (show _ = some (Value.int .i64 en) from B1.out.cell 0); have x1 := (show _ = some (Value.string ⟨r.toArray⟩) from B1.out.cell 1); have x2 := (show _ = some (Value.string ⟨c.toArray⟩) from B1.out.cell 2)
  go_enter Tryz.func3, Tryz.ntmps3
  go_upto_region 1 with (fail)
  rw [← HW1.out]
  go_wp2_with fail
  refine (szPack_any en r c W1 H1.out H2.out).mono ?_; rintro e w2 ⟨n, rfl, hn, hb2⟩
  have HNN := Lib.hid hn
  have B2 := Lib.hid (below_then b1.out hb2); have K2 := Lib.hid (B1.out.below hb2 B1.out.lt)
  clear hb2 hn x0 x1 x2
  by_cases hlt : n < 0
  · go_wp2
    go_ret
    exact ⟨rfl, B2.out⟩
  obtain ⟨hr, hc⟩ := HNN.out (by omega)
  have HR := Lib.hid hr; have HC := Lib.hid hc
  clear hr hc
  have x0 := (show _ = some (Value.int .i64 en) from K2.out.cell 0); have x1 := (show _ = some (Value.string ⟨r.toArray⟩) from K2.out.cell 1); have x2 := (show _ = some (Value.string ⟨c.toArray⟩) from K2.out.cell 2)
  go_wp2_with fail
  refine (toPack_any en r c w2).mono ?_; rintro e w3 ⟨rfl, hb3⟩
  have B3 := Lib.hid (below_then B2.out hb3); have K3 := Lib.hid (K2.out.below hb3 K2.out.lt)
  clear hb3 x0 x1 x2
  go_wp2_with fail
  refine (sPackGood_all en r c w3 HR.out HC.out).mono ?_; rintro e w4 ⟨b, rfl, hg, hb4⟩
  have HG := Lib.hid hg
  have B4 := Lib.hid (below_then B3.out hb4); have K4 := Lib.hid (K3.out.below hb4 K3.out.lt)
  clear hb4 hg
  have x0 := (show _ = some (Value.int .i64 en) from K4.out.cell 0); have x1 := (show _ = some (Value.string ⟨r.toArray⟩) from K4.out.cell 1); have x2 := (show _ = some (Value.string ⟨c.toArray⟩) from K4.out.cell 2)
  go_wp2_with fail
  refine (toPack_any en r c w4).mono ?_; rintro e w5 ⟨rfl, hb5⟩
  have B5 := Lib.hid (below_then B4.out hb5)
  clear hb5 x0 x1 x2
  go_wp2_with fail
  refine (iPackGood_all en r c w5 HR.out HC.out (HM.out.below B5.out) (HPW.out.below B5.out) (HET.out.below B5.out)).mono ?_; rintro e w6 ⟨b', rfl, hg', hb6⟩
  obtain rfl := HG.out.one hg'
  have B6 := Lib.hid (below_then B5.out hb6)
  have hbb : (b != b) = false := by simp
  clear hb6 hg'
  go_wp2
  go_ret
  exact ⟨rfl, B6.out⟩
end exactPackGood
end Go.Proofs.YtdjgicapbpoigaaGreatDoor
