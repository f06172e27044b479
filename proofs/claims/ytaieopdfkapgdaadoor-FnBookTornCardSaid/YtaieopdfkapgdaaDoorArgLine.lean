/- Lines that came in, read as plain ones. -/
import Derived.Test.YtaieopdfkapgdaaDoorArgCall
import Derived.Test.YtaieopdfkapgdaaDoorBookAA
namespace Go.Proofs.YtaieopdfkapgdaaDoor
open Go.RowKit Go.WideShapes Go.ChangeShapes Go.ChangeAt
set_option linter.unusedSimpArgs false
set_option linter.unusedVariables false

/-- A struct, field by field, whatever their sizes. -/
theorem struct_parts {H : Type} {enc : TypeId × Value → H} {P : Program} {w : World} {base : Nat} {spare : Nat → Bool} {held : Bool} {t : TypeId} {fs : Array Field} {fuel : Nat} {cs : List Value} {x : DataW H × List MemPlace} (ht : P.underlying t = some (.struct fs)) (h : DataW.trod enc P w base spare held fuel t cs = some x) :
    cs.length = P.cellsOf t ∧ ∀ (i : Nat) (f : Field), fs[i]? = some f → ∃ n y, DataW.trod enc P w base spare held n f.type ((cs.drop f.offset).take (P.cellsOf f.type)) = some y := by
  obtain ⟨xs, n, _, _, hlen, hxl, hf⟩ := DataW.trod_struct ht h
  refine ⟨hlen, fun i f hi => ?_⟩
  have hil : i < fs.size := (Array.getElem?_eq_some_iff.1 hi).1
  have hix : i < xs.length := by omega
  exact ⟨n, _, (hf i f hi).trans (List.getElem?_eq_getElem hix)⟩

theorem five_of {l : List Value} (h : l.length = 5) : ∃ a b c d e, l = [a, b, c, d, e] := by
  match l, h with
  | [a, b, c, d, e], _ => exact ⟨a, b, c, d, e, rfl⟩
theorem six_of {l : List Value} (h : l.length = 6) : ∃ a b c d e f, l = [a, b, c, d, e, f] := by
  match l, h with
  | [a, b, c, d, e, f], _ => exact ⟨a, b, c, d, e, f, rfl⟩
theorem told_arg {H : Type} {enc : TypeId × Value → H} {w : World} {base : Nat} {spare : Nat → Bool} {held : Bool} {fuel : Nat} {cs : List Value} {x : DataW H × List MemPlace}
    (h : DataW.trod enc Tryd.prog w base spare held fuel 51 cs = some x) : ∃ (t : Tl) (av : Value), cs = [.int .i64 t.gate, .int .i64 t.epoch, .int .i64 t.num, av, .int .i64 t.verdict] ∧ Sl w 1 av (ints t.args) ∧ t.ok := by
  obtain ⟨hl, hf⟩ := struct_parts Tryd.underlying51 h
  have hl5 : cs.length = 5 := hl.trans (by kernel_rfl)
  obtain ⟨n0, y0, h0⟩ := hf 0 _ rfl
  obtain ⟨n1, y1, h1⟩ := hf 1 _ rfl
  obtain ⟨n2, y2, h2⟩ := hf 2 _ rfl
  obtain ⟨n3, y3, h3⟩ := hf 3 _ rfl
  obtain ⟨a0, a1, a2, a3, a4, rfl⟩ := five_of hl5
  replace h0 : DataW.trod enc Tryd.prog w base spare held n0 3 (([a0, a1, a2, a3, a4].drop 0).take (Tryd.prog.cellsOf 3)) = some y0 := h0
  replace h1 : DataW.trod enc Tryd.prog w base spare held n1 3 (([a0, a1, a2, a3, a4].drop 1).take (Tryd.prog.cellsOf 3)) = some y1 := h1
  replace h2 : DataW.trod enc Tryd.prog w base spare held n2 49 (([a0, a1, a2, a3, a4].drop 2).take (Tryd.prog.cellsOf 49)) = some y2 := h2
  replace h3 : DataW.trod enc Tryd.prog w base spare held n3 3 (([a0, a1, a2, a3, a4].drop 4).take (Tryd.prog.cellsOf 3)) = some y3 := h3
  have k1 : Tryd.prog.cellsOf 3 = 1 := by kernel_rfl
  have k2 : Tryd.prog.cellsOf 49 = 2 := by kernel_rfl
  simp only [k1, k2, List.drop_zero, List.drop_succ_cons, List.take_succ_cons, List.take_zero] at h0 h1 h2 h3
  obtain ⟨x0, rfl, b0⟩ := int_cell Tryd.underlying3 h0
  obtain ⟨x1, rfl, b1⟩ := int_cell Tryd.underlying3 h1
  obtain ⟨m, v, xs, e, hs⟩ := call_arg h2
  obtain ⟨x3, rfl, b3⟩ := int_cell Tryd.underlying3 h3
  simp at e
  obtain ⟨rfl, rfl⟩ := e
  exact ⟨⟨x0, x1, m, xs, x3⟩, a3, rfl, hs, b0, b1, b3⟩

theorem line_arg {H : Type} {enc : TypeId × Value → H} {w : World} {base : Nat} {spare : Nat → Bool} {held : Bool} {fuel : Nat} {cs : List Value} {x : DataW H × List MemPlace}
    (h : DataW.trod enc Tryd.prog w base spare held fuel 70 cs = some x) : ∃ ln : Ln, LnIs w ln cs ∧ ln.told.args.length ≤ 9223372036854775807 ∧ ln.sum.length ≤ 9223372036854775807 := by
  obtain ⟨hl, hf⟩ := struct_parts Tryd.underlying70 h
  have hl6 : cs.length = 6 := hl.trans (by kernel_rfl)
  obtain ⟨n0, y0, h0⟩ := hf 0 _ rfl
  obtain ⟨n1, y1, h1⟩ := hf 1 _ rfl
  obtain ⟨a0, a1, a2, a3, a4, a5, rfl⟩ := six_of hl6
  replace h0 : DataW.trod enc Tryd.prog w base spare held n0 51 (([a0, a1, a2, a3, a4, a5].drop 0).take (Tryd.prog.cellsOf 51)) = some y0 := h0
  replace h1 : DataW.trod enc Tryd.prog w base spare held n1 9 (([a0, a1, a2, a3, a4, a5].drop 5).take (Tryd.prog.cellsOf 9)) = some y1 := h1
  have k1 : Tryd.prog.cellsOf 9 = 1 := by kernel_rfl
  have k2 : Tryd.prog.cellsOf 51 = 5 := by kernel_rfl
  simp only [k1, k2, List.drop_zero, List.drop_succ_cons, List.take_succ_cons, List.take_zero] at h0 h1
  obtain ⟨t, av, e, hs, ht⟩ := told_arg h0
  obtain ⟨s, e5, _, hm⟩ := DataW.trod_string Tryd.underlying9 h1
  simp at e e5
  obtain ⟨rfl, rfl, rfl, rfl, rfl⟩ := e
  subst e5
  unfold maxLen at hm
  refine ⟨⟨t, s.data.toList⟩, ⟨a3, by simp, hs, ht⟩, ?_, by simpa using hm⟩
  obtain ⟨A, n, c, _, hA⟩ := hs
  have h4 := hA.len
  rw [ints_len] at h4
  have h5 := hA.cap
  have h3 := hA.max
  unfold maxLen at h3
  show t.args.length ≤ _
  omega

theorem lines_of {w : World} (css : List (List Value)) (h : ∀ r ∈ css, ∃ q, LnIs w q r ∧ q.told.args.length ≤ 9223372036854775807 ∧ q.sum.length ≤ 9223372036854775807) : ∃ b : List Ln, css.length = b.length ∧ (∀ (i : Nat) (ln : Ln) (cs : List Value), b[i]? = some ln → css[i]? = some cs → LnIs w ln cs) ∧ ∀ ln ∈ b, ln.told.args.length ≤ 9223372036854775807 ∧ ln.sum.length ≤ 9223372036854775807 := by
  induction css with
  | nil => exact ⟨[], rfl, fun i ln cs h1 _ => by simp at h1, fun ln hm => by simp at hm⟩
  | cons r css ih =>
    obtain ⟨b, e, h1, h2⟩ := ih (fun r hr => h r (by simp [hr]))
    obtain ⟨q, hq, hq2⟩ := h r (by simp)
    refine ⟨q :: b, by simp [e], fun i ln cs h3 h4 => ?_, fun ln hm => ?_⟩
    · cases i with
      | zero => simp at h3 h4; subst h3; subst h4; exact hq
      | succ i => exact h1 i ln cs (by simpa using h3) (by simpa using h4)
    · rcases List.mem_cons.1 hm with rfl | hm
      · exact hq2
      · exact h2 ln hm

theorem book_arg {H : Type} {enc : TypeId × Value → H} {w : World} {base : Nat} {spare : Nat → Bool} {held : Bool} {fuel : Nat} {cs : List Value} {x : DataW H × List MemPlace}
    (h : DataW.trod enc Tryd.prog w base spare held fuel 37 cs = some x) : ∃ (v : Value) (b : List Ln), cs = [v] ∧ BookIs w v b ∧ ∀ ln ∈ b, ln.told.args.length ≤ 9223372036854775807 ∧ ln.sum.length ≤ 9223372036854775807 := by
  obtain ⟨v, css, rfl, hs, hr⟩ := slice_reads (size := 6) (R := fun r => ∃ q : Ln, LnIs w q r ∧ q.told.args.length ≤ 9223372036854775807 ∧ q.sum.length ≤ 9223372036854775807) Tryd.underlying37 (by kernel_rfl) (by omega) (fun n r y hy => line_arg hy) h
  obtain ⟨b, e, h1, h2⟩ := lines_of css (fun r hr' => (hr r hr').1)
  obtain ⟨A, n, c, rfl, hA⟩ := hs
  exact ⟨_, b, rfl, ⟨A, n, c, css, rfl, hA, e, h1⟩, h2⟩
end Go.Proofs.YtaieopdfkapgdaaDoor
