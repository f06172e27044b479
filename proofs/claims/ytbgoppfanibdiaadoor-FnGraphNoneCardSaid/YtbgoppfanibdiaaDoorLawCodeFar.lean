/- The law of a program's ways, walked: FnCodeFar returns true. -/
import Derived.Test.YtbgoppfanibdiaaDoorDrawCodeB
import Derived.Test.YtbgoppfanibdiaaDoorRdOpen
import Derived.Test.YtbgoppfanibdiaaDoorLinesI
import Derived.Test.YtbgoppfanibdiaaDoorCodeSA
import Derived.Test.YtbgoppfanibdiaaDoorKit
namespace Go.Proofs.YtbgoppfanibdiaaDoor
open Go.RowKit Go.WideShapes Go.ChangeShapes Go.ChangeAt
set_option linter.unusedSimpArgs false
set_option linter.unusedVariables false

/-- Letters that came in. -/
theorem u8s_arg {H : Type} {enc : TypeId × Value → H} {w : World} {base : Nat} {spare : Nat → Bool} {held : Bool} {fuel : Nat} {cs : List Value} {x : DataW H × List MemPlace}
    (h : DataW.trod enc Tryd.prog w base spare held fuel 22 cs = some x) : ∃ (v : Value) (ys : List Int), cs = [v] ∧ Sl w 1 v (u8s ys) ∧ ∀ y ∈ ys, 0 ≤ y ∧ y ≤ 255 := by
  obtain ⟨v, css, rfl, hs, hr⟩ := slice_reads (size := 1) (R := fun r => ∃ p : { n : Int // 0 ≤ n ∧ n ≤ 255 }, r = [Value.int .u8 p.1]) Tryd.underlying22 (by kernel_rfl) (by omega) (fun n r y hy => by
    obtain ⟨m, hc, _, hw⟩ := DataW.trod_int Tryd.underlying5 hy
    exact ⟨⟨m, by simpa [Lit.wf, IntKind.min, IntKind.max, IntKind.signed, IntKind.bits] using hw⟩, hc⟩) h
  obtain ⟨g, rfl⟩ := all_map css (fun r hr' => (hr r hr').1)
  refine ⟨v, g.map (·.1), rfl, by simpa [u8s, List.map_map, Function.comp_def] using hs, fun x hx => ?_⟩
  obtain ⟨p, _, rfl⟩ := List.mem_map.1 hx
  exact p.2
/-- A row of places lies apart from the reader: the reader has two cells alone. -/
theorem Sl.apartC {w w' : World} {g p : Nat} {v : Value} {gs : List In4} (h : Sl w 4 v (insR gs)) (hr : Rd w g p) (hg : w.grownBy w' (some g)) : Sl w' 4 v (insR gs) := by
  obtain ⟨A, n, c, rfl, hA⟩ := h
  rcases Nat.eq_zero_or_pos n with h0 | h0
  · subst h0
    exact ⟨A, 0, c, rfl, hA.len, hA.cap, hA.max, fun h => absurd h (by omega)⟩
  · refine ⟨A, n, c, rfl, hA.grown hg fun b off e => ?_⟩
    obtain ⟨b', off', e', hb, he⟩ := hA.at_ h0
    rw [e] at e'
    cases e'
    intro e2
    subst e2
    obtain ⟨_, _, _, _, hrd⟩ := hr
    have hl := hA.len
    have hr0 : (insR gs)[0]? = some ((insR gs)[0]'(by omega)) := List.getElem?_eq_getElem _
    have hlen : ((insR gs)[0]'(by omega)).length = 4 := insR_rows gs _ (List.getElem_mem _)
    have h6 := he 0 _ hr0 3 _ (List.getElem?_eq_getElem (by rw [hlen]; omega))
    rw [hrd.blk.cell] at h6
    simp at h6

namespace codeFar
end codeFar
end Go.Proofs.YtbgoppfanibdiaaDoor
