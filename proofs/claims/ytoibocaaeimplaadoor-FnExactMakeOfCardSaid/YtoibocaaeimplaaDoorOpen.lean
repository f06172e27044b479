/- What came in, read as lists: slices whose elements are structs of one-cell fields. -/
import Derived.Test.YtoibocaaeimplaaDoorBase
import Derived.ProofKit
import Derived.Deep.Slices
import Derived.Deep.Fields
namespace Go.Proofs.YtoibocaaeimplaaDoor
open Go.RowKit Go.WideShapes Go.ChangeShapes Go.ChangeAt
set_option linter.unusedSimpArgs false
set_option linter.unusedVariables false

section
variable {H : Type} {enc : TypeId × Value → H} {P : Program} {w : World} {base : Nat} {spare : Nat → Bool} {held : Bool}

theorem all_map {α β : Type} {f : α → β} : ∀ (l : List β), (∀ r ∈ l, ∃ a, r = f a) → ∃ g : List α, l = g.map f
  | [], _ => ⟨[], rfl⟩
  | r :: l, h => by
    obtain ⟨a, rfl⟩ := h r (by simp)
    obtain ⟨g, rfl⟩ := all_map l (fun r hr => h r (by simp [hr]))
    exact ⟨a :: g, rfl⟩

/-- A slice that came in, its elements read one by one. -/
theorem slice_reads {t e : TypeId} {size fuel : Nat} {cs : List Value} {x : DataW H × List MemPlace} {R : List Value → Prop} (ht : P.underlying t = some (.slice e)) (hC : P.cellsOf e = size) (hpos : 0 < size)
    (hR : ∀ (n : Nat) (r : List Value) (y : DataW H × List MemPlace), DataW.trod enc P w base spare held n e r = some y → R r) (h : DataW.trod enc P w base spare held fuel t cs = some x) :
    ∃ v css, cs = [v] ∧ Sl w size v css ∧ ∀ r ∈ css, R r ∧ r.length = size := by
  rcases DataW.trod_slice ht h with ⟨rfl, _⟩ | ⟨a, len, cap, elems, rest, n, _, rfl, _, _, hl, hm, hlen, hel, _, _⟩
  · exact ⟨_, [], rfl, Sl.nil, fun r hr => by cases hr⟩
  · have hall : ∀ i, i < len → ∃ r y, w.cells? base (a.add (i * size)) size = some r ∧ DataW.trod enc P w base spare held n e r = some y := by
      intro i hi
      have h1 := hel i hi
      rw [hC, List.getElem?_eq_getElem (by omega)] at h1
      obtain ⟨r, h2, h3⟩ := Option.bind_eq_some_iff.1 h1
      exact ⟨r, _, h2, h3⟩
    obtain ⟨F, hF⟩ := Go.Deep.choose_lt (α := List Value) (n := len) (p := fun i r => w.cells? base (a.add (i * size)) size = some r ∧ ∃ y, DataW.trod enc P w base spare held n e r = some y) (fun i hi => by
      obtain ⟨r, y, h1, h2⟩ := hall i hi
      exact ⟨r, h1, y, h2⟩)
    refine ⟨_, (List.range len).map F, rfl, ⟨some a, len, cap, rfl, by simp, hl, hm, fun hn => ?_⟩, fun r hr => ?_⟩
    · obtain ⟨_, hl0, hc0⟩ := World.cells?_some (hF 0 hn).1
      have h0 := hc0 0 hpos
      have hv : (F 0)[0]? = some ((F 0)[0]'(by omega)) := List.getElem?_eq_getElem (by omega)
      rw [hv, Nat.zero_mul, add_zero', add_zero'] at h0
      have hsp : a.spot = none := by
        cases hs : a.spot with
        | none => rfl
        | some s =>
          unfold World.cell? at h0
          split at h0
          · rw [hs] at h0; simp at h0
          · cases h0
      obtain ⟨ab, ao, asp⟩ := a
      simp only at hsp
      subst hsp
      refine ⟨ab, ao, rfl, World.block_lt_of_cell? w ⟨ab, ao, none⟩ h0, fun k r hr j v hv => ?_⟩
      have hk : k < len := by have := (List.getElem?_eq_some_iff.1 hr).1; simpa using this
      have hrk : r = F k := by
        rw [List.getElem?_map, List.getElem?_range hk] at hr
        simpa using hr.symm
      subst hrk
      obtain ⟨_, hlk, hck⟩ := World.cells?_some (hF k hk).1
      have hj : j < size := by have := (List.getElem?_eq_some_iff.1 hv).1; omega
      have h1 := (hck j hj).trans hv
      rw [add_add'] at h1
      have e : (⟨ab, ao, none⟩ : Addr).add (k * size + j) = ⟨ab, ao + k * size + j, none⟩ := by
        unfold Addr.add
        split
        · rename_i hz; simp [show k * size = 0 by omega, show j = 0 by omega]
        · simp [Nat.add_assoc]
      rw [e] at h1
      exact h1
    · obtain ⟨k, hk, rfl⟩ := List.mem_map.1 hr
      have hk' := List.mem_range.1 hk
      obtain ⟨_, hlk, _⟩ := World.cells?_some (hF k hk').1
      obtain ⟨y, hy⟩ := (hF k hk').2
      exact ⟨hR n _ y hy, hlk⟩

/-- A struct of one-cell fields: each cell reads by itself. -/
theorem struct_cells {t : TypeId} {fs : Array Field} {fuel : Nat} {cs : List Value} {x : DataW H × List MemPlace} (ht : P.underlying t = some (.struct fs)) (hone : Go.Deep.oneCellFields P fs = true) (hC : P.cellsOf t = fs.size)
    (h : DataW.trod enc P w base spare held fuel t cs = some x) :
    cs.length = fs.size ∧ ∀ (i : Nat) (f : Field), fs[i]? = some f → ∃ v n y, cs[i]? = some v ∧ DataW.trod enc P w base spare held n f.type [v] = some y := by
  obtain ⟨xs, n, _, _, hlen, hxl, hf⟩ := DataW.trod_struct ht h
  refine ⟨hlen.trans hC, fun i f hi => ?_⟩
  obtain ⟨ho, hk⟩ := Go.Deep.hone_of hone i f hi
  have hil : i < fs.size := (Array.getElem?_eq_some_iff.1 hi).1
  have h1 := hf i f hi
  have hic : i < cs.length := by omega
  rw [ho, hk, List.drop_eq_getElem_cons hic] at h1
  exact ⟨cs[i], n, _, List.getElem?_eq_getElem hic, h1.trans (List.getElem?_eq_getElem (by omega))⟩

theorem int_cell {t : TypeId} {fuel : Nat} {v : Value} {x : DataW H × List MemPlace} (ht : P.underlying t = some (.int .i64)) (h : DataW.trod enc P w base spare held fuel t [v] = some x) :
    ∃ n : Int, v = .int .i64 n ∧ -9223372036854775808 ≤ n ∧ n ≤ 9223372036854775807 := by
  obtain ⟨n, hc, _, hw⟩ := DataW.trod_int ht h
  refine ⟨n, by simpa using hc, ?_⟩
  simpa [Lit.wf, IntKind.min, IntKind.max, IntKind.signed, IntKind.bits] using hw
end
end Go.Proofs.YtoibocaaeimplaaDoor
