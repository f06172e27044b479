/- What a text reads as, for both readers, and what was written reads as. -/
import Derived.Test.YtbnboopbcbfpfaaDoorCallI
import Derived.Test.YtbnboopbcbfpfaaDoorLawCall
import Derived.Test.YtbnboopbcbfpfaaDoorCallW
import Derived.Test.YtbnboopbcbfpfaaDoorOpen
import Derived.Test.YtbnboopbcbfpfaaDoorRdOpen
namespace Go.Proofs.YtbnboopbcbfpfaaDoor
open Go.RowKit Go.WideShapes Go.ChangeShapes Go.ChangeAt
set_option linter.unusedSimpArgs false
set_option linter.unusedVariables false

theorem callText_one' {text : List UInt8} {n n' : Int} {xs xs' : List Int} (h : callOk n xs) (ht : text = callText n xs) (h' : callOk n' xs') (ht' : text = callText n' xs') : n = n' ∧ xs = xs' := by
  have hne := cut_ne 32 text
  have hk : (cut 32 text).length = (cut 32 text).length ∨ ((cut 32 text).length = 6 ∧ 6 ≤ (cut 32 text).length) := .inl rfl
  obtain ⟨a, b⟩ := read_of_pieces (k := (cut 32 text).length) rfl (List.getElem?_eq_getElem (List.length_pos_iff.2 hne)) hk n xs h ht
  obtain ⟨a', b'⟩ := read_of_pieces (k := (cut 32 text).length) rfl (List.getElem?_eq_getElem (List.length_pos_iff.2 hne)) hk n' xs' h' ht'
  exact ⟨a.symm.trans a', b.symm.trans b'⟩

/-- What a text reads as, for both of them. -/
theorem readPost_two (text : List UInt8) : ∃ (n : Int) (xs : List Int) (ok : Bool) (k : Nat), xs.length = k ∧ k ≤ 4 ∧ (ok = true → callOk n xs ∧ text = callText n xs) ∧ (ok = false → ¬ ∃ n xs, callOk n xs ∧ text = callText n xs) ∧ ∀ e w en w', ReadPost text e w en w' →
    ∃ v, en = .returned (.tuple #[.agg #[.int .i64 n, v], .bool ok]) ∧ w'.ownsRow w.heap.size e 1 v k (ints xs).flatten ∧ Below w.heap.size w w' := by
  by_cases hy : ∃ n xs, callOk n xs ∧ text = callText n xs
  · obtain ⟨n, xs, hok, ht⟩ := hy
    refine ⟨n, xs, true, 4, hok.2.1, Nat.le_refl _, fun _ => ⟨hok, ht⟩, (fun h => by cases h), ?_⟩
    rintro e w en w' (⟨n', xs', v, hok', ht', rfl, ho, hb⟩ | ⟨hno, _⟩)
    · obtain ⟨rfl, rfl⟩ := callText_one' hok ht hok' ht'
      exact ⟨v, rfl, ho, hb⟩
    · exact absurd ⟨n, xs, hok, ht⟩ hno
  · refine ⟨0, [], false, 0, rfl, by omega, (fun h => by cases h), fun _ => hy, ?_⟩
    rintro e w en w' (⟨n', xs', v, hok', ht', rfl, ho, hb⟩ | ⟨hno, rfl, hb⟩)
    · exact absurd ⟨n', xs', hok', ht'⟩ hy
    · exact ⟨_, rfl, World.ownsRow_nil _ _ _ _, hb⟩

/-- What is written of a call reads as that call, where it is ok, and as none else. -/
theorem back_one (n : Int) (xs : List Int) : ∃ (m : Int) (ys : List Int) (k : Nat), ys.length = k ∧ k ≤ 4 ∧ (callOkB n xs = true → m = n ∧ ys = xs) ∧ ∀ e w en w', ReadPost (textOf n xs) e w en w' →
    ∃ v, en = .returned (.tuple #[.agg #[.int .i64 m, v], .bool (callOkB n xs)]) ∧ w'.ownsRow w.heap.size e 1 v k (ints ys).flatten ∧ Below w.heap.size w w' := by
  obtain ⟨m, ys, ok, k, hk, hk4, h1, h0, hR⟩ := readPost_two (textOf n xs)
  have e : ok = callOkB n xs := by
    apply callOkB_of
    constructor
    · intro h
      obtain ⟨a, b⟩ := h1 h
      by_cases hn : callOkB n xs = true
      · exact callOkB_iff.1 hn
      · exfalso
        unfold textOf at b
        rw [if_neg hn] at b
        exact callText_ne _ _ a.1.1 b.symm
    · intro h
      cases hok : ok with
      | true => rfl
      | false => exact absurd ⟨n, xs, h, by unfold textOf; rw [if_pos (callOkB_iff.2 h)]⟩ (h0 hok)
  subst e
  refine ⟨m, ys, k, hk, hk4, fun h => ?_, hR⟩
  obtain ⟨a, b⟩ := h1 h
  obtain ⟨c, d⟩ := callText_one' a b (callOkB_iff.1 h) (by unfold textOf; rw [if_pos h])
  exact ⟨c, d⟩

/-- Letters that came in. -/
theorem u8s_arg {H : Type} {enc : TypeId × Value → H} {w : World} {base : Nat} {spare : Nat → Bool} {held : Bool} {fuel : Nat} {cs : List Value} {x : DataW H × List MemPlace}
    (h : DataW.trod enc Tryd.prog w base spare held fuel 31 cs = some x) : ∃ (v : Value) (ys : List Int), cs = [v] ∧ Sl w 1 v (u8s ys) ∧ ∀ y ∈ ys, 0 ≤ y ∧ y ≤ 255 := by
  obtain ⟨v, css, rfl, hs, hr⟩ := slice_reads (size := 1) (R := fun r => ∃ p : { n : Int // 0 ≤ n ∧ n ≤ 255 }, r = [Value.int .u8 p.1]) Tryd.underlying31 (by kernel_rfl) (by omega) (fun n r y hy => by
    obtain ⟨m, hc, _, hw⟩ := DataW.trod_int Tryd.underlying5 hy
    exact ⟨⟨m, by simpa [Lit.wf, IntKind.min, IntKind.max, IntKind.signed, IntKind.bits] using hw⟩, hc⟩) h
  obtain ⟨g, rfl⟩ := all_map css (fun r hr' => (hr r hr').1)
  refine ⟨v, g.map (·.1), rfl, by simpa [u8s, List.map_map, Function.comp_def] using hs, fun x hx => ?_⟩
  obtain ⟨p, _, rfl⟩ := List.mem_map.1 hx
  exact p.2
end Go.Proofs.YtbnboopbcbfpfaaDoor
