/- slices.Sort and slices.Compact on a row that the call owns. -/
import Derived.Test.YtkiacbfpnidjlaaGreatDoorKit
import Derived.Test.YtkiacbfpnidjlaaGreatDoorShelf
import Derived.Test.YtkiacbfpnidjlaaGreatDoorUp
import Derived.Sort.OwnSortedInts
namespace Go.Proofs.YtkiacbfpnidjlaaGreatDoor
open Go.RowKit
set_option linter.unusedSimpArgs false
set_option linter.unusedVariables false

theorem Sort_own (base : Nat) (v : Value) (n : Nat) (zs : List Int) (w : World) (h : w.ownsRow base 3 1 v n (ints zs).flatten) (hn : zs.length = n) (hsz : n ≤ 1000000) :
    Calls Tryz.prog 50 #[v] w fun e w' => e = .returned (.tuple #[]) ∧ w'.ownsRow base 3 1 v n (ints (zs.mergeSort fun x y => decide (x ≤ y))).flatten ∧ Below base w w' := by
  rcases h.2 with ⟨rfl, h0⟩ | ⟨g, cap, cur, rfl, hge, hg, hncap, hcm, hcs, ht⟩
  · subst h0
    refine (Tryz.slices_Sort_int_none none 0 w).mono ?_
    rintro e w' ⟨rfl, rfl⟩
    obtain rfl : zs = [] := List.length_eq_zero_iff.1 hn
    exact ⟨rfl, by simpa using h, Below.refl _ _⟩
  · subst hn
    rw [Nat.mul_one, ints_flat] at ht
    have hH := holds_of_blockI hg ht
    have hlt := (Array.getElem?_eq_some_iff.1 hg).1
    refine (Tryz.slices_Sort_int g 0 cap zs w hH hlt (by omega)).mono ?_
    rintro e w' ⟨rfl, q, os, rfl⟩
    refine ⟨rfl, ?_, (Below.refl base w).grown (grownBy_sortedI _) (by omega) (fun k hk => by cases hk; exact hge)⟩
    rw [ints_flat]
    exact ownsRow_sortedI (by simp) hge hg hncap hcm hcs

theorem own_cut {w : World} {base g n m cap : Nat} {e : TypeId} {xs : List Value} (h : w.ownsRow base e 1 (.slice (some ⟨g, 0, none⟩) n cap) n xs) (hm : m ≤ n) : w.ownsRow base e 1 (.slice (some ⟨g, 0, none⟩) m cap) m (xs.take m) := by
  have hl := h.1
  rcases h.2 with ⟨h', _⟩ | ⟨g', cap', cur, hv, hge, hg, hncap, hcm, hcs, ht⟩
  · cases h'
  · simp only [Value.slice.injEq, Option.some.injEq, Addr.mk.injEq, and_true, true_and] at hv
    obtain ⟨rfl, rfl⟩ := hv
    refine ⟨by rw [List.length_take]; omega, .inr ⟨g, cap, cur, rfl, hge, hg, by omega, hcm, hcs, ?_⟩⟩
    rw [← ht, List.take_take]
    congr 1
    omega

theorem compact_le (zs : List Int) : (Lib.compact zs).length ≤ zs.length := by
  unfold Lib.compact Lib.compactUpTo
  rw [List.length_map]
  exact Nat.le_trans (List.length_filter_le _ _) (by simp)

theorem Compact_own (base : Nat) (v : Value) (n : Nat) (zs : List Int) (w : World) (h : w.ownsRow base 3 1 v n (ints zs).flatten) (hn : zs.length = n) (hsz : n ≤ 1000000) :
    Calls Tryz.prog 51 #[v] w fun e w' => ∃ v', e = .returned v' ∧ w'.ownsRow base 3 1 v' (Lib.compact zs).length (ints (Lib.compact zs)).flatten ∧ Below base w w' := by
  rcases h.2 with ⟨rfl, h0⟩ | ⟨g, cap, cur, rfl, hge, hg, hncap, hcm, hcs, ht⟩
  · subst h0
    refine (Tryz.slices_Compact_int_empty none 0 w).mono ?_
    rintro e w' ⟨rfl, rfl⟩
    obtain rfl : zs = [] := List.length_eq_zero_iff.1 hn
    exact ⟨_, rfl, h, Below.refl _ _⟩
  · subst hn
    rw [Nat.mul_one, ints_flat] at ht
    have hH := holds_of_blockI hg ht
    refine (Tryz.slices_Compact_int g 0 cap zs w hH (by omega) hncap).mono ?_
    rintro e w' ⟨rfl, q, rfl⟩
    have hle := compact_le zs
    have e0 : ∀ W : World, Sort.grow W #[] = W := Sort.grow_empty
    refine ⟨_, rfl, ?_, ?_⟩
    · rw [← e0 (Sort.putRow _ _ _ _ _)]
      have h1 := own_cut (m := (Lib.compact zs).length) (ownsRow_sortedI (n := q) (os := #[]) (ss := zs) (ts := Lib.compact zs ++ List.replicate (zs.length - (Lib.compact zs).length) 0) (by simp; omega) hge hg hncap hcm hcs) hle
      rw [List.map_append, List.take_left' (by simp)] at h1
      rw [ints_flat]
      exact h1
    · rw [← e0 (Sort.putRow _ _ _ _ _)]
      exact (Below.refl base w).grown (grownBy_sortedI _) (by have := (Array.getElem?_eq_some_iff.1 hg).1; omega) (fun k hk => by cases hk; exact hge)

theorem own_ne_blk_some {w : World} {base n k : Nat} {e t : TypeId} {size : Nat} {v : Value} {xs : List Value} {cs : Array Value} (h : w.ownsRow base e size v n xs) (hk : Blk w k t cs) (ht : t ≠ e) : v.ownBlock ≠ some k := by
  rcases h.2 with ⟨rfl, _⟩ | ⟨g', cap', cur, rfl, _, hg, _⟩
  · intro e; cases e
  · intro e
    cases e
    have := hg.symm.trans hk
    exact ht (by injection this with h1; injection h1 with h2 h3; exact h3.symm)
end Go.Proofs.YtkiacbfpnidjlaaGreatDoor
