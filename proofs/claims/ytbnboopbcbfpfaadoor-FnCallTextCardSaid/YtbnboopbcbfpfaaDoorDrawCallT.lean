/- How the laws draw a call's text, and a call of whatever make. -/
import Derived.Test.YtbnboopbcbfpfaaDoorDrawCall
import Derived.Test.YtbnboopbcbfpfaaDoorRdBend
import Derived.Test.YtbnboopbcbfpfaaDoorCallW
namespace Go.Proofs.YtbnboopbcbfpfaaDoor
open Go.RowKit
set_option linter.unusedSimpArgs false
set_option linter.unusedVariables false

theorem callText_len {n : Int} {xs : List Int} (h : callOk n xs) : (callText n xs).length ≤ 54 := by
  have h1 := argText_len xs h.2.2
  have h2 : (Lib.itoa n).length ≤ 10 := by rw [itoa_val n h.1.1]; exact decDigits_le 9 _ (by have := h.1; omega)
  have h3 := h.2.1
  unfold callText
  simp
  omega

set_option maxHeartbeats 1000000 in
theorem DrawCallRead_any (v : Value) (ys : List Int) (w : World) (hs : Sl w 1 v (u8s ys)) (hb : ∀ y ∈ ys, 0 ≤ y ∧ y ≤ 255) :
    Calls Tryd.prog 10 #[v] w fun e w' => ∃ t : ByteArray, e = .returned (.string t) ∧ t.size ≤ 2000 ∧ Below w.heap.size w w' := by
  go_enter Tryd.func10, Tryd.ntmps10
  go_wp2_with fail
  refine (l1Open_any v ys _ hs hb).mono ?_; rintro e w1 ⟨rfl, r1, b1⟩
  have hg1 := r1.lt
  go_wp2_with fail
  refine (l11Call_any w.heap.size 0 _ r1 (by omega)).mono ?_; rintro e w2 ⟨n, cv, xs, q, rfl, hok, ho, g2, r2, hq⟩
  have hs2 := SlA.of_own ho ((ints_len xs).trans hok.2.1) (ints_rows xs)
  have b2 : Below w.heap.size w w2 := b1.trans (below_of_grown g2 (Nat.le_refl _) hg1)
  go_wp2_with fail
  refine (sCallWrite_ok n cv xs _ hs2 hok).mono ?_; rintro e w3 ⟨rfl, b3⟩
  have b03 := below_step b2 b2.size b3
  have r3 := r2.next b3
  have hlt3 := r3.lt
  have hB := Blk.new w3 9 #[.string ⟨#[32]⟩, .string ⟨#[48]⟩, .string ⟨#[49]⟩, .string ⟨#[120]⟩, .string ⟨#[45]⟩]
  have hl : SlA (w3.alloc (.cells #[.string ⟨#[32]⟩, .string ⟨#[48]⟩, .string ⟨#[49]⟩, .string ⟨#[120]⟩, .string ⟨#[45]⟩] 9)) 1 (some ⟨w3.heap.size, 0, none⟩) 5 5 (strs [[32], [48], [49], [120], [45]]) :=
    SlA.of_block hB rfl (Nat.le_refl _) (by unfold maxLen; omega) (fun k r hr j v hv => by
      have hk : k < 5 := (List.getElem?_eq_some_iff.1 hr).1
      obtain rfl | rfl | rfl | rfl | rfl : k = 0 ∨ k = 1 ∨ k = 2 ∨ k = 3 ∨ k = 4 := by omega
      all_goals
        simp [strs] at hr
        subst hr
        cases j with
        | zero => simpa using hv
        | succ j => simp at hv)
  go_wp2_with fail
  refine (l11Bend_any w.heap.size q ⟨(callText n xs).toArray⟩ (some ⟨w3.heap.size, 0, none⟩) 5 5 [[32], [48], [49], [120], [45]] 3 _ (r3.next (by go_grown)) (by omega) (by have := callText_len hok; simp [ByteArray.size]; omega) hl (by omega) (fun b off e => by cases e; omega) (by simp)).mono ?_
  rintro e w4 ⟨t, q2, rfl, ht, g4, r4, hq2⟩
  have htl : t.size ≤ 2000 := by have h1 := callText_len hok; have e : (⟨(callText n xs).toArray⟩ : ByteArray).size = (callText n xs).length := by simp [ByteArray.size]
                                 rw [e] at ht; omega
  go_wp2
  go_ret
  refine ⟨t, rfl, htl, ?_⟩
  exact (b03.alloc b03.size _).trans (below_of_grown g4 (Nat.le_refl _) (by simp; omega))
end Go.Proofs.YtbnboopbcbfpfaaDoor
