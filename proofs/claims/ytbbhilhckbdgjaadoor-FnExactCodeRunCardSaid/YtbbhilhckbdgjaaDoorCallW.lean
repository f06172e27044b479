/- impl.CallOk and impl.CallWrite. -/
import Derived.Test.YtbbhilhckbdgjaaDoorCallS
import Derived.Test.YtbbhilhckbdgjaaDoorItoa
namespace Go.Proofs.YtbbhilhckbdgjaaDoor
open Go.RowKit
set_option linter.unusedSimpArgs false
set_option linter.unusedVariables false

theorem wordOk_any (n : Int) (w : World) :
    Calls Tryd.prog 28 #[.int .i64 n] w fun e w' => e = .returned (.bool (inB n 0 4294967295)) ∧ w = w' := by
  go_enter Tryd.func28, Tryd.ntmps28
  go_wp2
  all_goals (go_ret; exact ⟨ret_bool (by simp [inB]; omega), rfl⟩)

set_option maxHeartbeats 1000000 in
theorem CallOk_any (n : Int) (av : Value) (xs : List Int) (w : World) (hs : Sl w 1 av (ints xs)) :
    Calls Tryd.prog 19 #[.agg #[.int .i64 n, av]] w fun e w' => e = .returned (.bool (callOkB n xs)) ∧ Below w.heap.size w w' := by
  obtain ⟨A, m, c, rfl, hA⟩ := hs
  have hl : xs.length = m := by have := hA.len; rwa [ints_len] at this
  have hc := hA.cap
  have hm := hA.max
  unfold maxLen at hm
  have HL := Lib.hid hl; clear hl
  by_cases h1 : (0 ≤ n ∧ n ≤ 4294967295) ∧ m = 4
  · obtain ⟨h1, rfl⟩ := h1
    have hi : inB n 0 4294967295 = true := inB_iff.2 h1
    have H1 := Lib.hid h1; clear h1
    go_enter Tryd.func19, Tryd.ntmps19
    go_wp2_with (go_at_call 28; refine (wordOk_any _ _).mono ?_; rintro e w' ⟨rfl, rfl⟩)
    go_loopw [18] (fun i wr => ∃ k : Nat, k ≤ 4 ∧ i = .int .i64 k ∧ wordsTo xs k ∧ Below w.heap.size w wr) (fun i _ => 4 - (intOf i).toNat)
    case atStart => exact ⟨0, by omega, rfl, wordsTo_zero xs, by go_grown⟩
    case round =>
      obtain ⟨k, hk, rfl, hto, hb⟩ := hrel
      have hsz := hb.size
      by_cases hlt : k < 4
      · obtain ⟨b, off, x, rfl, hab, hgp, hcell⟩ := ints_get hA hlt
        have c0 := hcell wr _ hb hab
        have HP := Lib.hid hgp; clear hgp hcell
        by_cases hx : 0 ≤ x ∧ x ≤ 4294967295
        · have hin : inB x 0 4294967295 = true := inB_iff.2 hx
          have HX := Lib.hid hx; clear hx
          go_wp2_with (go_at_call 28; refine (wordOk_any _ _).mono ?_; rintro e w' ⟨rfl, rfl⟩)
          exact ⟨⟨k + 1, by omega, by go_num, wordsTo_succ hto HP.out HX.out, hb⟩, by simp [intOf]; omega⟩
        · have hin : inB x 0 4294967295 = false := inB_not.2 hx
          have HX := Lib.hid hx; clear hx
          go_wp2_with (go_at_call 28; refine (wordOk_any _ _).mono ?_; rintro e w' ⟨rfl, rfl⟩)
          go_ret
          exact ⟨ret_bool (callOkB_of (by simpa using fun h : callOk n xs => HX.out (h.2.2 x (List.mem_of_getElem? HP.out)))), hb⟩
      · go_wp2
        go_ret
        exact ⟨ret_bool (callOkB_of (by simpa using ⟨H1.out, HL.out, wordsTo_all hto (by rw [HL.out]; omega)⟩)), hb⟩
  · have hno : false = callOkB n xs := callOkB_of (by simpa using fun h : callOk n xs => h1 ⟨h.1, HL.out.symm.trans h.2.1⟩)
    have HN := Lib.hid hno; clear hno
    by_cases h2 : 0 ≤ n ∧ n ≤ 4294967295
    · have hi : inB n 0 4294967295 = true := inB_iff.2 h2
      have h3 : ((m : Int) != 4) = true := by simp; omega
      clear h1 h2
      go_enter Tryd.func19, Tryd.ntmps19
      go_wp2_with (go_at_call 28; refine (wordOk_any _ _).mono ?_; rintro e w' ⟨rfl, rfl⟩)
      go_ret
      exact ⟨ret_bool HN.out, by go_grown⟩
    · have hi : inB n 0 4294967295 = false := inB_not.2 h2
      clear h1 h2
      go_enter Tryd.func19, Tryd.ntmps19
      go_wp2_with (go_at_call 28; refine (wordOk_any _ _).mono ?_; rintro e w' ⟨rfl, rfl⟩)
      go_ret
      exact ⟨ret_bool HN.out, by go_grown⟩

/-- What a call is written as, ok or not. -/
noncomputable def textOf (n : Int) (xs : List Int) : List UInt8 := if callOkB n xs then callText n xs else []
end Go.Proofs.YtbbhilhckbdgjaaDoor
