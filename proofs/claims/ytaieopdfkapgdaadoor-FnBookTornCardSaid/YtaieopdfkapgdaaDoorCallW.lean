/- impl.CallOk and impl.CallWrite. -/
import Derived.Test.YtaieopdfkapgdaaDoorTxt
import Derived.Test.YtaieopdfkapgdaaDoorLinesI
namespace Go.Proofs.YtaieopdfkapgdaaDoor
open Go.RowKit
set_option linter.unusedSimpArgs false
set_option linter.unusedVariables false

theorem wordOkW_any (n : Int) (w : World) :
    Calls Tryd.prog 72 #[.int .i64 n] w fun e w' => e = .returned (.bool (inB n 0 4294967295)) ∧ w = w' := by
  go_enter Tryd.func72, Tryd.ntmps72
  go_wp2
  all_goals (go_ret; exact ⟨ret_bool (by simp [inB]; omega), rfl⟩)

set_option maxHeartbeats 1000000 in
theorem CallOk_any (n : Int) (av : Value) (xs : List Int) (w : World) (hs : Sl w 1 av (ints xs)) :
    Calls Tryd.prog 61 #[.agg #[.int .i64 n, av]] w fun e w' => e = .returned (.bool (callOkB n xs)) ∧ Below w.heap.size w w' := by
  obtain ⟨A, m, c, rfl, hA⟩ := hs
  have hl : xs.length = m := by have := hA.len; rwa [ints_len] at this
  have hc := hA.cap
  have hm := hA.max
  unfold maxLen at hm
  have HL := Lib.hid hl; clear hl
  by_cases h1 : (0 ≤ n ∧ n ≤ 4294967295) ∧ m = 4
  · obtain ⟨h1, rfl⟩ := h1
    have hi : inB n 0 4294967295 = true := inB_iff.2 h1
    have H1 := Lib.hid h1; clear h1
    go_enter Tryd.func61, Tryd.ntmps61
    go_wp2_with (go_at_call 72; refine (wordOkW_any _ _).mono ?_; rintro e w' ⟨rfl, rfl⟩)
    go_loopw [18] (fun i wr => ∃ k : Nat, k ≤ 4 ∧ i = .int .i64 k ∧ wordsTo xs k ∧ Below w.heap.size w wr) (fun i _ => 4 - (intOf i).toNat)
    case atStart => exact ⟨0, by omega, rfl, wordsTo_zero xs, by go_grown⟩
    case round =>
      obtain ⟨k, hk, rfl, hto, hb⟩ := hrel
      have hsz := hb.size
      by_cases hlt : k < 4
      · obtain ⟨b, off, x, rfl, hab, hgp, hcell⟩ := ints_get hA hlt
        have c0 := hcell wr _ hb hab
        have HP := Lib.hid hgp; clear hgp hcell
        by_cases hx : 0 ≤ x ∧ x ≤ 4294967295
        · have hin : inB x 0 4294967295 = true := inB_iff.2 hx
          have HX := Lib.hid hx; clear hx
          go_wp2_with (go_at_call 72; refine (wordOkW_any _ _).mono ?_; rintro e w' ⟨rfl, rfl⟩)
          exact ⟨⟨k + 1, by omega, by go_num, wordsTo_succ hto HP.out HX.out, hb⟩, by simp [intOf]; omega⟩
        · have hin : inB x 0 4294967295 = false := inB_not.2 hx
          have HX := Lib.hid hx; clear hx
          go_wp2_with (go_at_call 72; refine (wordOkW_any _ _).mono ?_; rintro e w' ⟨rfl, rfl⟩)
          go_ret
          exact ⟨ret_bool (callOkB_of (by simpa using fun h : callOk n xs => HX.out (h.2.2 x (List.mem_of_getElem? HP.out)))), hb⟩
      · go_wp2
        go_ret
        exact ⟨ret_bool (callOkB_of (by simpa using ⟨H1.out, HL.out, wordsTo_all hto (by rw [HL.out]; omega)⟩)), hb⟩
  · have hno : false = callOkB n xs := callOkB_of (by simpa using fun h : callOk n xs => h1 ⟨h.1, HL.out.symm.trans h.2.1⟩)
    have HN := Lib.hid hno; clear hno
    by_cases h2 : 0 ≤ n ∧ n ≤ 4294967295
    · have hi : inB n 0 4294967295 = true := inB_iff.2 h2
      have h3 : ((m : Int) != 4) = true := by simp; omega
      clear h1 h2
      go_enter Tryd.func61, Tryd.ntmps61
      go_wp2_with (go_at_call 72; refine (wordOkW_any _ _).mono ?_; rintro e w' ⟨rfl, rfl⟩)
      go_ret
      exact ⟨ret_bool HN.out, by go_grown⟩
    · have hi : inB n 0 4294967295 = false := inB_not.2 h2
      clear h1 h2
      go_enter Tryd.func61, Tryd.ntmps61
      go_wp2_with (go_at_call 72; refine (wordOkW_any _ _).mono ?_; rintro e w' ⟨rfl, rfl⟩)
      go_ret
      exact ⟨ret_bool HN.out, by go_grown⟩

set_option maxHeartbeats 1000000 in
theorem CallWrite_ok (n : Int) (av : Value) (xs : List Int) (w : World) (hp : Pow w) (hs : Sl w 1 av (ints xs)) (hok : callOk n xs) :
    Calls Tryd.prog 76 #[.agg #[.int .i64 n, av]] w fun e w' => e = .returned (.string ⟨(callText n xs).toArray⟩) ∧ Below w.heap.size w w' := by
  have hO := fun W h => CallOk_any n av xs W h
  have hs0 := hs
  obtain ⟨A, m, c, rfl, hA⟩ := hs
  have hl : xs.length = m := by have := hA.len; rwa [ints_len] at this
  have hm4 : m = 4 := by rw [← hl]; exact hok.2.1
  subst hm4
  have hc := hA.cap
  have hm := hA.max
  unfold maxLen at hm
  have hob : callOkB n xs = true := callOkB_iff.2 hok
  have hn := hok.1
  have HO := Lib.hid hO; have HL := Lib.hid hl; have HK := Lib.hid hok; clear hO hl hok
  go_enter Tryd.func76, Tryd.ntmps76
  go_wp2_with (first
    | (go_at_call 61; refine (HO.out _ (hs0.below (by go_grown))).mono ?_; rintro e w1 ⟨rfl, hb1⟩; have hk0 : w1.cell? ⟨w.heap.size, 0, none⟩ = some (.int .i64 n) := (hb1.cell (p := ⟨w.heap.size, 0, none⟩) (by simp)).trans (by simp [go_sem]); have hk1 : w1.cell? ⟨w.heap.size, 1, none⟩ = some (.slice A 4 c) := (hb1.cell (p := ⟨w.heap.size, 1, none⟩) (by simp)).trans (by simp [go_sem]); have hb01 : Below w.heap.size w w1 := below_step (by go_grown) (by go_size) hb1; have hw1 : w.heap.size < w1.heap.size := by (have := hb1.size; simp at this; omega))
    | (go_at_call 75; refine (itoa_any _ _ (hp.below hb01) (by omega) (by omega)).mono ?_; rintro e w2 ⟨rfl, hb2⟩; have hb3 := below_then hb01 hb2; have hk2 : w2.cell? ⟨w.heap.size, 1, none⟩ = some (.slice A 4 c) := (hb2.cell (p := ⟨w.heap.size, 1, none⟩) hw1).trans hk1))
  have hw2 := hb2.size
  go_loopw [3, 15] (fun o i wr => ∃ k : Nat, k ≤ 4 ∧ i = .int .i64 k ∧ o = .string ⟨(Lib.itoa n ++ argText (xs.take k)).toArray⟩ ∧ Below w.heap.size w wr) (fun _ i _ => 4 - (intOf i).toNat)
  case atStart => exact ⟨0, by omega, rfl, by simp [argText], hb3⟩
  case round =>
    obtain ⟨k, hk, rfl, rfl, hb⟩ := hrel
    by_cases hlt : k < 4
    · obtain ⟨b, off, x, rfl, hab, hgp, hcell⟩ := ints_get hA hlt
      have c0 := hcell wr _ hb hab
      have hx := HK.out.2.2 x (List.mem_of_getElem? hgp)
      have ht : argText (xs.take (k + 1)) = argText (xs.take k) ++ (32 :: Lib.itoa x) := by rw [List.take_add_one, hgp]; exact argText_snoc _ _
      have hlen1 := argText_len (xs.take k) (fun y hy => HK.out.2.2 y (List.mem_of_mem_take hy))
      have hlen2 : (xs.take k).length ≤ 4 := by rw [List.length_take]; omega
      have hlen3 := itoa_len n (by omega) (by omega)
      have hlen4 := itoa_len x (by omega) (by omega)
      have HT := Lib.hid ht; clear ht hgp hcell
      have hlen5 : (Lib.itoa n).length + (argText (xs.take k)).length ≤ 100 := by omega
      clear hlen1 hlen2 hlen3
      go_wp2_with (go_at_call 75; refine (itoa_any _ _ (hp.below (by go_grown)) (by omega) (by omega)).mono ?_; rintro e w3 ⟨rfl, hb4⟩)
      have hw3 := hb4.size
      refine ⟨⟨k + 1, by omega, by go_num, ?_, below_then (by go_grown) hb4⟩, by simp [intOf]; omega⟩
      rw [HT.out]
      have e : (⟨#[32]⟩ : ByteArray) = ⟨([32] : List UInt8).toArray⟩ := rfl
      rw [e, ba_append, ba_append]
      simp
    · go_wp2
      go_ret
      refine ⟨?_, hb⟩
      have e : xs.take k = xs := List.take_of_length_le (by rw [HL.out]; omega)
      rw [e]
      rfl

theorem CallWrite_no (n : Int) (av : Value) (xs : List Int) (w : World) (hs : Sl w 1 av (ints xs)) (hok : ¬ callOk n xs) :
    Calls Tryd.prog 76 #[.agg #[.int .i64 n, av]] w fun e w' => e = .returned (.string ⟨#[]⟩) ∧ Below w.heap.size w w' := by
  have hO := fun W h => CallOk_any n av xs W h
  have hob : callOkB n xs = false := by rw [← Bool.not_eq_true, callOkB_iff]; exact hok
  have HO := Lib.hid hO; clear hO hok
  have hs0 := hs
  obtain ⟨A, m, c, rfl, hA⟩ := hs
  go_enter Tryd.func76, Tryd.ntmps76
  go_wp2_with (go_at_call 61; refine (HO.out _ (hs0.below (by go_grown))).mono ?_; rintro e w1 ⟨rfl, hb1⟩)
  go_ret
  exact ⟨rfl, below_step (by go_grown) (by go_size) hb1⟩

/-- What a call is written as, ok or not. -/
noncomputable def textOf (n : Int) (xs : List Int) : List UInt8 := if callOkB n xs then callText n xs else []
theorem CallWrite_any (n : Int) (av : Value) (xs : List Int) (w : World) (hp : Pow w) (hs : Sl w 1 av (ints xs)) :
    Calls Tryd.prog 76 #[.agg #[.int .i64 n, av]] w fun e w' => e = .returned (.string ⟨(textOf n xs).toArray⟩) ∧ Below w.heap.size w w' := by
  unfold textOf
  by_cases h : callOk n xs
  · rw [if_pos (callOkB_iff.2 h)]; exact CallWrite_ok n av xs w hp hs h
  · rw [if_neg (fun e => h (callOkB_iff.1 e))]; exact CallWrite_no n av xs w hs h
theorem sCallWrite_any (n : Int) (av : Value) (xs : List Int) (w : World) (hs : Sl w 1 av (ints xs)) :
    Calls Tryd.prog 34 #[.agg #[.int .i64 n, av]] w fun e w' => e = .returned (.string ⟨(textOf n xs).toArray⟩) ∧ Below w.heap.size w w' := by
  unfold textOf
  by_cases h : callOk n xs
  · rw [if_pos (callOkB_iff.2 h)]; exact sCallWrite_ok n av xs w hs h
  · rw [if_neg (fun e => h (callOkB_iff.1 e))]; exact sCallWrite_no n av xs w hs h
end Go.Proofs.YtaieopdfkapgdaaDoor
