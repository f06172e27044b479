/- The law of a call's text, walked: FnCallText returns true. -/
import Derived.Test.YtbnboopbcbfpfaaDoorCallTextP
import Derived.Test.YtbnboopbcbfpfaaDoorDrawCallW
import Derived.Test.YtbnboopbcbfpfaaDoorDrawAny
import Derived.Test.YtbnboopbcbfpfaaDoorDoor
namespace Go.Proofs.YtbnboopbcbfpfaaDoor
open Go.RowKit Go.WideShapes Go.ChangeShapes Go.ChangeAt
set_option linter.unusedSimpArgs false
set_option linter.unusedVariables false

/-- A call's block. -/
structure Cell2 (w : World) (g : Nat) (x v : Value) : Prop where
  c0 : w.cell? ⟨g, 0, none⟩ = some x
  c1 : w.cell? ⟨g, 1, none⟩ = some v
  lt : g < w.heap.size
theorem Cell2.below {w w' : World} {g B : Nat} {x v : Value} (h : Cell2 w g x v) (hb : Below B w w') (hg : g < B) : Cell2 w' g x v :=
  ⟨(hb.cell (p := ⟨g, 0, none⟩) hg).trans h.c0, (hb.cell (p := ⟨g, 1, none⟩) hg).trans h.c1, Nat.lt_of_lt_of_le h.lt hb.size⟩
theorem Cell2.new (w : World) (t : TypeId) (x v : Value) : Cell2 (w.alloc (.cells #[x, v] t)) w.heap.size x v :=
  ⟨(Blk.new w t #[x, v]).cell 0, (Blk.new w t #[x, v]).cell 1, by simp⟩

theorem textOf_len (n : Int) (xs : List Int) : (⟨(textOf n xs).toArray⟩ : ByteArray).size ≤ 1048576 := by
  have e : (⟨(textOf n xs).toArray⟩ : ByteArray).size = (textOf n xs).length := by simp [ByteArray.size]
  rw [e]
  unfold textOf
  by_cases h : callOkB n xs = true
  · rw [if_pos h]; have := callText_len (callOkB_iff.1 h); omega
  · rw [if_neg h]; simp

namespace callText
set_option maxHeartbeats 4000000 in
theorem walk (v1 v2 : Value) (ys zs : List Int) (w : World) (hp : Pow w) (h1 : Sl w 1 v1 (u8s ys)) (hb1 : ∀ y ∈ ys, 0 ≤ y ∧ y ≤ 255) (h2 : Sl w 1 v2 (u8s zs)) (hb2 : ∀ y ∈ zs, 0 ≤ y ∧ y ≤ 255) :
    Calls Tryd.prog 4 #[v1, v2] w fun e w' => e = .returned (.bool true) ∧ Below w.heap.size w w' := by
  have h1' := h1
  have h2' := h2
  obtain ⟨A1, n1, c1, rfl, hA1⟩ := h1
  obtain ⟨A2, n2, c2, rfl, hA2⟩ := h2
  have hm1 := hA1.max; have hc1 := hA1.cap; have hm2 := hA2.max; have hc2 := hA2.cap
  unfold maxLen at hm1 hm2
  clear hA1 hA2
  by_cases hn1 : n1 ≤ 1048576
  · by_cases hn2 : n2 ≤ 1048576
    · go_enter Tryd.func4, Tryd.ntmps4
      go_wp2_with fail
      refine (DrawCallRead_any _ ys _ h1' hb1).mono ?_; rintro e w1 ⟨t, rfl, ht, b1⟩
      obtain ⟨n, xs, ok, k, hk, hk4, hyes, hno, hread⟩ := readPost_two t.data.toList
      have HR := Lib.hid hread; clear hread hno
      have hkx : (ints xs).length = k := (ints_len xs).trans hk
      have he : callEq n n xs xs = true := callEq_iff.2 ⟨rfl, rfl⟩
      have hW : ok = true → callOk n xs ∧ t = ⟨(callText n xs).toArray⟩ := fun h => ⟨(hyes h).1, by rw [← (hyes h).2]⟩
      have HW := Lib.hid hW; clear hW hyes
      go_wp2_with fail
      refine (CallRead_any t _ (by omega)).mono ?_; intro e w2 hp2
      obtain ⟨u2, rfl, o2, b2⟩ := HR.out _ _ _ _ hp2
      have s2 := SlA.of_own o2 hkx (ints_rows xs)
      obtain ⟨A3, n3, c3, rfl, -⟩ := id s2
      have b02 := below_then b1 b2
      go_wp2_with fail
      refine (sCallRead_any t _ (by omega)).mono ?_; intro e w3 hp3
      obtain ⟨u3, rfl, o3, b3⟩ := HR.out _ _ _ _ hp3
      have s3 := SlA.of_own o3 hkx (ints_rows xs)
      obtain ⟨A4, n4, c4, rfl, -⟩ := id s3
      have C3 : Cell2 w3 w2.heap.size (.int .i64 n) (.slice A3 n3 c3) := (Cell2.new w2 _ _ _).below b3 (by simp)
      have b23 := below_then (w := w2.alloc (.cells #[.int .i64 n, .slice A3 n3 c3] 27)) (a := w2) (by go_grown) b3
      have s23 := s2.below b23
      obtain ⟨p0, p1, pl⟩ := id C3
      have hook : (ok != ok) = false := by simp
      have D3 := Cell2.new w3 27 (.int .i64 n) (.slice A4 n4 c4)
      obtain ⟨q0, q1, ql⟩ := id D3
      have b03 := below_then b02 b23
      go_wp2_with fail
      refine (wgCall_any n n _ _ xs xs _ (s23.below (by go_grown)) (s3.below (by go_grown))).mono ?_; rintro e w4 ⟨rfl, b4⟩
      rw [he]
      have b34 := below_then (w := w3.alloc (.cells #[.int .i64 n, .slice A4 n4 c4] 27)) (a := w3) (by go_grown) b4
      have C4 := C3.below b34 pl
      obtain ⟨p0, p1, -⟩ := id C4
      have s24 := s23.below b34
      have b04 := below_then b03 b34
      have hp4 := hp.below b04
      cases ok with
      | true =>
        obtain ⟨hok, rfl⟩ := HW.out rfl
        have htx : textOf n xs = callText n xs := by unfold textOf; rw [if_pos (callOkB_iff.2 hok)]
        go_wp2_with fail
        refine (CallWrite_any n _ xs _ hp4 s24).mono ?_; rintro e w5 ⟨rfl, b5⟩
        rw [htx]
        have b05 := below_then b04 b5
        go_wp2_with fail
        refine (DrawCallWrite_any _ zs _ (h2'.below b05) hb2).mono ?_; rintro e w6 ⟨m, v6, us, rfl, s6, b6⟩
        have bB := below_then b05 b6
        obtain ⟨A6, n6, c6, rfl, -⟩ := id s6
        have E6 := Cell2.new w6 27 (.int .i64 m) (.slice A6 n6 c6)
        obtain ⟨r0, r1, rl⟩ := id E6
        have hp6 := hp.below (below_then bB (show Below w6.heap.size w6 (w6.alloc (.cells #[.int .i64 m, .slice A6 n6 c6] 27)) by go_grown))
        go_wp2_with fail
        refine (CallWrite_any m _ us _ hp6 (s6.below (by go_grown))).mono ?_; rintro e w7 ⟨rfl, b7⟩
        have b67 := below_then (w := w6.alloc (.cells #[.int .i64 m, .slice A6 n6 c6] 27)) (a := w6) (by go_grown) b7
        have E7 := E6.below b7 rl
        obtain ⟨m', us', k6, hk6, hk64, hsame, hread2⟩ := back_one m us
        have HR2 := Lib.hid hread2; have HS := Lib.hid hsame; clear hread2 hsame
        have hkx2 : (ints us').length = k6 := (ints_len us').trans hk6
        obtain ⟨r0, r1, rl7⟩ := id E7
        have hsz : (⟨(textOf m us).toArray⟩ : ByteArray).size ≤ 1048576 := textOf_len m us
        go_wp2_with fail
        refine (CallRead_any ⟨(textOf m us).toArray⟩ _ hsz).mono ?_; intro e w8 hp8
        obtain ⟨u8, rfl, o8, b8⟩ := HR2.out _ _ _ _ hp8
        have s8 := SlA.of_own o8 hkx2 (ints_rows us')
        obtain ⟨A8, n8, c8, rfl, -⟩ := id s8
        have b68 := below_then b67 b8
        have E8 := E7.below b8 rl7
        obtain ⟨r0, r1, rl8⟩ := id E8
        have F8 := Cell2.new w8 27 (.int .i64 m') (.slice A8 n8 c8)
        obtain ⟨x0, x1, xl⟩ := id F8
        have bA8 : Below w8.heap.size w8 (w8.alloc (.cells #[.int .i64 m', .slice A8 n8 c8] 27)) := by go_grown
        have s68 := s6.below (below_then b68 bA8)
        go_wp2_with fail
        refine (sCallWrite_any m _ us _ s68).mono ?_; rintro e w9 ⟨rfl, b9⟩
        have b89 := below_then bA8 b9
        have E9 := E8.below b89 rl8
        have F9 := F8.below b9 xl
        obtain ⟨r0, r1, rl9⟩ := id E9
        obtain ⟨x0, x1, xl9⟩ := id F9
        have s89 := s8.below b89
        have s69 := s68.below b9
        go_wp2_with fail
        refine (sCallOk_any m _ us _ s69).mono ?_; rintro e w10 ⟨rfl, b10⟩
        have E10 := E9.below b10 rl9
        have F10 := F9.below b10 xl9
        obtain ⟨r0, r1, rl10⟩ := id E10
        obtain ⟨x0, x1, xl10⟩ := id F10
        have bend := below_then bB (below_then (below_then b68 b89) b10)
        cases hB : callOkB m us with
        | true =>
          obtain ⟨rfl, rfl⟩ := HS.out hB
          go_wp2_with fail
          refine (wgCall_any m' m' _ _ us' us' _ (s89.below b10) (s69.below b10)).mono ?_; rintro e w11 ⟨rfl, b11⟩
          rw [callEq_iff.2 ⟨rfl, rfl⟩]
          go_wp2
          all_goals
            go_ret
            exact ⟨rfl, below_then bend b11⟩
        | false =>
          go_wp2
          all_goals
            go_ret
            exact ⟨rfl, bend⟩
      | false =>
        go_wp2_with fail
        refine (DrawCallWrite_any _ zs _ (h2'.below b04) hb2).mono ?_; rintro e w6 ⟨m, v6, us, rfl, s6, b6⟩
        have bB := below_then b04 b6
        obtain ⟨A6, n6, c6, rfl, -⟩ := id s6
        have E6 := Cell2.new w6 27 (.int .i64 m) (.slice A6 n6 c6)
        obtain ⟨r0, r1, rl⟩ := id E6
        have hp6 := hp.below (below_then bB (show Below w6.heap.size w6 (w6.alloc (.cells #[.int .i64 m, .slice A6 n6 c6] 27)) by go_grown))
        go_wp2_with fail
        refine (CallWrite_any m _ us _ hp6 (s6.below (by go_grown))).mono ?_; rintro e w7 ⟨rfl, b7⟩
        have b67 := below_then (w := w6.alloc (.cells #[.int .i64 m, .slice A6 n6 c6] 27)) (a := w6) (by go_grown) b7
        have E7 := E6.below b7 rl
        obtain ⟨m', us', k6, hk6, hk64, hsame, hread2⟩ := back_one m us
        have HR2 := Lib.hid hread2; have HS := Lib.hid hsame; clear hread2 hsame
        have hkx2 : (ints us').length = k6 := (ints_len us').trans hk6
        obtain ⟨r0, r1, rl7⟩ := id E7
        have hsz : (⟨(textOf m us).toArray⟩ : ByteArray).size ≤ 1048576 := textOf_len m us
        go_wp2_with fail
        refine (CallRead_any ⟨(textOf m us).toArray⟩ _ hsz).mono ?_; intro e w8 hp8
        obtain ⟨u8, rfl, o8, b8⟩ := HR2.out _ _ _ _ hp8
        have s8 := SlA.of_own o8 hkx2 (ints_rows us')
        obtain ⟨A8, n8, c8, rfl, -⟩ := id s8
        have b68 := below_then b67 b8
        have E8 := E7.below b8 rl7
        obtain ⟨r0, r1, rl8⟩ := id E8
        have F8 := Cell2.new w8 27 (.int .i64 m') (.slice A8 n8 c8)
        obtain ⟨x0, x1, xl⟩ := id F8
        have bA8 : Below w8.heap.size w8 (w8.alloc (.cells #[.int .i64 m', .slice A8 n8 c8] 27)) := by go_grown
        have s68 := s6.below (below_then b68 bA8)
        go_wp2_with fail
        refine (sCallWrite_any m _ us _ s68).mono ?_; rintro e w9 ⟨rfl, b9⟩
        have b89 := below_then bA8 b9
        have E9 := E8.below b89 rl8
        have F9 := F8.below b9 xl
        obtain ⟨r0, r1, rl9⟩ := id E9
        obtain ⟨x0, x1, xl9⟩ := id F9
        have s89 := s8.below b89
        have s69 := s68.below b9
        go_wp2_with fail
        refine (sCallOk_any m _ us _ s69).mono ?_; rintro e w10 ⟨rfl, b10⟩
        have E10 := E9.below b10 rl9
        have F10 := F9.below b10 xl9
        obtain ⟨r0, r1, rl10⟩ := id E10
        obtain ⟨x0, x1, xl10⟩ := id F10
        have bend := below_then bB (below_then (below_then b68 b89) b10)
        cases hB : callOkB m us with
        | true =>
          obtain ⟨rfl, rfl⟩ := HS.out hB
          go_wp2_with fail
          refine (wgCall_any m' m' _ _ us' us' _ (s89.below b10) (s69.below b10)).mono ?_; rintro e w11 ⟨rfl, b11⟩
          rw [callEq_iff.2 ⟨rfl, rfl⟩]
          go_wp2
          all_goals
            go_ret
            exact ⟨rfl, below_then bend b11⟩
        | false =>
          go_wp2
          all_goals
            go_ret
            exact ⟨rfl, bend⟩
    · go_enter Tryd.func4, Tryd.ntmps4
      have hd2 : (1048576 : Int) < n2 := by omega
      go_wp2
      all_goals
        go_ret
        exact ⟨rfl, Below.refl _ _⟩
  · go_enter Tryd.func4, Tryd.ntmps4
    have hd1 : (1048576 : Int) < n1 := by omega
    go_wp2
    all_goals
      go_ret
      exact ⟨rfl, Below.refl _ _⟩
end callText
end Go.Proofs.YtbnboopbcbfpfaaDoor
