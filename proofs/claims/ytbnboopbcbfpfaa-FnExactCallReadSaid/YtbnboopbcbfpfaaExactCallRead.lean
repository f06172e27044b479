/- FnExactCallRead returns true for every text, and nothing that was there is changed. No condition. -/
import Derived.Test.YtbnboopbcbfpfaaCallI
import Derived.Test.YtbnboopbcbfpfaaLawCall
import Derived.Test.YtbnboopbcbfpfaaFrame
namespace Go.Proofs.Ytbnboopbcbfpfaa
open Go.RowKit Go.WideShapes Go.ChangeShapes Go.ChangeAt
set_option linter.unusedSimpArgs false
set_option linter.unusedVariables false

theorem callText_one {text : List UInt8} {n n' : Int} {xs xs' : List Int} (h : callOk n xs) (ht : text = callText n xs) (h' : callOk n' xs') (ht' : text = callText n' xs') : n = n' ∧ xs = xs' := by
  have hne := cut_ne 32 text
  have hk : (cut 32 text).length = (cut 32 text).length ∨ ((cut 32 text).length = 6 ∧ 6 ≤ (cut 32 text).length) := .inl rfl
  obtain ⟨a, b⟩ := read_of_pieces (k := (cut 32 text).length) rfl (List.getElem?_eq_getElem (List.length_pos_iff.2 hne)) hk n xs h ht
  obtain ⟨a', b'⟩ := read_of_pieces (k := (cut 32 text).length) rfl (List.getElem?_eq_getElem (List.length_pos_iff.2 hne)) hk n' xs' h' ht'
  exact ⟨a.symm.trans a', b.symm.trans b'⟩

/-- What a text reads as, for both of them. -/
theorem readPost_one (text : List UInt8) : ∃ (n : Int) (xs : List Int) (ok : Bool) (k : Nat), xs.length = k ∧ k ≤ 4 ∧ ∀ e w en w', ReadPost text e w en w' →
    ∃ v, en = .returned (.tuple #[.agg #[.int .i64 n, v], .bool ok]) ∧ w'.ownsRow w.heap.size e 1 v k (ints xs).flatten ∧ Below w.heap.size w w' := by
  by_cases hy : ∃ n xs, callOk n xs ∧ text = callText n xs
  · obtain ⟨n, xs, hok, ht⟩ := hy
    refine ⟨n, xs, true, 4, hok.2.1, Nat.le_refl _, ?_⟩
    rintro e w en w' (⟨n', xs', v, hok', ht', rfl, ho, hb⟩ | ⟨hno, _⟩)
    · obtain ⟨rfl, rfl⟩ := callText_one hok ht hok' ht'
      exact ⟨v, rfl, ho, hb⟩
    · exact absurd ⟨n, xs, hok, ht⟩ hno
  · refine ⟨0, [], false, 0, rfl, by omega, ?_⟩
    rintro e w en w' (⟨n', xs', v, hok', ht', rfl, ho, hb⟩ | ⟨hno, rfl, hb⟩)
    · exact absurd ⟨n', xs', hok', ht'⟩ hy
    · exact ⟨_, rfl, World.ownsRow_nil _ _ _ _, hb⟩

/-- A block of two cells. -/
structure Cell2 (w : World) (g : Nat) (x v : Value) : Prop where
  c0 : w.cell? ⟨g, 0, none⟩ = some x
  c1 : w.cell? ⟨g, 1, none⟩ = some v
  lt : g < w.heap.size
theorem Cell2.below {w w' : World} {g B : Nat} {x v : Value} (h : Cell2 w g x v) (hb : Below B w w') (hg : g < B) : Cell2 w' g x v :=
  ⟨(hb.cell (p := ⟨g, 0, none⟩) hg).trans h.c0, (hb.cell (p := ⟨g, 1, none⟩) hg).trans h.c1, Nat.lt_of_lt_of_le h.lt hb.size⟩
theorem Cell2.grown {w w' : World} {g : Nat} {r : Option Nat} {x v : Value} (h : Cell2 w g x v) (hb : w.grownBy w' r) (hg : some g ≠ r) : Cell2 w' g x v :=
  ⟨hb.cell h.c0 hg, hb.cell h.c1 hg, Nat.lt_of_lt_of_le h.lt hb.size⟩
theorem Cell2.new (w : World) (t : TypeId) (x v : Value) : Cell2 (w.alloc (.cells #[x, v] t)) w.heap.size x v :=
  ⟨(Blk.new w t #[x, v]).cell 0, (Blk.new w t #[x, v]).cell 1, by simp⟩
theorem own_grown_below {w w' : World} {base n : Nat} {e : TypeId} {size : Nat} {v : Value} {xs : List Value} (h : w.ownsRow base e size v n xs) (hg : w.grownBy w' v.ownBlock) (hb : base ≤ w.heap.size) : Below base w w' :=
  (Below.refl base w).grown hg hb (fun k hk => (h.lt k hk).1)
theorem own_block_ne {w : World} {base n g : Nat} {e : TypeId} {size : Nat} {v : Value} {xs : List Value} (h : w.ownsRow base e size v n xs) (hg : w.heap.size ≤ g) : some g ≠ v.ownBlock := fun e => by
  have := (h.lt g e.symm).2; omega
theorem own_block_ne' {w : World} {base n g : Nat} {e : TypeId} {size : Nat} {v : Value} {xs : List Value} (h : w.ownsRow base e size v n xs) (hg : g < base) : some g ≠ v.ownBlock := fun e => by
  have := (h.lt g e.symm).1; omega

namespace exactCallRead
set_option maxHeartbeats 2000000 in
theorem walk (s : ByteArray) (w : World) (hsz : s.size ≤ maxLen) :
    Calls Try.prog 3 #[.string s] w fun e w' => e = .returned (.bool true) ∧ Below w.heap.size w w' := by
  unfold maxLen at hsz
  by_cases hn : s.size ≤ 1048576
  · obtain ⟨n, xs, ok, k, hk, hk4, hread⟩ := readPost_one s.data.toList
    have HR := Lib.hid hread; clear hread
    have he : callEq n n xs xs = true := callEq_iff.2 ⟨rfl, rfl⟩
    have ho : (ok != ok) = false := by simp
    have hm0 : ¬ (1 : Int) + k < 0 := by omega
    have hkx : (ints xs).length = k := (ints_len xs).trans hk
    go_enter Try.func3, Try.ntmps3
    go_wp2_with fail
    refine (sCallRead_any s _ hn).mono ?_; intro e w1 hp1
    obtain ⟨v1, rfl, o1, b1⟩ := HR.out _ _ _ _ hp1
    have s1 := SlA.of_own o1 hkx (ints_rows xs)
    obtain ⟨A1, n1, c1, rfl, -⟩ := id s1
    go_wp2_with fail
    refine (CallRead_any s _ hn).mono ?_; intro e w3 hp3
    obtain ⟨v3, rfl, o3, b3⟩ := HR.out _ _ _ _ hp3
    have s3 := SlA.of_own o3 hkx (ints_rows xs)
    obtain ⟨A3, n3, c3, rfl, -⟩ := id s3
    have C3 : Cell2 w3 w1.heap.size (.int .i64 n) (.slice A1 n1 c1) := (Cell2.new w1 _ _ _).below b3 (by simp)
    have s13 := (s1.below (w' := w1.alloc (.cells #[.int .i64 n, .slice A1 n1 c1] 24)) (by go_grown)).below b3
    obtain ⟨p0, p1, pl⟩ := id C3
    have o3' := o3.alloc (.cells #[.int .i64 n, .slice A3 n3 c3] 24)
    have D3 := Cell2.new w3 24 (.int .i64 n) (.slice A3 n3 c3)
    obtain ⟨q0, q1, ql⟩ := id D3
    go_wp2_with fail
    refine (eqCall_any n n _ _ xs xs _ (s3.below (by go_grown)) (s13.below (by go_grown))).mono ?_; rintro e w5 ⟨rfl, b5⟩
    rw [he]
    have b35 := below_then (w := w3.alloc (.cells #[.int .i64 n, .slice A3 n3 c3] 24)) (a := w3) (by go_grown) b5
    have o5 := own_below o3 b35
    have D5 := D3.below b5 ql
    have C5 := C3.below b35 pl
    have s15 := s13.below b35
    obtain ⟨q0, q1, -⟩ := id D5
    obtain ⟨p0, p1, -⟩ := id C5
    go_wp2_with fail
    refine (markCall_own _ n _ xs k 1 _ hk o5 (by omega) (by omega) (by omega)).mono ?_; rintro e w6 ⟨rfl, g6, o6⟩
    have hsz4 := b35.size
    have b6 := own_grown_below o5 g6 (by have := b5.size; simp; omega)
    have D6 := D5.grown g6 (own_block_ne o3 (by omega))
    have C6 := C5.below b6 (by simp)
    have b13 := below_then (w := w1.alloc (.cells #[.int .i64 n, .slice A1 n1 c1] 24)) (a := w1) (by go_grown) b3
    have b16 := below_then b13 b35 |>.trans (b6.mono (by simp))
    obtain ⟨q0, q1, ql6⟩ := id D6
    obtain ⟨p0, p1, pl6⟩ := id C6
    have hm6 : ¬ (1 : Int) + k < 0 := by omega
    go_wp2_with fail
    refine (heldCall_marks n _ k 1 _ (SlA.of_own o6 ((ints_len _).trans (marks_len k 1)) (ints_rows _)) (by omega) (by omega) (by omega)).mono ?_; rintro e w7 ⟨rfl, b7⟩
    have D7 := D6.below b7 ql6
    have C7 := C6.below b7 pl6
    have o7 := own_below o6 b7
    have b17 := below_then b16 b7
    obtain ⟨q0, q1, ql7⟩ := id D7
    obtain ⟨p0, p1, pl7⟩ := id C7
    have hne : ((1 : Int) + k != 1 + k) = false := by simp
    go_wp2_with fail
    refine (CallRead_any s _ hn).mono ?_; intro e w8 hp8
    obtain ⟨v8, rfl, o8, b8⟩ := HR.out _ _ _ _ hp8
    have s8 := SlA.of_own o8 hkx (ints_rows xs)
    obtain ⟨A8, n8, c8, rfl, -⟩ := id s8
    have b18 := below_then b17 b8
    have D8 := D7.below b8 ql7
    have C8 := C7.below b8 pl7
    have o78 := own_below o7 b8
    obtain ⟨q0, q1, ql8⟩ := id D8
    obtain ⟨p0, p1, pl8⟩ := id C8
    have E8 := Cell2.new w8 24 (.int .i64 n) (.slice A8 n8 c8)
    obtain ⟨r0, r1, rl⟩ := id E8
    go_wp2_with fail
    have b19 := below_then b18 (show Below w8.heap.size w8 (w8.alloc (.cells #[.int .i64 n, .slice A8 n8 c8] 24)) by go_grown)
    refine (eqCall_any n n _ _ xs xs _ (s8.below (by go_grown)) (s1.below b19)).mono ?_; rintro e w9 ⟨rfl, b9⟩
    rw [he]
    have b89 := below_then (w := w8.alloc (.cells #[.int .i64 n, .slice A8 n8 c8] 24)) (a := w8) (by go_grown) b9
    have D9 := D8.below b89 ql8
    have o9 := own_below o78 b89
    obtain ⟨q0, q1, ql9⟩ := id D9
    go_wp2_with fail
    refine (heldCall_marks n _ k 1 _ (SlA.of_own o9 ((ints_len _).trans (marks_len k 1)) (ints_rows _)) (by omega) (by omega) (by omega)).mono ?_; rintro e w10 ⟨rfl, b10⟩
    go_wp2
    all_goals
      go_ret
      exact ⟨rfl, below_then b1 (below_then b18 (below_then b89 b10))⟩
  · have hd : ¬ ((s.size : Int) ≤ 1048576) := by omega
    go_enter Try.func3, Try.ntmps3
    go_wp2
    all_goals
      go_ret
      exact ⟨rfl, Below.refl _ _⟩

set_option maxRecDepth 100000 in
theorem lifted (os : Os) (started : os.Started) (H : Type) (enc : TypeId × Value → H) :
    ReturnsInHanded {} Try.checked os 3 .any (Rows.fnExactCallReadSpec.pre6 enc Try.prog Try.f3 Rows.fnExactCallReadRow.domain false) (Rows.fnExactCallReadSpec.post enc Try.prog Try.f3 false true false false) := by
  refine returnsInHanded_of_change (C := Try.checked) own started (by kernel_rfl) Try.func3
    (ChangeSpec.witness6 (enc := enc) (C := Try.checked) false ⟨#[], #[.string ⟨#[]⟩], []⟩ 8 (by kernel_rfl) (by kernel_rfl) (by kernel_rfl) (by kernel_rfl)) ?_
  intro W base args ds gs before hval hW _ _
  have hW' := hW
  obtain ⟨p, q, hA0, hV, rfl, hfz, hnd⟩ := hW
  have hA : DataW.TrodAll enc Try.prog W 0 (fun _ => true) true Try.f3.params.toList args.toList ds p := hA0
  rw [Try.params3] at hA
  obtain ⟨v0, vs0, d0, ds0, p0, q0, hargs, rfl, rfl, h0, r0⟩ := trodAll_cons hA
  obtain ⟨rfl, rfl, rfl⟩ := trodAll_nil r0
  obtain rfl : args = #[v0] := by cases args; simp_all
  obtain ⟨rfl, rfl⟩ := trodVars_none hV
  obtain ⟨fuel, hf⟩ := h0
  obtain ⟨s0, hs0⟩ := okWide_string Try.underlying9 (hval 0 9 v0 rfl rfl)
  subst hs0
  obtain ⟨s, hc, _, hsz⟩ := DataW.trod_string Try.underlying9 hf
  obtain rfl : s0 = s := by simpa [Value.cells] using hc
  exact (walk _ W hsz).mono fun e W' ⟨he, hb⟩ => ⟨_, he, law_post laidOut (by kernel_rfl) rfl rfl Try.underlying4 rfl hW' hb⟩

theorem proved : Rows.FnExactCallReadSaid :=
  OpenClaim.holds_of_wide 3 Try.f3 rfl rfl rfl rfl rfl rfl rfl ⟨rfl, rfl, rfl, rfl, rfl⟩ rfl rfl rfl rfl rfl (by kernel_rfl) Try.func3 (by kernel_rfl)
    (of_decide_eq_true (by kernel_rfl)) (by unfold Func.isWrapper; first | (rw [if_pos (by decide +kernel)]; kernel_rfl) | (rw [if_neg (by decide +kernel)]; exact ⟨rfl, rfl⟩))
    (fun os started H enc _ => lifted os started H enc)
end exactCallRead
end Go.Proofs.Ytbnboopbcbfpfaa
