/- Calls: spec.CallOk, spec.CallWrite, spec.CallRead. -/
import Derived.Test.YtbnboopbcbfpfaaDoorNum
import Derived.Lib.MinMax
import Derived.Deep.RegionLaw
namespace Go.Proofs.YtbnboopbcbfpfaaDoor
open Go.RowKit
set_option linter.unusedSimpArgs false
set_option linter.unusedVariables false

theorem ints_get {w : World} {A : Option Addr} {n c : Nat} {xs : List Int} (h : SlA w 1 A n c (ints xs)) {k : Nat} (hk : k < n) :
    ∃ b off x, A = some ⟨b, off, none⟩ ∧ b < w.heap.size ∧ xs[k]? = some x ∧ (∀ (w' : World) (B : Nat), Below B w w' → b < B → w'.cell? ⟨b, off + k, none⟩ = some (.int .i64 x)) := by
  have hl := h.len
  rw [ints_len] at hl
  obtain ⟨b, o, e, hb, hc⟩ := h.get hk
  have hk' : k < xs.length := by omega
  refine ⟨b, o, xs[k], e, hb, List.getElem?_eq_getElem hk', fun w' B hw hB => ?_⟩
  have hr : (ints xs)[k]? = some [.int .i64 xs[k]] := by simp [ints, hk']
  have f := hc _ hr 0 _ rfl
  rw [Nat.mul_one, Nat.add_zero] at f
  exact cellAt hw hB f

/-- A call that is ok. -/
def callOk (n : Int) (xs : List Int) : Prop := (0 ≤ n ∧ n ≤ 4294967295) ∧ xs.length = 4 ∧ ∀ x ∈ xs, 0 ≤ x ∧ x ≤ 4294967295
noncomputable def callOkB (n : Int) (xs : List Int) : Bool := @decide (callOk n xs) (Classical.propDecidable _)
theorem callOkB_iff {n : Int} {xs : List Int} : callOkB n xs = true ↔ callOk n xs := by simp [callOkB]
theorem callOkB_of {n : Int} {xs : List Int} {b : Bool} (h : b = true ↔ callOk n xs) : b = callOkB n xs := by rw [Bool.eq_iff_iff, h, callOkB_iff]
def wordsTo (xs : List Int) (k : Nat) : Prop := ∀ (j : Nat) (x : Int), j < k → xs[j]? = some x → 0 ≤ x ∧ x ≤ 4294967295
theorem wordsTo_zero (xs : List Int) : wordsTo xs 0 := fun _ _ h => absurd h (by omega)
theorem wordsTo_succ {xs : List Int} {k : Nat} {x : Int} (h : wordsTo xs k) (hx : xs[k]? = some x) (hw : 0 ≤ x ∧ x ≤ 4294967295) : wordsTo xs (k + 1) := fun j y hj hy => by
  by_cases e : j = k
  · subst e; rw [hx] at hy; cases hy; exact hw
  · exact h j y (by omega) hy
theorem wordsTo_all {xs : List Int} {k : Nat} (h : wordsTo xs k) (hk : xs.length ≤ k) : ∀ x ∈ xs, 0 ≤ x ∧ x ≤ 4294967295 := fun x hx => by
  obtain ⟨j, hj, e⟩ := List.getElem_of_mem hx
  exact h j x (by omega) (by rw [List.getElem?_eq_getElem hj, e])

set_option maxHeartbeats 1000000 in
theorem sCallOk_any (n : Int) (av : Value) (xs : List Int) (w : World) (hs : Sl w 1 av (ints xs)) :
    Calls Tryd.prog 15 #[.agg #[.int .i64 n, av]] w fun e w' => e = .returned (.bool (callOkB n xs)) ∧ Below w.heap.size w w' := by
  obtain ⟨A, m, c, rfl, hA⟩ := hs
  have hl : xs.length = m := by have := hA.len; rwa [ints_len] at this
  have hc := hA.cap
  have hm := hA.max
  unfold maxLen at hm
  have HL := Lib.hid hl; clear hl
  by_cases h1 : (0 ≤ n ∧ n ≤ 4294967295) ∧ m = 4
  · obtain ⟨h1, rfl⟩ := h1
    have hi : inB n 0 4294967295 = true := inB_iff.2 h1
    have H1 := Lib.hid h1; clear h1
    go_enter Tryd.func15, Tryd.ntmps15
    go_wp2_with (go_at_call 33; refine (l1In_any _ _ _ _).mono ?_; rintro e w' ⟨rfl, rfl⟩)
    go_loopw [3] (fun i wr => ∃ k : Nat, k ≤ 4 ∧ i = .int .i64 k ∧ wordsTo xs k ∧ wr.cell? ⟨w.heap.size, 0, none⟩ = some (.int .i64 n) ∧ wr.cell? ⟨w.heap.size, 1, none⟩ = some (.slice A 4 c) ∧ Below w.heap.size w wr) (fun i _ => 4 - (intOf i).toNat)
    case atStart => exact ⟨0, by omega, rfl, wordsTo_zero xs, by simp [go_sem], by simp [go_sem], by go_grown⟩
    case round =>
      obtain ⟨k, hk, rfl, hto, k0, k1, hb⟩ := hrel
      have hsz := hb.size
      by_cases hlt : k < 4
      · obtain ⟨b, off, x, rfl, hab, hgp, hcell⟩ := ints_get hA hlt
        have c0 := hcell wr _ hb hab
        have HP := Lib.hid hgp; clear hgp hcell
        by_cases hx : 0 ≤ x ∧ x ≤ 4294967295
        · have hin : inB x 0 4294967295 = true := inB_iff.2 hx
          have HX := Lib.hid hx; clear hx
          go_wp2_with (go_at_call 33; refine (l1In_any _ _ _ _).mono ?_; rintro e w' ⟨rfl, rfl⟩)
          exact ⟨⟨k + 1, by omega, by go_num, wordsTo_succ hto HP.out HX.out, k0, k1, hb⟩, by simp [intOf]; omega⟩
        · have hin : inB x 0 4294967295 = false := inB_not.2 hx
          have HX := Lib.hid hx; clear hx
          go_wp2_with (go_at_call 33; refine (l1In_any _ _ _ _).mono ?_; rintro e w' ⟨rfl, rfl⟩)
          go_ret
          exact ⟨ret_bool (callOkB_of (by simpa using fun h : callOk n xs => HX.out (h.2.2 x (List.mem_of_getElem? HP.out)))), hb⟩
      · go_wp2
        go_ret
        exact ⟨ret_bool (callOkB_of (by simpa using ⟨H1.out, HL.out, wordsTo_all hto (by rw [HL.out]; omega)⟩)), hb⟩
  · have hno : false = callOkB n xs := callOkB_of (by simpa using fun h : callOk n xs => h1 ⟨h.1, HL.out.symm.trans h.2.1⟩)
    have HN := Lib.hid hno; clear hno
    by_cases h2 : 0 ≤ n ∧ n ≤ 4294967295
    · have hi : inB n 0 4294967295 = true := inB_iff.2 h2
      have h3 : ((m : Int) != 4) = true := by simp; omega
      clear h1 h2
      go_enter Tryd.func15, Tryd.ntmps15
      go_wp2_with (go_at_call 33; refine (l1In_any _ _ _ _).mono ?_; rintro e w' ⟨rfl, rfl⟩)
      go_ret
      exact ⟨ret_bool HN.out, by go_grown⟩
    · have hi : inB n 0 4294967295 = false := inB_not.2 h2
      clear h1 h2
      go_enter Tryd.func15, Tryd.ntmps15
      go_wp2_with (go_at_call 33; refine (l1In_any _ _ _ _).mono ?_; rintro e w' ⟨rfl, rfl⟩)
      go_ret
      exact ⟨ret_bool HN.out, by go_grown⟩

/-- What a call is written as. -/
def argText (xs : List Int) : List UInt8 := xs.flatMap fun x => 32 :: Lib.itoa x
def callText (n : Int) (xs : List Int) : List UInt8 := Lib.itoa n ++ argText xs
theorem argText_snoc (xs : List Int) (x : Int) : argText (xs ++ [x]) = argText xs ++ (32 :: Lib.itoa x) := by simp [argText]
theorem argText_len : ∀ (xs : List Int), (∀ x ∈ xs, 0 ≤ x ∧ x ≤ 4294967295) → (argText xs).length ≤ 11 * xs.length
  | [], _ => by simp [argText]
  | x :: xs, h => by
    have ih := argText_len xs (fun y hy => h y (by simp [hy]))
    have hx := h x (by simp)
    have h1 : (Lib.itoa x).length ≤ 10 := by rw [itoa_val x hx.1]; exact decDigits_le 9 _ (by omega)
    simp [argText] at ih ⊢
    omega

set_option maxHeartbeats 1000000 in
theorem sCallWrite_ok (n : Int) (av : Value) (xs : List Int) (w : World) (hs : Sl w 1 av (ints xs)) (hok : callOk n xs) :
    Calls Tryd.prog 6 #[.agg #[.int .i64 n, av]] w fun e w' => e = .returned (.string ⟨(callText n xs).toArray⟩) ∧ Below w.heap.size w w' := by
  have hO := fun W h => sCallOk_any n av xs W h
  have hs0 := hs
  obtain ⟨A, m, c, rfl, hA⟩ := hs
  have hl : xs.length = m := by have := hA.len; rwa [ints_len] at this
  have hm4 : m = 4 := by rw [← hl]; exact hok.2.1
  subst hm4
  have hc := hA.cap
  have hm := hA.max
  unfold maxLen at hm
  have hob : callOkB n xs = true := callOkB_iff.2 hok
  have hn := hok.1
  have HO := Lib.hid hO; have HL := Lib.hid hl; have HK := Lib.hid hok; clear hO hl hok
  go_enter Tryd.func6, Tryd.ntmps6
  go_wp2_with (first
    | (go_at_call 15; refine (HO.out _ (hs0.below (by go_grown))).mono ?_; rintro e w1 ⟨rfl, hb1⟩; have hk0 : w1.cell? ⟨w.heap.size, 0, none⟩ = some (.int .i64 n) := (hb1.cell (p := ⟨w.heap.size, 0, none⟩) (by simp)).trans (by simp [go_sem]); have hk1 : w1.cell? ⟨w.heap.size, 1, none⟩ = some (.slice A 4 c) := (hb1.cell (p := ⟨w.heap.size, 1, none⟩) (by simp)).trans (by simp [go_sem]))
    | (go_at_call 17; refine (l1Dec_any _ _ (by omega) (by omega)).mono ?_; rintro e w2 ⟨rfl, hb2⟩))
  have hb3 : Below w.heap.size w w2 := below_step (below_step (by go_grown) (by go_size) hb1) (Nat.le_trans (by have := hb1.size; simp at this; omega) (Nat.le_refl _)) hb2
  have hw1 : w.heap.size < w1.heap.size := by have := hb1.size; simp at this; omega
  have hk2 : w2.cell? ⟨w.heap.size, 1, none⟩ = some (.slice A 4 c) := (hb2.cell (p := ⟨w.heap.size, 1, none⟩) hw1).trans hk1
  have hw2 := hb2.size
  go_loopw [3, 4] (fun o i wr => ∃ k : Nat, k ≤ 4 ∧ i = .int .i64 k ∧ o = .string ⟨(Lib.itoa n ++ argText (xs.take k)).toArray⟩ ∧ wr.cell? ⟨w.heap.size, 1, none⟩ = some (.slice A 4 c) ∧ w.heap.size < wr.heap.size ∧ Below w.heap.size w wr) (fun _ i _ => 4 - (intOf i).toNat)
  case atStart => exact ⟨0, by omega, rfl, by simp [argText], hk2, by omega, hb3⟩
  case round =>
    obtain ⟨k, hk, rfl, rfl, k1, hsz, hb⟩ := hrel
    by_cases hlt : k < 4
    · obtain ⟨b, off, x, rfl, hab, hgp, hcell⟩ := ints_get hA hlt
      have c0 := hcell wr _ hb hab
      have hx := HK.out.2.2 x (List.mem_of_getElem? hgp)
      have ht : argText (xs.take (k + 1)) = argText (xs.take k) ++ (32 :: Lib.itoa x) := by rw [List.take_add_one, hgp]; exact argText_snoc _ _
      have hlen1 := argText_len (xs.take k) (fun y hy => HK.out.2.2 y (List.mem_of_mem_take hy))
      have hlen2 : (xs.take k).length ≤ 4 := by rw [List.length_take]; omega
      have hlen3 := itoa_len n (by omega) (by omega)
      have hlen4 := itoa_len x (by omega) (by omega)
      have HT := Lib.hid ht; clear ht hgp hcell
      have hlen5 : (Lib.itoa n).length + (argText (xs.take k)).length ≤ 100 := by omega
      clear hlen1 hlen2 hlen3
      go_wp2_with (go_at_call 17; refine (l1Dec_any _ _ (by omega) (by omega)).mono ?_; rintro e w3 ⟨rfl, hb4⟩)
      have hw3 := hb4.size
      refine ⟨⟨k + 1, by omega, by go_num, ?_, (hb4.cell (p := ⟨w.heap.size, 1, none⟩) hsz).trans k1, by omega, below_step hb (by omega) hb4⟩, by simp [intOf]; omega⟩
      rw [HT.out]
      have e : (⟨#[32]⟩ : ByteArray) = ⟨([32] : List UInt8).toArray⟩ := rfl
      rw [e, ba_append, ba_append]
      simp
    · go_wp2
      go_ret
      refine ⟨?_, hb⟩
      have e : xs.take k = xs := List.take_of_length_le (by rw [HL.out]; omega)
      rw [e]
      rfl

theorem sCallWrite_no (n : Int) (av : Value) (xs : List Int) (w : World) (hs : Sl w 1 av (ints xs)) (hok : ¬ callOk n xs) :
    Calls Tryd.prog 6 #[.agg #[.int .i64 n, av]] w fun e w' => e = .returned (.string ⟨#[]⟩) ∧ Below w.heap.size w w' := by
  have hO := fun W h => sCallOk_any n av xs W h
  have hob : callOkB n xs = false := by rw [← Bool.not_eq_true, callOkB_iff]; exact hok
  have HO := Lib.hid hO; clear hO hok
  have hs0 := hs
  obtain ⟨A, m, c, rfl, hA⟩ := hs
  go_enter Tryd.func6, Tryd.ntmps6
  go_wp2_with (go_at_call 15; refine (HO.out _ (hs0.below (by go_grown))).mono ?_; rintro e w1 ⟨rfl, hb1⟩)
  go_ret
  exact ⟨rfl, below_step (by go_grown) (by go_size) hb1⟩

theorem strs_get {w : World} {A : Option Addr} {n c : Nat} {ls : List (List UInt8)} (h : SlA w 1 A n c (strs ls)) {k : Nat} (hk : k < n) :
    ∃ b off l, A = some ⟨b, off, none⟩ ∧ b < w.heap.size ∧ ls[k]? = some l ∧ (∀ (w' : World) (B : Nat), Below B w w' → b < B → w'.cell? ⟨b, off + k, none⟩ = some (.string ⟨l.toArray⟩)) := by
  have hl := h.len
  rw [strs_len] at hl
  obtain ⟨b, o, e, hb, hc⟩ := h.get hk
  have hk' : k < ls.length := by omega
  refine ⟨b, o, ls[k], e, hb, List.getElem?_eq_getElem hk', fun w' B hw hB => ?_⟩
  have hr : (strs ls)[k]? = some [.string ⟨ls[k].toArray⟩] := by simp [strs, hk']
  have f := hc _ hr 0 _ rfl
  rw [Nat.mul_one, Nat.add_zero] at f
  exact cellAt hw hB f

/-! ### Cutting what a call is written as -/
theorem cutGo_run {b : UInt8} : ∀ (a cur rest : List UInt8), (∀ x ∈ a, x ≠ b) → cutGo b cur (a ++ rest) = cutGo b (cur ++ a) rest
  | [], cur, rest, _ => by simp
  | x :: a, cur, rest, h => by
    rw [List.cons_append, cutGo_miss (h x (by simp)), cutGo_run a _ rest (fun y hy => h y (by simp [hy]))]
    simp
theorem digit_no32 {x : UInt8} (h : isDig x = true) : x ≠ 32 := fun e => by subst e; cases h
theorem itoa_no32 (n : Int) (h : 0 ≤ n) : ∀ x ∈ Lib.itoa n, x ≠ 32 := fun x hx => digit_no32 (itoa_digits n h x hx)
theorem cut_args : ∀ (xs : List Int) (cur : List UInt8), (∀ x ∈ xs, 0 ≤ x) → cutGo 32 cur (argText xs) = cur :: xs.map Lib.itoa
  | [], cur, _ => rfl
  | x :: xs, cur, h => by
    have e : argText (x :: xs) = 32 :: (Lib.itoa x ++ argText xs) := by simp [argText]
    rw [e, cutGo_hit, cutGo_run _ _ _ (itoa_no32 x (h x (by simp))), List.nil_append, cut_args xs _ (fun y hy => h y (by simp [hy]))]
    rfl
theorem cut_call (n : Int) (xs : List Int) (h0 : 0 ≤ n) (h : ∀ x ∈ xs, 0 ≤ x) : cut 32 (callText n xs) = Lib.itoa n :: xs.map Lib.itoa := by
  unfold cut callText
  rw [cutGo_run _ _ _ (itoa_no32 n h0), List.nil_append, cut_args xs _ h]
theorem callText_ne (n : Int) (xs : List Int) (h0 : 0 ≤ n) : callText n xs ≠ [] := by
  unfold callText
  have := itoa_ne n h0
  simp [this]

/-- What spec.CallRead makes of the pieces. -/
def wordsOf (ws : List (List UInt8)) (k : Nat) : List Int := ((ws.drop 1).take (k - 1)).map numOf
theorem wordsOf_one (ws : List (List UInt8)) : wordsOf ws 1 = [] := by simp [wordsOf]
theorem wordsOf_succ {ws : List (List UInt8)} {k : Nat} {l : List UInt8} (h1 : 1 ≤ k) (h : ws[k]? = some l) : wordsOf ws (k + 1) = wordsOf ws k ++ [numOf l] := by
  unfold wordsOf
  have e : (ws.drop 1)[k - 1]? = some l := by rw [List.getElem?_drop, show 1 + (k - 1) = k by omega]; exact h
  rw [show k + 1 - 1 = (k - 1) + 1 by omega, List.take_add_one, e]
  simp
theorem wordsOf_len {ws : List (List UInt8)} {k : Nat} (h1 : 1 ≤ k) (h : k ≤ ws.length) : (wordsOf ws k).length = k - 1 := by simp [wordsOf]; omega

/-- What both CallRead give back. -/
def ReadPost (text : List UInt8) (e : TypeId) (w : World) (en : Ending) (w' : World) : Prop :=
  (∃ n xs v, callOk n xs ∧ text = callText n xs ∧ en = .returned (.tuple #[.agg #[.int .i64 n, v], .bool true]) ∧ w'.ownsRow w.heap.size e 1 v 4 (ints xs).flatten ∧ Below w.heap.size w w') ∨
  ((¬ ∃ n xs, callOk n xs ∧ text = callText n xs) ∧ en = .returned (.tuple #[.agg #[.int .i64 0, .slice none 0 0], .bool false]) ∧ Below w.heap.size w w')

theorem read_of_pieces {text : List UInt8} {ws : List (List UInt8)} {l0 : List UInt8} {k : Nat} (hw : ws = cut 32 text) (h0 : ws[0]? = some l0) (hk : k = ws.length ∨ (k = 6 ∧ 6 ≤ ws.length)) (n : Int) (xs : List Int) (hok : callOk n xs) (ht : text = callText n xs) :
    numOf l0 = n ∧ wordsOf ws k = xs := by
  have hc := cut_call n xs hok.1.1 (fun x hx => (hok.2.2 x hx).1)
  rw [← ht, ← hw] at hc
  have hl : ws.length = 5 := by rw [hc]; simp [hok.2.1]
  have hk5 : k = 5 := by omega
  subst hk5
  rw [hc] at h0 ⊢
  simp at h0
  subst h0
  refine ⟨numOf_itoa n hok.1.1 hok.1.2, ?_⟩
  unfold wordsOf
  rw [show 5 - 1 = 4 from rfl, List.drop_succ_cons, List.drop_zero, List.take_of_length_le (by simp [hok.2.1]), List.map_map]
  have hm : xs.map (numOf ∘ Lib.itoa) = xs.map id := List.map_congr_left fun x hx => numOf_itoa x (hok.2.2 x hx).1 (hok.2.2 x hx).2
  rw [hm, List.map_id]

set_option maxHeartbeats 4000000 in
theorem sCallRead_any (s : ByteArray) (w : World) (hs : s.size ≤ 1048576) :
    Calls Tryd.prog 12 #[.string s] w (ReadPost s.data.toList 3 w) := by
  have hcl := cut_len 32 s.data.toList
  have hlen : s.data.toList.length = s.size := by simp
  rw [hlen] at hcl
  have hcn := cut_ne 32 s.data.toList
  obtain ⟨ws, hws⟩ : ∃ ws, ws = cut 32 s.data.toList := ⟨_, rfl⟩
  have hCut : ∀ W : World, Calls Tryd.prog 29 #[.string s, .int .u8 32] W fun e w' => ∃ v, e = .returned v ∧ w'.ownsRow W.heap.size 9 1 v (cut 32 s.data.toList).length (strs (cut 32 s.data.toList)).flatten ∧ Below W.heap.size W w' := fun W => l2Cut_any s 32 W (by omega)
  rw [← hws] at hCut hcl hcn
  have hpos : 0 < ws.length := List.length_pos_iff.2 hcn
  have HC := Lib.hid hCut; have HW := Lib.hid hws; clear hCut hws hcn hlen
  go_enter Tryd.func12, Tryd.ntmps12
  go_wp2_with fail
  refine (HC.out _).mono ?_
  rintro e w1 ⟨v1, rfl, hown1, hb1⟩
  have hsl := SlA.of_own hown1 (strs_len ws) (strs_rows ws)
  obtain ⟨A1, n1, c1, rfl, hA1⟩ := hsl
  have hn1 : n1 = ws.length := by have := hA1.len; rw [strs_len] at this; exact this.symm
  subst hn1
  have hc1 := hA1.cap
  have hm1 := hA1.max
  unfold maxLen at hm1
  have hsz1 : w.heap.size < w1.heap.size := by have := hb1.size; simp at this; omega
  obtain ⟨b1, o1, l0, rfl, hbl1, hl0, hcell0⟩ := strs_get hA1 hpos
  have k0 := hcell0 w1 _ (Below.refl _ _) hbl1
  rw [Nat.add_zero] at k0
  have HL0 := Lib.hid hl0; clear hl0 hcell0
  have hb01 : Below w.heap.size w w1 := below_step (by go_grown) (by go_size) hb1
  have t0 : w1.cell? ⟨w.heap.size, 0, none⟩ = some (.int .i64 0) := (hb1.cell (p := ⟨w.heap.size, 0, none⟩) (by simp)).trans (by simp [go_sem])
  have t1 : w1.cell? ⟨w.heap.size, 1, none⟩ = some (.slice none 0 0) := (hb1.cell (p := ⟨w.heap.size, 1, none⟩) (by simp)).trans (by simp [go_sem])
  have g0 : w1.frozen? ⟨w.heap.size, 0, none⟩ = false := (hb1.frozen (p := ⟨w.heap.size, 0, none⟩) (by simp)).trans (by simp [go_sem])
  have g1 : w1.frozen? ⟨w.heap.size, 1, none⟩ = false := (hb1.frozen (p := ⟨w.heap.size, 1, none⟩) (by simp)).trans (by simp [go_sem])
  go_wp2_with (go_at_call 30; refine (l2Num_any _ _).mono ?_; rintro e w' ⟨rfl, rfl⟩)
  go_loopw [6] (fun i wr => ∃ (k : Nat) (v : Value), 1 ≤ k ∧ k ≤ 6 ∧ k ≤ ws.length ∧ i = .int .i64 k ∧ wr.cell? ⟨w1.heap.size, 0, none⟩ = some (.int .i64 (numOf l0)) ∧ wr.cell? ⟨w1.heap.size, 1, none⟩ = some v ∧ wr.frozen? ⟨w1.heap.size, 1, none⟩ = false ∧
      wr.ownsRow (w1.heap.size + 1) 3 1 v (k - 1) (ints (wordsOf ws k)).flatten ∧ w1.heap.size < wr.heap.size ∧ Below w1.heap.size w1 wr) (fun i _ => 6 - (intOf i).toNat)
  case atStart => exact ⟨1, .slice none 0 0, by omega, by omega, hpos, rfl, by simp [go_sem], by simp [go_sem], by simp [go_sem], by rw [wordsOf_one]; exact World.ownsRow_nil _ _ _ _, by simp, by go_grown⟩
  case round =>
    obtain ⟨k, v, h1k, hk6, hkl, rfl, q0, q1, q2, hown, hsz, hb⟩ := hrel
    by_cases hcont : k < ws.length ∧ k ≤ 5
    · obtain ⟨x1, x2⟩ := hcont
      obtain ⟨b1', o1', l, he, hbl1', hl, hcell⟩ := strs_get hA1 x1
      simp only [Option.some.injEq, Addr.mk.injEq] at he
      obtain ⟨rfl, rfl, _⟩ := he
      have c0 := hcell wr _ hb hbl1
      have HWS := Lib.hid (wordsOf_succ h1k hl); clear hl hcell
      go_wp2
      go_region_law (first
        | (refine step_app1 (w0 := wr) rfl (.tmp 25) (.tmp 31) _ rfl (w1.heap.size + 1) 3 Tryd.underlying22 info_int rfl (by omega) (by omega) v (k - 1) (ints (wordsOf ws k)) rfl hown rfl (by simp [Value.oneCell']) rfl (by omega) hsz ?_; intro v2 w2 hown2 hb2 _; obtain ⟨g2, cap2, rfl, hg2, hg2'⟩ := hown2.form (by omega); have y0 := (hb2.cell (p := ⟨w1.heap.size, 0, none⟩) (by simp)).trans q0; have y1 := (hb2.cell (p := ⟨w1.heap.size, 1, none⟩) (by simp)).trans q1; have y2 := (hb2.frozen (p := ⟨w1.heap.size, 1, none⟩) (by simp)).trans q2)
        | (go_simp; go_at_call 30; refine (l2Num_any _ _).mono ?_; rintro e w' ⟨rfl, rfl⟩))
      all_goals go_wp2
      all_goals
        have hw2 := hb2.size
        rw [show k - 1 + 1 = k from by omega] at hown2
        refine ⟨⟨k + 1, .slice (some ⟨g2, 0, none⟩) k cap2, by omega, by omega, by omega, by go_num, ?_, ?_, ?_, ?_, ?_, ?_⟩, by simp [intOf]; omega⟩
        · simp [go_sem, y0]
        · simp [go_sem, y1]
        · simp [go_sem, y2]
        · rw [HWS.out, show k + 1 - 1 = k by omega]
          refine ownsRow_setCell_below ?_ (by simp) _
          simpa [ints] using hown2
        · simp; omega
        · exact (hb.trans (hb2.mono (by omega))).setCell (by simp) _
    · have hend : k = ws.length ∨ (k = 6 ∧ 6 ≤ ws.length) := by omega
      have hread := read_of_pieces HW.out HL0.out hend
      have HR := Lib.hid hread; clear hread
      obtain ⟨xs, hxs⟩ : ∃ xs, xs = wordsOf ws k := ⟨_, rfl⟩
      have hxl := wordsOf_len h1k hkl
      rw [← hxs] at hown hxl
      have hslv := SlA.of_own hown (by rw [ints_len]; exact hxl) (ints_rows xs)
      have HXS := Lib.hid hxs; clear hxs
      obtain ⟨A2, n2, c2, rfl, hA2⟩ := hslv
      have hbw : Below w.heap.size w wr := hb01.trans (hb.mono (by omega))
      have hSl : Sl wr 1 (.slice A2 n2 c2) (ints xs) := ⟨_, _, _, rfl, hA2⟩
      have hsz2 : w.heap.size < wr.heap.size := by omega
      have t0' := (hb.cell (p := ⟨w.heap.size, 0, none⟩) hsz1).trans t0
      have t1' := (hb.cell (p := ⟨w.heap.size, 1, none⟩) hsz1).trans t1
      have g0' := (hb.frozen (p := ⟨w.heap.size, 0, none⟩) hsz1).trans g0
      have g1' := (hb.frozen (p := ⟨w.heap.size, 1, none⟩) hsz1).trans g1
      by_cases hnil : s.data.toList = []
      · have hno : ¬ ∃ n xs, callOk n xs ∧ s.data.toList = callText n xs := fun ⟨n, ys, h1, h2⟩ => callText_ne n ys h1.1.1 (h2.symm.trans hnil)
        have e1 : s.toList.isEmpty = true := by rw [ByteArray.toList_eq, hnil]; rfl
        have e2 : s.toList = [] := by rw [ByteArray.toList_eq, hnil]
        have HN := Lib.hid hno; clear hno hnil
        go_wp2
        all_goals (refine bodyPost_ret (v := .tuple #[.agg #[.int .i64 0, .slice none 0 0], .bool false]) (by simp [results, Tryd.results12, go_sem, t0', t1']) rfl (.inr ⟨HN.out, rfl, by go_grown⟩))
      · have e1 : s.toList.isEmpty = false := by rw [ByteArray.toList_eq]; simpa using hnil
        have HNN := Lib.hid hnil; clear hnil
        by_cases hok : callOk (numOf l0) xs
        · have hw := fun W h => sCallWrite_ok (numOf l0) (.slice A2 n2 c2) xs W h hok
          by_cases heq : callText (numOf l0) xs = s.data.toList
          · have e3 : (callText (numOf l0) xs == s.toList) = true := by rw [ByteArray.toList_eq, heq]; simp
            have HE := Lib.hid heq; have HOK := Lib.hid hok; have HWR := Lib.hid hw; clear heq hok hw
            go_wp2_with (go_at_call 6; refine (HWR.out _ hSl).mono ?_; rintro e w3 ⟨rfl, hb3⟩; have y0 := (hb3.cell (p := ⟨w1.heap.size, 0, none⟩) hsz).trans q0; have y1 := (hb3.cell (p := ⟨w1.heap.size, 1, none⟩) hsz).trans q1; have z0 := (hb3.cell (p := ⟨w.heap.size, 0, none⟩) hsz2).trans t0'; have z1 := (hb3.cell (p := ⟨w.heap.size, 1, none⟩) hsz2).trans t1'; have z2 := (hb3.frozen (p := ⟨w.heap.size, 0, none⟩) hsz2).trans g0'; have z3 := (hb3.frozen (p := ⟨w.heap.size, 1, none⟩) hsz2).trans g1')
            all_goals
              have hbw3 := below_step hbw (by omega) hb3
              refine bodyPost_ret (v := .tuple #[.agg #[.int .i64 (numOf l0), .slice A2 n2 c2], .bool true]) (by simp [results, Tryd.results12, go_sem, z0, z1]) rfl (.inl ⟨numOf l0, xs, .slice A2 n2 c2, HOK.out, HE.out.symm, rfl, ?_, by go_grown⟩)
              have h4 : k - 1 = 4 := by rw [← hxl]; exact HOK.out.2.1
              rw [h4] at hown
              exact own_base (ownsRow_setCell_below (ownsRow_setCell_below (own_below hown hb3) (by show w.heap.size < _; omega) _) (by show w.heap.size < _; omega) _) (by omega)
          · have e3 : (callText (numOf l0) xs == s.toList) = false := by rw [ByteArray.toList_eq]; simpa using heq
            have hno : ¬ ∃ n xs, callOk n xs ∧ s.data.toList = callText n xs := fun ⟨n, ys, h1, h2⟩ => by
              obtain ⟨r1, r2⟩ := HR.out n ys h1 h2
              rw [HXS.out, r1, r2] at heq
              exact heq h2.symm
            have HN := Lib.hid hno; have HWR := Lib.hid hw; clear heq hok hw hno
            go_wp2_with (go_at_call 6; refine (HWR.out _ hSl).mono ?_; rintro e w3 ⟨rfl, hb3⟩; have y0 := (hb3.cell (p := ⟨w1.heap.size, 0, none⟩) hsz).trans q0; have y1 := (hb3.cell (p := ⟨w1.heap.size, 1, none⟩) hsz).trans q1; have z0 := (hb3.cell (p := ⟨w.heap.size, 0, none⟩) hsz2).trans t0'; have z1 := (hb3.cell (p := ⟨w.heap.size, 1, none⟩) hsz2).trans t1'; have z2 := (hb3.frozen (p := ⟨w.heap.size, 0, none⟩) hsz2).trans g0'; have z3 := (hb3.frozen (p := ⟨w.heap.size, 1, none⟩) hsz2).trans g1')
            all_goals
              have hbw3 := below_step hbw (by omega) hb3
              refine bodyPost_ret (v := .tuple #[.agg #[.int .i64 0, .slice none 0 0], .bool false]) (by simp [results, Tryd.results12, go_sem, z0, z1]) rfl (.inr ⟨HN.out, rfl, by go_grown⟩)
        · have hw := fun W h => sCallWrite_no (numOf l0) (.slice A2 n2 c2) xs W h hok
          have hno : ¬ ∃ n xs, callOk n xs ∧ s.data.toList = callText n xs := fun ⟨n, ys, h1, h2⟩ => by
            obtain ⟨r1, r2⟩ := HR.out n ys h1 h2
            rw [HXS.out, r1, r2] at hok
            exact hok h1
          have e3 : (([] : List UInt8) == s.toList) = false := by
            rw [ByteArray.toList_eq]
            cases h : s.data.toList with
            | nil => exact absurd h HNN.out
            | cons x l => rfl
          have HN := Lib.hid hno; have HWR := Lib.hid hw; clear hok hw hno
          go_wp2_with (go_at_call 6; refine (HWR.out _ hSl).mono ?_; rintro e w3 ⟨rfl, hb3⟩; have y0 := (hb3.cell (p := ⟨w1.heap.size, 0, none⟩) hsz).trans q0; have y1 := (hb3.cell (p := ⟨w1.heap.size, 1, none⟩) hsz).trans q1; have z0 := (hb3.cell (p := ⟨w.heap.size, 0, none⟩) hsz2).trans t0'; have z1 := (hb3.cell (p := ⟨w.heap.size, 1, none⟩) hsz2).trans t1'; have z2 := (hb3.frozen (p := ⟨w.heap.size, 0, none⟩) hsz2).trans g0'; have z3 := (hb3.frozen (p := ⟨w.heap.size, 1, none⟩) hsz2).trans g1')
          all_goals
            have hbw3 := below_step hbw (by omega) hb3
            refine bodyPost_ret (v := .tuple #[.agg #[.int .i64 0, .slice none 0 0], .bool false]) (by simp [results, Tryd.results12, go_sem, z0, z1]) rfl (.inr ⟨HN.out, rfl, by go_grown⟩)
end Go.Proofs.YtbnboopbcbfpfaaDoor
