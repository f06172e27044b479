/- Calls: spec.CallOk, spec.CallWrite, spec.CallRead. -/
import Derived.Test.YtoibocaaeimplaaDoorNum
import Derived.Lib.MinMax
import Derived.Deep.RegionLaw
namespace Go.Proofs.YtoibocaaeimplaaDoor
open Go.RowKit
set_option linter.unusedSimpArgs false
set_option linter.unusedVariables false

theorem ints_get {w : World} {A : Option Addr} {n c : Nat} {xs : List Int} (h : SlA w 1 A n c (ints xs)) {k : Nat} (hk : k < n) :
    ∃ b off x, A = some ⟨b, off, none⟩ ∧ b < w.heap.size ∧ xs[k]? = some x ∧ (∀ (w' : World) (B : Nat), Below B w w' → b < B → w'.cell? ⟨b, off + k, none⟩ = some (.int .i64 x)) := by
  have hl := h.len
  rw [ints_len] at hl
  obtain ⟨b, o, e, hb, hc⟩ := h.get hk
  have hk' : k < xs.length := by omega
  refine ⟨b, o, xs[k], e, hb, List.getElem?_eq_getElem hk', fun w' B hw hB => ?_⟩
  have hr : (ints xs)[k]? = some [.int .i64 xs[k]] := by simp [ints, hk']
  have f := hc _ hr 0 _ rfl
  rw [Nat.mul_one, Nat.add_zero] at f
  exact cellAt hw hB f

/-- A call that is ok. -/
def callOk (n : Int) (xs : List Int) : Prop := (0 ≤ n ∧ n ≤ 4294967295) ∧ xs.length = 4 ∧ ∀ x ∈ xs, 0 ≤ x ∧ x ≤ 4294967295
noncomputable def callOkB (n : Int) (xs : List Int) : Bool := @decide (callOk n xs) (Classical.propDecidable _)
theorem callOkB_iff {n : Int} {xs : List Int} : callOkB n xs = true ↔ callOk n xs := by simp [callOkB]
theorem callOkB_of {n : Int} {xs : List Int} {b : Bool} (h : b = true ↔ callOk n xs) : b = callOkB n xs := by rw [Bool.eq_iff_iff, h, callOkB_iff]
def wordsTo (xs : List Int) (k : Nat) : Prop := ∀ (j : Nat) (x : Int), j < k → xs[j]? = some x → 0 ≤ x ∧ x ≤ 4294967295
theorem wordsTo_zero (xs : List Int) : wordsTo xs 0 := fun _ _ h => absurd h (by omega)
theorem wordsTo_succ {xs : List Int} {k : Nat} {x : Int} (h : wordsTo xs k) (hx : xs[k]? = some x) (hw : 0 ≤ x ∧ x ≤ 4294967295) : wordsTo xs (k + 1) := fun j y hj hy => by
  by_cases e : j = k
  · subst e; rw [hx] at hy; cases hy; exact hw
  · exact h j y (by omega) hy
theorem wordsTo_all {xs : List Int} {k : Nat} (h : wordsTo xs k) (hk : xs.length ≤ k) : ∀ x ∈ xs, 0 ≤ x ∧ x ≤ 4294967295 := fun x hx => by
  obtain ⟨j, hj, e⟩ := List.getElem_of_mem hx
  exact h j x (by omega) (by rw [List.getElem?_eq_getElem hj, e])

/-- What a call is written as. -/
def argText (xs : List Int) : List UInt8 := xs.flatMap fun x => 32 :: Lib.itoa x
def callText (n : Int) (xs : List Int) : List UInt8 := Lib.itoa n ++ argText xs
theorem argText_snoc (xs : List Int) (x : Int) : argText (xs ++ [x]) = argText xs ++ (32 :: Lib.itoa x) := by simp [argText]
theorem argText_len : ∀ (xs : List Int), (∀ x ∈ xs, 0 ≤ x ∧ x ≤ 4294967295) → (argText xs).length ≤ 11 * xs.length
  | [], _ => by simp [argText]
  | x :: xs, h => by
    have ih := argText_len xs (fun y hy => h y (by simp [hy]))
    have hx := h x (by simp)
    have h1 : (Lib.itoa x).length ≤ 10 := by rw [itoa_val x hx.1]; exact decDigits_le 9 _ (by omega)
    simp [argText] at ih ⊢
    omega

theorem strs_get {w : World} {A : Option Addr} {n c : Nat} {ls : List (List UInt8)} (h : SlA w 1 A n c (strs ls)) {k : Nat} (hk : k < n) :
    ∃ b off l, A = some ⟨b, off, none⟩ ∧ b < w.heap.size ∧ ls[k]? = some l ∧ (∀ (w' : World) (B : Nat), Below B w w' → b < B → w'.cell? ⟨b, off + k, none⟩ = some (.string ⟨l.toArray⟩)) := by
  have hl := h.len
  rw [strs_len] at hl
  obtain ⟨b, o, e, hb, hc⟩ := h.get hk
  have hk' : k < ls.length := by omega
  refine ⟨b, o, ls[k], e, hb, List.getElem?_eq_getElem hk', fun w' B hw hB => ?_⟩
  have hr : (strs ls)[k]? = some [.string ⟨ls[k].toArray⟩] := by simp [strs, hk']
  have f := hc _ hr 0 _ rfl
  rw [Nat.mul_one, Nat.add_zero] at f
  exact cellAt hw hB f

/-! ### Cutting what a call is written as -/
theorem cutGo_run {b : UInt8} : ∀ (a cur rest : List UInt8), (∀ x ∈ a, x ≠ b) → cutGo b cur (a ++ rest) = cutGo b (cur ++ a) rest
  | [], cur, rest, _ => by simp
  | x :: a, cur, rest, h => by
    rw [List.cons_append, cutGo_miss (h x (by simp)), cutGo_run a _ rest (fun y hy => h y (by simp [hy]))]
    simp
theorem digit_no32 {x : UInt8} (h : isDig x = true) : x ≠ 32 := fun e => by subst e; cases h
theorem itoa_no32 (n : Int) (h : 0 ≤ n) : ∀ x ∈ Lib.itoa n, x ≠ 32 := fun x hx => digit_no32 (itoa_digits n h x hx)
theorem cut_args : ∀ (xs : List Int) (cur : List UInt8), (∀ x ∈ xs, 0 ≤ x) → cutGo 32 cur (argText xs) = cur :: xs.map Lib.itoa
  | [], cur, _ => rfl
  | x :: xs, cur, h => by
    have e : argText (x :: xs) = 32 :: (Lib.itoa x ++ argText xs) := by simp [argText]
    rw [e, cutGo_hit, cutGo_run _ _ _ (itoa_no32 x (h x (by simp))), List.nil_append, cut_args xs _ (fun y hy => h y (by simp [hy]))]
    rfl
theorem cut_call (n : Int) (xs : List Int) (h0 : 0 ≤ n) (h : ∀ x ∈ xs, 0 ≤ x) : cut 32 (callText n xs) = Lib.itoa n :: xs.map Lib.itoa := by
  unfold cut callText
  rw [cutGo_run _ _ _ (itoa_no32 n h0), List.nil_append, cut_args xs _ h]
theorem callText_ne (n : Int) (xs : List Int) (h0 : 0 ≤ n) : callText n xs ≠ [] := by
  unfold callText
  have := itoa_ne n h0
  simp [this]

/-- What spec.CallRead makes of the pieces. -/
def wordsOf (ws : List (List UInt8)) (k : Nat) : List Int := ((ws.drop 1).take (k - 1)).map numOf
theorem wordsOf_one (ws : List (List UInt8)) : wordsOf ws 1 = [] := by simp [wordsOf]
theorem wordsOf_succ {ws : List (List UInt8)} {k : Nat} {l : List UInt8} (h1 : 1 ≤ k) (h : ws[k]? = some l) : wordsOf ws (k + 1) = wordsOf ws k ++ [numOf l] := by
  unfold wordsOf
  have e : (ws.drop 1)[k - 1]? = some l := by rw [List.getElem?_drop, show 1 + (k - 1) = k by omega]; exact h
  rw [show k + 1 - 1 = (k - 1) + 1 by omega, List.take_add_one, e]
  simp
theorem wordsOf_len {ws : List (List UInt8)} {k : Nat} (h1 : 1 ≤ k) (h : k ≤ ws.length) : (wordsOf ws k).length = k - 1 := by simp [wordsOf]; omega

/-- What both CallRead give back. -/
def ReadPost (text : List UInt8) (e : TypeId) (w : World) (en : Ending) (w' : World) : Prop :=
  (∃ n xs v, callOk n xs ∧ text = callText n xs ∧ en = .returned (.tuple #[.agg #[.int .i64 n, v], .bool true]) ∧ w'.ownsRow w.heap.size e 1 v 4 (ints xs).flatten ∧ Below w.heap.size w w') ∨
  ((¬ ∃ n xs, callOk n xs ∧ text = callText n xs) ∧ en = .returned (.tuple #[.agg #[.int .i64 0, .slice none 0 0], .bool false]) ∧ Below w.heap.size w w')

theorem read_of_pieces {text : List UInt8} {ws : List (List UInt8)} {l0 : List UInt8} {k : Nat} (hw : ws = cut 32 text) (h0 : ws[0]? = some l0) (hk : k = ws.length ∨ (k = 6 ∧ 6 ≤ ws.length)) (n : Int) (xs : List Int) (hok : callOk n xs) (ht : text = callText n xs) :
    numOf l0 = n ∧ wordsOf ws k = xs := by
  have hc := cut_call n xs hok.1.1 (fun x hx => (hok.2.2 x hx).1)
  rw [← ht, ← hw] at hc
  have hl : ws.length = 5 := by rw [hc]; simp [hok.2.1]
  have hk5 : k = 5 := by omega
  subst hk5
  rw [hc] at h0 ⊢
  simp at h0
  subst h0
  refine ⟨numOf_itoa n hok.1.1 hok.1.2, ?_⟩
  unfold wordsOf
  rw [show 5 - 1 = 4 from rfl, List.drop_succ_cons, List.drop_zero, List.take_of_length_le (by simp [hok.2.1]), List.map_map]
  have hm : xs.map (numOf ∘ Lib.itoa) = xs.map id := List.map_congr_left fun x hx => numOf_itoa x (hok.2.2 x hx).1 (hok.2.2 x hx).2
  rw [hm, List.map_id]

end Go.Proofs.YtoibocaaeimplaaDoor
