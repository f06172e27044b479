/- Joined texts: Str Dec Num PolP CallS CodeT. -/
import Derived.Test.YtkiacbfpnidjlaaGreatDoorKit
import Derived.Lib.ItoaNum
import Derived.Lib.Strings
import Derived.Deep.DeepMust
import Derived.Deep.RegionWith
import Derived.IntWalk
import Derived.Lib.MinMax
import Derived.Deep.RegionLaw
-- Texts as lists of bytes: spec.l2Cut cuts a text at each byte; spec.l2Num reads a number; spec.l1Dec writes one.
namespace Go.Proofs.YtkiacbfpnidjlaaGreatDoor
open Go.RowKit
set_option linter.unusedSimpArgs false
set_option linter.unusedVariables false

/-- A text cut at each byte 'at_'; 'cur' is what stands since the last cut. -/
def cutGo (b : UInt8) (cur : List UInt8) : List UInt8 → List (List UInt8)
  | [] => [cur]
  | x :: l => if x = b then cur :: cutGo b [] l else cutGo b (cur ++ [x]) l
def cut (b : UInt8) (l : List UInt8) : List (List UInt8) := cutGo b [] l
theorem cutGo_hit (b : UInt8) (cur l : List UInt8) : cutGo b cur (b :: l) = cur :: cutGo b [] l := by simp [cutGo]
theorem cutGo_miss {b x : UInt8} (h : ¬ x = b) (cur l : List UInt8) : cutGo b cur (x :: l) = cutGo b (cur ++ [x]) l := by simp [cutGo, h]
theorem cutGo_len (b : UInt8) : ∀ (l cur : List UInt8), (cutGo b cur l).length ≤ l.length + 1
  | [], cur => by simp [cutGo]
  | x :: l, cur => by
    unfold cutGo
    split
    · simp; exact cutGo_len b l []
    · have := cutGo_len b l (cur ++ [x]); simp; omega
theorem cut_len (b : UInt8) (l : List UInt8) : (cut b l).length ≤ l.length + 1 := cutGo_len b l []
theorem cutGo_ne (b : UInt8) : ∀ (l cur : List UInt8), cutGo b cur l ≠ []
  | [], cur => by simp [cutGo]
  | x :: l, cur => by
    unfold cutGo
    split
    · simp
    · exact cutGo_ne b l _
theorem cut_ne (b : UInt8) (l : List UInt8) : cut b l ≠ [] := cutGo_ne b l []

/-- The cells of texts. -/
def strs (ls : List (List UInt8)) : List (List Value) := ls.map fun l => [.string ⟨l.toArray⟩]
theorem strs_rows (ls : List (List UInt8)) : ∀ r ∈ strs ls, r.length = 1 := by simp [strs]
theorem strs_len (ls : List (List UInt8)) : (strs ls).length = ls.length := by simp [strs]
theorem strs_flat (ls : List (List UInt8)) : (strs ls).flatten = ls.map fun l => Value.string ⟨l.toArray⟩ := by
  induction ls with
  | nil => rfl
  | cons x xs ih => simp [strs] at ih ⊢; exact ih

theorem info_string : (Tryz.prog.info? 9).map (fun i => (i.zero, i.size, i.bytes)) = some (some (.string ByteArray.empty), 1, 16) := by kernel_rfl

theorem byteEq {a b : UInt8} : ((a.toNat : Int) == (b.toNat : Int)) = decide (a = b) := by
  rw [Bool.eq_iff_iff]
  simp only [beq_iff_eq, decide_eq_true_eq]
  exact ⟨fun h => UInt8.toNat_inj.1 (by omega), fun h => by rw [h]⟩
theorem drop_cons {l : List UInt8} {k : Nat} (h : k < l.length) : l.drop k = l[k] :: l.drop (k + 1) := List.drop_eq_getElem_cons h
theorem take_more {l : List UInt8} {f k : Nat} (hf : f ≤ k) (h : k < l.length) : (l.drop f).take (k + 1 - f) = (l.drop f).take (k - f) ++ [l[k]] := by
  rw [show k + 1 - f = (k - f) + 1 by omega, List.take_succ_eq_append_getElem (by simp; omega)]
  congr 2
  simp [show f + (k - f) = k by omega]

/-! ### spec.l2Num -/
def isDig (x : UInt8) : Bool := 48 ≤ x && x ≤ 57
/-- The number that figures write, onto what stands ahead. -/
def valOn (v : Int) : List UInt8 → Int
  | [] => v
  | x :: l => valOn (v * 10 + ((x.toNat : Int) - 48)) l
theorem valOn_snoc : ∀ (l : List UInt8) (v : Int) (x : UInt8), valOn v (l ++ [x]) = valOn v l * 10 + ((x.toNat : Int) - 48)
  | [], v, x => rfl
  | y :: l, v, x => valOn_snoc l _ x
theorem isDig_iff {x : UInt8} : isDig x = true ↔ 48 ≤ x.toNat ∧ x.toNat ≤ 57 := by
  simp [isDig, UInt8.le_iff_toNat_le]
theorem valOn_bd : ∀ (l : List UInt8) (v : Int), 0 ≤ v → (∀ x ∈ l, isDig x = true) → v ≤ valOn v l ∧ valOn v l < (v + 1) * 10 ^ l.length
  | [], v, _, _ => by simp [valOn]; omega
  | x :: l, v, h0, h => by
    have hx := isDig_iff.1 (h x (by simp))
    have ih := valOn_bd l (v * 10 + ((x.toNat : Int) - 48)) (by omega) (fun y hy => h y (by simp [hy]))
    simp only [valOn, List.length_cons, Int.pow_succ]
    have hp : (0 : Int) < 10 ^ l.length := Int.pow_pos (by omega)
    have h2 : (v * 10 + ((x.toNat : Int) - 48) + 1) * 10 ^ l.length ≤ ((v + 1) * 10) * 10 ^ l.length := Int.mul_le_mul_of_nonneg_right (by omega) (by omega)
    refine ⟨by omega, ?_⟩
    rw [show (v + 1) * ((10 : Int) ^ l.length * 10) = ((v + 1) * 10) * 10 ^ l.length by rw [Int.mul_comm (10 ^ l.length) 10, Int.mul_assoc]]
    omega

/-- The number of at most ten figures without noughts ahead, up to the greatest word; -1 of any other text. -/
def numOf (l : List UInt8) : Int :=
  if l.length = 0 ∨ 10 < l.length ∨ (1 < l.length ∧ l[0]? = some 48) then -1
  else if l.all isDig then (if valOn 0 l ≤ 4294967295 then valOn 0 l else -1) else -1

theorem numOf_no1 {l : List UInt8} (h : ¬ (1 ≤ l.length ∧ l.length ≤ 10)) : numOf l = -1 := by unfold numOf; rw [if_pos (by omega)]
theorem numOf_no2 {l : List UInt8} (h : 1 < l.length ∧ l[0]? = some 48) : numOf l = -1 := by unfold numOf; rw [if_pos (by right; right; exact h)]
theorem numOf_no3 {l : List UInt8} {x : UInt8} (hx : x ∈ l) (h : isDig x = false) : numOf l = -1 := by
  unfold numOf
  split
  · rfl
  · rw [if_neg]
    intro ha
    have := List.all_eq_true.1 ha x hx
    rw [h] at this; cases this
theorem numOf_yes {l : List UInt8} (h1 : 1 ≤ l.length ∧ l.length ≤ 10) (h2 : ¬ (1 < l.length ∧ l[0]? = some 48)) (h3 : ∀ x ∈ l, isDig x = true) : numOf l = if valOn 0 l ≤ 4294967295 then valOn 0 l else -1 := by
  unfold numOf
  rw [if_neg (by intro h; rcases h with h | h | h <;> first | omega | exact h2 h), if_pos (List.all_eq_true.2 h3)]

end Go.Proofs.YtkiacbfpnidjlaaGreatDoor

-- spec.l1Dec writes a number in decimals.
namespace Go.Proofs.YtkiacbfpnidjlaaGreatDoor
open Go.RowKit
set_option linter.unusedSimpArgs false
set_option linter.unusedVariables false

theorem decDigits_small {u : Nat} (h : u < 10) : Lib.decDigits u = [UInt8.ofNat (48 + u)] := Lib.decDigits_one h
theorem decDigits_big {u : Nat} (h : ¬ u < 10) : Lib.decDigits u = Lib.decDigits (u / 10) ++ [UInt8.ofNat (48 + u % 10)] := by
  rw [Lib.decDigits, dif_neg h]

theorem decDigits_le : ∀ (k u : Nat), u < 10 ^ (k + 1) → (Lib.decDigits u).length ≤ k + 1
  | 0, u, h => by rw [decDigits_small (by simpa using h)]; simp
  | k + 1, u, h => by
    by_cases hs : u < 10
    · rw [decDigits_small hs]; simp
    · rw [decDigits_big hs]
      rw [Nat.pow_succ] at h
      have := decDigits_le k (u / 10) (by omega)
      simp; omega
theorem decDigits_le19 (u : Nat) (h : u ≤ 9223372036854775807) : (Lib.decDigits u).length ≤ 19 := decDigits_le 18 u (by omega)
theorem decDigits_le20 (u : Nat) (h : u ≤ 9223372036854775808) : (Lib.decDigits u).length ≤ 19 := decDigits_le 18 u (by omega)

theorem ba_append (a b : List UInt8) : (⟨a.toArray⟩ ++ ⟨b.toArray⟩ : ByteArray) = ⟨(a ++ b).toArray⟩ := by
  apply ByteArray.ext
  simp

/-- 'string([]byte{x})'. -/
theorem run_conv1 {P : Program} {src dst e t : TypeId} (hs : P.underlying src = some (.slice e)) (he : P.underlying e = some (.int .u8)) (hd : P.underlying dst = some .string) (W : World) (x : Int) :
    (convert src dst (.slice (some ⟨W.heap.size, 0, none⟩) 1 1)).run P (W.alloc (.cells #[.int .u8 x] t)) = .ok (.string ⟨#[UInt8.ofNat x.toNat]⟩) (W.alloc (.cells #[.int .u8 x] t)) := by
  have hc : (loadCells ⟨W.heap.size, 0, none⟩ 1).run P (W.alloc (.cells #[.int .u8 x] t)) = .ok ([x].map (Value.int .u8)).toArray (W.alloc (.cells #[.int .u8 x] t)) :=
    run_loadCells_list (P := P) _ ⟨W.heap.size, 0, none⟩ [.int .u8 x] (fun j v hv => by
      rw [add_at, cell_of_row _ _ _ #[.int .u8 x] t (0, 0) (heap_alloc_new W _)]
      simpa using hv)
  rw [run_convert_bytes_string _ _ _ _ _ _ _ hs he hd, run_bytesToString _ _ _ _ [x] hc]
  rfl

theorem run_conv1' {P : Program} {src dst e : TypeId} (hs : P.underlying src = some (.slice e)) (he : P.underlying e = some (.int .u8)) (hd : P.underlying dst = some .string) (W : World) (g : Nat) (x : Int) (c : Nat) (h : W.cell? ⟨g, 0, none⟩ = some (.int .u8 x)) :
    (convert src dst (.slice (some ⟨g, 0, none⟩) 1 c)).run P W = .ok (.string ⟨#[UInt8.ofNat x.toNat]⟩) W := by
  have hc : (loadCells ⟨g, 0, none⟩ 1).run P W = .ok ([x].map (Value.int .u8)).toArray W :=
    run_loadCells_list (P := P) _ ⟨g, 0, none⟩ [.int .u8 x] (fun j v hv => by
      cases j with
      | zero => rw [add_zero']; simp at hv; subst hv; exact h
      | succ j => simp at hv)
  rw [run_convert_bytes_string _ _ _ _ _ _ _ hs he hd, run_bytesToString _ _ _ _ [x] hc]
  rfl

set_option maxHeartbeats 1000000 in
theorem l1Dec_nat (u : Nat) : ∀ (w : World), u ≤ 9223372036854775807 →
    Calls Tryz.prog 54 #[.int .i64 u] w fun e w' => e = .returned (.string ⟨(Lib.decDigits u).toArray⟩) ∧ Below w.heap.size w w' := by
  induction u using Nat.strongRecOn with
  | _ u ih =>
    intro w hu
    have IH := Lib.hid ih; clear ih
    have hconv := fun W x => run_conv1 (P := Tryz.prog) (t := 5) Tryz.underlying92 Tryz.underlying5 Tryz.underlying9 W x
    by_cases h : u < 10
    · go_enter Tryz.func54, Tryz.ntmps54
      go_wp2
      go_ret
      refine ⟨?_, by go_grown⟩
      rw [decDigits_small h]
      rfl
    · have hq : u / 10 ≤ 9223372036854775807 := by omega
      have hcast : (u : Int) / 10 = ((u / 10 : Nat) : Int) := by omega
      have HC := Lib.hid hcast; clear hcast
      have hdl := decDigits_le19 (u / 10) hq
      have e1 : IntKind.i64.wrap ((u : Int) / 10) = (u : Int) / 10 := IntWalk.i64_in _ (by omega)
      have e2 : (u : Int).tmod 10 = (u : Int) % 10 := Int.tmod_eq_emod_of_nonneg (by omega)
      have e3 : IntKind.i64.wrap (48 + (u : Int) % 10) = 48 + (u : Int) % 10 := IntWalk.i64_in _ (by omega)
      have e4 : IntKind.u8.wrap (48 + (u : Int) % 10) = 48 + (u : Int) % 10 := IntWalk.u8_in _ (by omega)
      have hcv := fun W g x h => run_conv1' (P := Tryz.prog) Tryz.underlying92 Tryz.underlying5 Tryz.underlying9 W g x 1 h
      go_enter Tryz.func54, Tryz.ntmps54
      go_wp2
      go_region_with (first
        | (go_at_call 54; rw [HC.out]; ((with_reducible refine (IH.out (u / 10) (by omega) ((w.alloc (.cells #[.int .u8 (48 + (u : Int) % 10)] 5)).drew) hq).mono ?_); rintro e w1 ⟨rfl, hb1⟩; have hk : w1.cell? ⟨w.heap.size, 0, none⟩ = some (.int .u8 (48 + (u : Int) % 10)) := (hb1.cell (p := ⟨w.heap.size, 0, none⟩) (by simp)).trans (by simp [go_sem])))
        | (go_at_call 54; rw [HC.out]; refine (IH.out (u / 10) (by omega) _ hq).mono ?_; rintro e w1 ⟨rfl, hb1⟩))
      all_goals go_wp2
      all_goals go_ret
      all_goals
        have hb2 : Below w.heap.size w w1 := below_step (by go_grown) (by go_size) hb1
        have hs2 := hb2.size
        refine ⟨?_, by go_grown⟩
        rw [decDigits_big h, ← ba_append]
        simp [Act.put]

theorem itoa_nat (u : Nat) : Lib.itoa (u : Int) = Lib.decDigits u := by unfold Lib.itoa; rw [if_neg (by omega)]; simp
theorem itoa_neg' (u : Nat) (h : 0 < u) : Lib.itoa (-(u : Int)) = 45 :: Lib.decDigits u := by unfold Lib.itoa; rw [if_pos (by omega)]; simp
theorem itoa_len (n : Int) (h0 : -9223372036854775808 ≤ n) (h1 : n ≤ 9223372036854775807) : (Lib.itoa n).length ≤ 20 := by
  unfold Lib.itoa
  split
  · have := decDigits_le20 n.natAbs (by omega); simp; omega
  · have := decDigits_le19 n.toNat (by omega); omega

theorem decMin : ([45, 57, 50, 50, 51, 51, 55, 50, 48, 51, 54, 56, 53, 52, 55, 55, 53, 56, 48, 56] : List UInt8) = 45 :: Lib.decDigits 9223372036854775808 := by
  simp [decDigits_big, decDigits_small]

set_option maxHeartbeats 1000000 in
theorem l1Dec_any (n : Int) (w : World) (h0 : -9223372036854775808 ≤ n) (h1 : n ≤ 9223372036854775807) :
    Calls Tryz.prog 54 #[.int .i64 n] w fun e w' => e = .returned (.string ⟨(Lib.itoa n).toArray⟩) ∧ Below w.heap.size w w' := by
  by_cases hp : 0 ≤ n
  · obtain ⟨u, rfl⟩ := Int.eq_ofNat_of_zero_le hp
    rw [itoa_nat]
    exact l1Dec_nat u w (by omega)
  · by_cases hm : n = -9223372036854775808
    · subst hm
      go_enter Tryz.func54, Tryz.ntmps54
      go_wp2
      go_ret
      refine ⟨?_, Below.refl _ _⟩
      have e := itoa_neg' 9223372036854775808 (by omega)
      rw [show (-9223372036854775808 : Int) = -((9223372036854775808 : Nat) : Int) from rfl, e, ← decMin]
      rfl
    · obtain ⟨u, hu⟩ := Int.eq_ofNat_of_zero_le (show 0 ≤ -n by omega)
      obtain rfl : n = -(u : Int) := by omega
      have hu1 : u ≤ 9223372036854775807 := by omega
      have hu0 : 0 < u := by omega
      have hdl := decDigits_le19 u hu1
      have hd := l1Dec_nat u
      have HD := Lib.hid hd; clear hd hu hm
      have hm1 : -9223372036854775807 ≤ -(u : Int) := by omega
      go_enter Tryz.func54, Tryz.ntmps54
      go_wp2_with (go_at_call 54; refine (HD.out _ hu1).mono ?_; rintro e w1 ⟨rfl, hb1⟩)
      go_ret
      refine ⟨?_, hb1⟩
      rw [itoa_neg' u hu0]
      rfl
end Go.Proofs.YtkiacbfpnidjlaaGreatDoor

-- Decimals: what figures say, and how they are written; reading a number at the head of a text is unique. No program in sight.
namespace Go.Proofs.YtkiacbfpnidjlaaGreatDoor
open Go.RowKit
set_option linter.unusedSimpArgs false
set_option linter.unusedVariables false

theorem ofNat_dig {d : Nat} (h : d < 10) : (UInt8.ofNat (48 + d)).toNat = 48 + d := by
  have e : (UInt8.ofNat (48 + d)).toNat = (48 + d) % 256 := rfl
  rw [e]; omega
theorem isDig_ofNat {d : Nat} (h : d < 10) : isDig (UInt8.ofNat (48 + d)) = true := isDig_iff.2 (by rw [ofNat_dig h]; omega)
theorem dec_digits (u : Nat) : ∀ x ∈ Lib.decDigits u, isDig x = true := by
  induction u using Nat.strongRecOn with
  | _ u ih =>
    intro x hx
    by_cases h : u < 10
    · rw [decDigits_small h] at hx
      rw [List.mem_singleton] at hx; subst hx; exact isDig_ofNat h
    · rw [decDigits_big h] at hx
      rcases List.mem_append.1 hx with h1 | h1
      · exact ih _ (by omega) x h1
      · rw [List.mem_singleton] at h1; subst h1; exact isDig_ofNat (Nat.mod_lt _ (by omega))
theorem dec_val (u : Nat) : valOn 0 (Lib.decDigits u) = u := by
  induction u using Nat.strongRecOn with
  | _ u ih =>
    by_cases h : u < 10
    · rw [decDigits_small h]; simp only [valOn]; rw [ofNat_dig h]; omega
    · rw [decDigits_big h, valOn_snoc, ih _ (by omega), ofNat_dig (Nat.mod_lt _ (by omega))]; omega
theorem dec_ne (u : Nat) : Lib.decDigits u ≠ [] := by
  by_cases h : u < 10
  · rw [decDigits_small h]; simp
  · rw [decDigits_big h]; simp
theorem dec_head (u : Nat) (h : 0 < u) : (Lib.decDigits u)[0]? ≠ some 48 := by
  induction u using Nat.strongRecOn with
  | _ u ih =>
    by_cases hs : u < 10
    · rw [decDigits_small hs]
      intro e
      have := congrArg UInt8.toNat (Option.some.inj e)
      rw [ofNat_dig hs] at this
      have h2 : (48 : UInt8).toNat = 48 := rfl
      omega
    · rw [decDigits_big hs, List.getElem?_append_left (List.length_pos_iff.2 (dec_ne _))]
      exact ih _ (by omega) (by omega)

/-- Figures without noughts ahead are the number's own. -/
theorem dec_of_digits (l : List UInt8) (h0 : l ≠ []) (hd : ∀ x ∈ l, isDig x = true) (hz : 1 < l.length → l[0]? ≠ some 48) : Lib.decDigits (valOn 0 l).toNat = l := by
  induction hn : l.length using Nat.strongRecOn generalizing l with
  | _ n ih =>
    rcases List.eq_nil_or_concat l with h | ⟨l', x, h⟩
    · exact absurd h h0
    · rw [List.concat_eq_append] at h
      have hx := isDig_iff.1 (hd x (by rw [h]; simp))
      have hxe : UInt8.ofNat (48 + (x.toNat - 48)) = x := by
        apply UInt8.toNat_inj.1
        rw [ofNat_dig (by omega)]; omega
      by_cases hl : l' = []
      · subst hl
        subst h
        simp only [List.nil_append, valOn]
        rw [decDigits_small (by omega), show (0 * 10 + ((x.toNat : Int) - 48)).toNat = x.toNat - 48 by omega, hxe]
      · have hd' : ∀ y ∈ l', isDig y = true := fun y hy => hd y (by rw [h]; simp [hy])
        have hlen : l'.length < l.length := by rw [h]; simp
        have hz0 : l'[0]? ≠ some 48 := by
          have := hz (by rw [h]; simp; exact List.length_pos_iff.2 hl)
          rwa [h, List.getElem?_append_left (List.length_pos_iff.2 hl)] at this
        have e := ih l'.length (by omega) l' hl hd' (fun _ => hz0) rfl
        have hb := valOn_bd l' 0 (by omega) hd'
        have hpos : valOn 0 l' ≠ 0 := by
          intro h0'
          rw [h0'] at e
          rw [show (0 : Int).toNat = 0 from rfl, decDigits_small (by omega)] at e
          rw [← e] at hz0
          exact hz0 rfl
        rw [h, valOn_snoc]
        rw [decDigits_big (by omega)]
        rw [show (valOn 0 l' * 10 + ((x.toNat : Int) - 48)).toNat / 10 = (valOn 0 l').toNat by omega, e]
        rw [show (valOn 0 l' * 10 + ((x.toNat : Int) - 48)).toNat % 10 = x.toNat - 48 by omega, hxe]

theorem itoa_val (n : Int) (h : 0 ≤ n) : Lib.itoa n = Lib.decDigits n.toNat := by unfold Lib.itoa; rw [if_neg (by omega)]
theorem itoa_digits (n : Int) (h : 0 ≤ n) : ∀ x ∈ Lib.itoa n, isDig x = true := by rw [itoa_val n h]; exact dec_digits _
theorem itoa_ne (n : Int) (h : 0 ≤ n) : Lib.itoa n ≠ [] := by rw [itoa_val n h]; exact dec_ne _
theorem itoa_valOn (n : Int) (h : 0 ≤ n) : valOn 0 (Lib.itoa n) = n := by rw [itoa_val n h, dec_val]; omega

/-- A number that a text reads as is written just so. -/
theorem numOf_itoa (n : Int) (h0 : 0 ≤ n) (h1 : n ≤ 4294967295) : numOf (Lib.itoa n) = n := by
  have hl : (Lib.itoa n).length ≤ 10 := by rw [itoa_val n h0]; exact decDigits_le 9 _ (by omega)
  have hp : 1 ≤ (Lib.itoa n).length := List.length_pos_iff.2 (itoa_ne n h0)
  rw [numOf_yes ⟨hp, hl⟩ ?_ (itoa_digits n h0), itoa_valOn n h0, if_pos h1]
  rintro ⟨h2, h3⟩
  by_cases hz : n = 0
  · subst hz
    have : Lib.itoa 0 = [48] := by rw [itoa_val 0 (by omega), show (0 : Int).toNat = 0 from rfl, decDigits_small (by omega)]; rfl
    rw [this] at h2; simp at h2
  · rw [itoa_val n h0] at h3
    exact dec_head _ (by omega) h3
theorem itoa_numOf (l : List UInt8) (h : 0 ≤ numOf l) : Lib.itoa (numOf l) = l ∧ numOf l ≤ 4294967295 := by
  by_cases h1 : 1 ≤ l.length ∧ l.length ≤ 10
  · by_cases h2 : 1 < l.length ∧ l[0]? = some 48
    · rw [numOf_no2 h2] at h; omega
    · by_cases h3 : ∀ x ∈ l, isDig x = true
      · rw [numOf_yes h1 h2 h3] at h ⊢
        split
        · rename_i hb
          have hv := (valOn_bd l 0 (by omega) h3).1
          refine ⟨?_, hb⟩
          rw [itoa_val _ hv]
          exact dec_of_digits l (by intro e; rw [e] at h1; simp at h1) h3 (fun h4 h5 => h2 ⟨h4, h5⟩)
        · rename_i hb
          rw [if_neg hb] at h; omega
      · have : ∃ x ∈ l, isDig x = false := by
          apply Classical.byContradiction
          intro hn
          apply h3
          intro x hx
          cases hd : isDig x with
          | true => rfl
          | false => exact absurd ⟨x, hx, hd⟩ hn
        obtain ⟨x, hx, hd⟩ := this
        rw [numOf_no3 hx hd] at h; omega
  · rw [numOf_no1 h1] at h; omega

/-- What stands behind a number does not begin with a figure. -/
def noDig (r : List UInt8) : Prop := ∀ x, r[0]? = some x → isDig x = false
/-- A text begins with a number, written as it must be, and 'r' is what is left. -/
def NumAt (most : Int) (l : List UInt8) (v : Int) (r : List UInt8) : Prop := (0 ≤ v ∧ v ≤ most) ∧ l = Lib.itoa v ++ r ∧ noDig r

theorem digits_split : ∀ (a b r s : List UInt8), (∀ x ∈ a, isDig x = true) → (∀ x ∈ b, isDig x = true) → noDig r → noDig s → a ++ r = b ++ s → a = b ∧ r = s
  | [], [], r, s, _, _, _, _, h => ⟨rfl, by simpa using h⟩
  | [], y :: b, r, s, _, hb, hr, _, h => by
    have := hr y (by simp at h; rw [h]; rfl)
    rw [hb y (by simp)] at this; cases this
  | x :: a, [], r, s, ha, _, _, hs, h => by
    have := hs x (by simp at h; rw [← h]; rfl)
    rw [ha x (by simp)] at this; cases this
  | x :: a, y :: b, r, s, ha, hb, hr, hs, h => by
    simp only [List.cons_append, List.cons.injEq] at h
    obtain ⟨e1, e2⟩ := digits_split a b r s (fun z hz => ha z (by simp [hz])) (fun z hz => hb z (by simp [hz])) hr hs h.2
    exact ⟨by rw [h.1, e1], e2⟩
theorem NumAt.unique {m m' : Int} {l r r' : List UInt8} {v v' : Int} (h : NumAt m l v r) (h' : NumAt m' l v' r') : v = v' ∧ r = r' := by
  obtain ⟨⟨a0, _⟩, e, n⟩ := h
  obtain ⟨⟨b0, _⟩, e', n'⟩ := h'
  obtain ⟨x, y⟩ := digits_split _ _ _ _ (itoa_digits v a0) (itoa_digits v' b0) n n' (e.symm.trans e')
  refine ⟨?_, y⟩
  rw [← itoa_valOn v a0, x, itoa_valOn v' b0]

theorem valOn_append : ∀ (a b : List UInt8) (v : Int), valOn v (a ++ b) = valOn (valOn v a) b
  | [], _, _ => rfl
  | x :: a, b, v => valOn_append a b _
theorem NumAt.pre {most : Int} {l : List UInt8} {v : Int} {r : List UInt8} (h : NumAt most l v r) {k : Nat} (hk : k ≤ l.length) (hd : ∀ x ∈ l.take k, isDig x = true) : ∃ t, Lib.itoa v = l.take k ++ t := by
  obtain ⟨⟨h0, _⟩, e, n⟩ := h
  have hle : k ≤ (Lib.itoa v).length := by
    apply Classical.byContradiction
    intro hn
    have hlt : (Lib.itoa v).length < k := by omega
    have h1 : l[(Lib.itoa v).length]? = r[0]? := by rw [e, List.getElem?_append_right (Nat.le_refl _), Nat.sub_self]
    have h2 : l[(Lib.itoa v).length]? = some (l[(Lib.itoa v).length]'(by omega)) := List.getElem?_eq_getElem (by omega)
    have h3 := n _ (h1.symm.trans h2)
    have h4 := hd (l[(Lib.itoa v).length]'(by omega)) (by
      rw [List.mem_take_iff_getElem]
      exact ⟨_, by omega, rfl⟩)
    rw [h3] at h4; cases h4
  refine ⟨(Lib.itoa v).drop k, ?_⟩
  rw [e, List.take_append_of_le_length hle, List.take_append_drop]
theorem no_num_zero {most : Int} {l : List UInt8} {k : Nat} (hk : k < l.length) (h1 : 0 < k) (hd : ∀ x ∈ l.take (k + 1), isDig x = true) (hv : valOn 0 (l.take k) = 0) : ¬ ∃ v r, NumAt most l v r := by
  rintro ⟨v, r, h⟩
  obtain ⟨t, ht⟩ := h.pre (k := k + 1) (by omega) hd
  have h0 := h.1.1
  rw [itoa_val v h0] at ht
  have hlen : k + 1 ≤ (Lib.decDigits v.toNat).length := by rw [ht]; simp; omega
  by_cases hz : v.toNat = 0
  · rw [hz, decDigits_small (by omega)] at hlen; simp at hlen; omega
  · apply dec_head v.toNat (by omega)
    rw [ht, List.getElem?_append_left (by simp; omega), List.getElem?_take_of_lt (by omega)]
    obtain ⟨k', rfl⟩ : ∃ k', k = k' + 1 := ⟨k - 1, by omega⟩
    cases l with
    | nil => simp at hk
    | cons x l' =>
      have hx := isDig_iff.1 (hd x (by simp))
      rw [List.take_succ_cons] at hv
      have hv' : valOn ((x.toNat : Int) - 48) (l'.take k') = 0 := by simpa [valOn] using hv
      have hb := (valOn_bd (l'.take k') ((x.toNat : Int) - 48) (by omega) (fun y hy => hd y (by
        rw [List.take_succ_cons]
        refine List.mem_cons_of_mem _ ?_
        rw [List.mem_take_iff_getElem] at hy ⊢
        obtain ⟨i, hi, e⟩ := hy
        exact ⟨i, by omega, e⟩))).1
      rw [hv'] at hb
      show some x = some 48
      congr 1
      apply UInt8.toNat_inj.1
      show _ = 48
      omega
theorem no_num_over {most : Int} {l : List UInt8} {k : Nat} (hk : k ≤ l.length) (hd : ∀ x ∈ l.take k, isDig x = true) (hv : most < valOn 0 (l.take k)) : ¬ ∃ v r, NumAt most l v r := by
  rintro ⟨v, r, h⟩
  obtain ⟨t, ht⟩ := h.pre hk hd
  have h1 := itoa_valOn v h.1.1
  have hdt := itoa_digits v h.1.1
  rw [ht] at h1 hdt
  rw [valOn_append] at h1
  have h2 := (valOn_bd (l.take k) 0 (by omega) hd).1
  have h3 := (valOn_bd t (valOn 0 (l.take k)) h2 (fun x hx => hdt x (by simp [hx]))).1
  have := h.1.2
  omega
theorem no_num_none {most : Int} {l : List UInt8} (h : noDig l) : ¬ ∃ v r, NumAt most l v r := by
  rintro ⟨v, r, ⟨h0, _⟩, e, n⟩
  have hne := itoa_ne v h0
  have hd := itoa_digits v h0
  cases hi : Lib.itoa v with
  | nil => exact hne hi
  | cons x t =>
    rw [hi] at e hd
    have := h x (by rw [e]; rfl)
    rw [hd x (by simp)] at this; cases this
theorem num_yes {most : Int} {l : List UInt8} {k : Nat} (hk : k ≤ l.length) (h1 : 0 < k) (hd : ∀ x ∈ l.take k, isDig x = true) (hz : 1 < k → l[0]? ≠ some 48) (hm : valOn 0 (l.take k) ≤ most) (hn : noDig (l.drop k)) : NumAt most l (valOn 0 (l.take k)) (l.drop k) := by
  have h0 := (valOn_bd (l.take k) 0 (by omega) hd).1
  refine ⟨⟨h0, hm⟩, ?_, hn⟩
  rw [itoa_val _ h0, dec_of_digits (l.take k) (by intro e; have := congrArg List.length e; rw [List.length_take, List.length_nil] at this; omega) hd (fun hl => by
    have hl' : 1 < k := by simp at hl; omega
    rw [List.getElem?_take_of_lt h1]; exact hz hl'), List.take_append_drop]
end Go.Proofs.YtkiacbfpnidjlaaGreatDoor

-- Policies: when one is ok, how one is written; plain words; no Go function is walked here.
namespace Go.Proofs.YtkiacbfpnidjlaaGreatDoor
open Go.RowKit
set_option linter.unusedSimpArgs false
set_option linter.unusedVariables false

theorem itoa10 {n : Int} (h : 0 ≤ n ∧ n ≤ 4294967295) : (Lib.itoa n).length ≤ 10 := by rw [itoa_val n h.1]; exact decDigits_le 9 _ (by omega)

def verdNm (n : Int) : List UInt8 := if n = 1 then [97, 108, 108, 111, 119] else if n = 2 then [100, 101, 110, 121] else if n = 3 then [110, 111, 116, 101] else if n = 4 then [115, 116, 111, 112] else []
def signNm (n : Int) : List UInt8 := if n = 1 then [61] else if n = 2 then [60] else if n = 3 then [62] else []
theorem verdNm_len (n : Int) : (verdNm n).length ≤ 5 := by
  unfold verdNm
  by_cases h1 : n = 1
  · rw [if_pos h1]; simp
  rw [if_neg h1]
  by_cases h2 : n = 2
  · rw [if_pos h2]; simp
  rw [if_neg h2]
  by_cases h3 : n = 3
  · rw [if_pos h3]; simp
  rw [if_neg h3]
  by_cases h4 : n = 4
  · rw [if_pos h4]; simp
  rw [if_neg h4]; simp
theorem signNm_len (n : Int) : (signNm n).length ≤ 1 := by
  unfold signNm
  by_cases h1 : n = 1
  · rw [if_pos h1]; simp
  rw [if_neg h1]
  by_cases h2 : n = 2
  · rw [if_pos h2]; simp
  rw [if_neg h2]
  by_cases h3 : n = 3
  · rw [if_pos h3]; simp
  rw [if_neg h3]; simp
def maskText (m : Int) : List UInt8 := if m = 4294967295 then [] else 38 :: Lib.itoa m
def highText (lo hi : Int) : List UInt8 := if hi = lo then [] else 45 :: Lib.itoa hi
def testText (t : Ts) : List UInt8 := [32, 97] ++ Lib.itoa t.field ++ maskText t.mask ++ signNm t.op ++ Lib.itoa t.value
def headText (r : Rl) : List UInt8 := verdNm r.verdict ++ [32] ++ Lib.itoa r.low ++ highText r.low r.high
def testsText (ts : List Ts) : List UInt8 := (ts.map testText).flatten
def ruleText (r : Rl) : List UInt8 := headText r ++ testsText r.tests ++ [10]
def rulesText (rs : List Rl) : List UInt8 := (rs.map ruleText).flatten
def polText (p : Pol) : List UInt8 := rulesText p.rules ++ [101, 108, 115, 101, 32] ++ verdNm p.els ++ [10]

def testOkB (t : Ts) : Bool := inB t.field 1 4 && inB t.mask 1 4294967295 && inB t.value 0 4294967295 && inB t.op 1 3 && (if t.op == 1 then bits .and .i64 t.value t.mask == t.value else t.mask == 4294967295)
def ruleOkB (r : Rl) : Bool := inB r.verdict 1 4 && inB r.low 0 4294967295 && inB r.high r.low 4294967295 && decide (r.tests.length ≤ 4) && r.tests.all testOkB
def polShapeB (p : Pol) : Bool := decide (p.rules.length ≤ 8) && inB p.els 1 4 && p.rules.all ruleOkB
def polOkB (p : Pol) : Bool := polShapeB p && decide ((polText p).length ≤ 900)

theorem testOkB_words {t : Ts} (h : testOkB t = true) : (1 ≤ t.field ∧ t.field ≤ 4) ∧ (1 ≤ t.mask ∧ t.mask ≤ 4294967295) ∧ (0 ≤ t.value ∧ t.value ≤ 4294967295) ∧ (1 ≤ t.op ∧ t.op ≤ 3) := by
  unfold testOkB at h
  simp only [Bool.and_eq_true, inB_iff] at h
  omega
theorem ruleOkB_words {r : Rl} (h : ruleOkB r = true) : (1 ≤ r.verdict ∧ r.verdict ≤ 4) ∧ (0 ≤ r.low ∧ r.low ≤ r.high) ∧ r.high ≤ 4294967295 ∧ r.tests.length ≤ 4 ∧ ∀ t ∈ r.tests, testOkB t = true := by
  unfold ruleOkB at h
  simp only [Bool.and_eq_true, inB_iff, decide_eq_true_eq, List.all_eq_true] at h
  refine ⟨by omega, by omega, by omega, h.1.2, h.2⟩
theorem polShapeB_words {p : Pol} (h : polShapeB p = true) : p.rules.length ≤ 8 ∧ (1 ≤ p.els ∧ p.els ≤ 4) ∧ ∀ r ∈ p.rules, ruleOkB r = true := by
  unfold polShapeB at h
  simp only [Bool.and_eq_true, inB_iff, decide_eq_true_eq, List.all_eq_true] at h
  exact ⟨h.1.1, h.1.2, h.2⟩
theorem polOkB_shape {p : Pol} (h : polOkB p = true) : polShapeB p = true ∧ (polText p).length ≤ 900 := by
  unfold polOkB at h
  simpa using h
theorem maskText_len {m : Int} (h : 1 ≤ m ∧ m ≤ 4294967295) : (maskText m).length ≤ 11 := by
  unfold maskText
  have := itoa10 (n := m) (by omega)
  split <;> simp <;> omega
theorem testText_len {t : Ts} (h : testOkB t = true) : (testText t).length ≤ 34 := by
  obtain ⟨h1, h2, h3, h4⟩ := testOkB_words h
  have a1 := itoa10 (n := t.field) (by omega)
  have a2 := itoa10 (n := t.value) (by omega)
  have a3 := maskText_len h2
  have a4 := signNm_len t.op
  simp [testText]
  omega
theorem headText_len {r : Rl} (h : ruleOkB r = true) : (headText r).length ≤ 27 := by
  obtain ⟨h1, h2, h3, _⟩ := ruleOkB_words h
  have a1 := itoa10 (n := r.low) (by omega)
  have a2 := itoa10 (n := r.high) (by omega)
  have a3 := verdNm_len r.verdict
  have a4 : (highText r.low r.high).length ≤ 11 := by unfold highText; split <;> simp; omega
  simp [headText]
  omega
theorem testsText_len : ∀ (ts : List Ts), (∀ t ∈ ts, testOkB t = true) → (testsText ts).length ≤ 34 * ts.length
  | [], _ => by simp [testsText]
  | t :: ts, h => by
    have h1 := testText_len (h t (by simp))
    have h2 := testsText_len ts (fun t ht => h t (by simp [ht]))
    simp [testsText] at h2 ⊢
    omega
theorem ruleText_len {r : Rl} (h : ruleOkB r = true) : (ruleText r).length ≤ 164 := by
  have h1 := headText_len h
  have h2 := testsText_len r.tests (ruleOkB_words h).2.2.2.2
  have h3 := (ruleOkB_words h).2.2.2.1
  simp [ruleText]
  omega
theorem rulesText_len : ∀ (rs : List Rl), (∀ r ∈ rs, ruleOkB r = true) → (rulesText rs).length ≤ 164 * rs.length
  | [], _ => by simp [rulesText]
  | t :: ts, h => by
    have h1 := ruleText_len (h t (by simp))
    have h2 := rulesText_len ts (fun t ht => h t (by simp [ht]))
    simp [rulesText] at h2 ⊢
    omega
theorem testsText_take {ts : List Ts} {k : Nat} {t : Ts} (h : ts[k]? = some t) : testsText (ts.take (k + 1)) = testsText (ts.take k) ++ testText t := by
  rw [List.take_add_one, h]; simp [testsText]
theorem rulesText_take {rs : List Rl} {k : Nat} {r : Rl} (h : rs[k]? = some r) : rulesText (rs.take (k + 1)) = rulesText (rs.take k) ++ ruleText r := by
  rw [List.take_add_one, h]; simp [rulesText]

theorem ts_get {w : World} {A : Option Addr} {n c : Nat} {g : List Ts} (h : SlA w 4 A n c (tsR g)) {k : Nat} (hk : k < n) :
    ∃ b off x, A = some ⟨b, off, none⟩ ∧ b < w.heap.size ∧ g[k]? = some x ∧ (∀ (w' : World) (B : Nat), Below B w w' → b < B →
      w'.cell? ⟨b, off + k * 4, none⟩ = some (.int .i64 x.field) ∧ w'.cell? ⟨b, off + k * 4 + 1, none⟩ = some (.int .i64 x.mask) ∧ w'.cell? ⟨b, off + k * 4 + 2, none⟩ = some (.int .i64 x.op) ∧ w'.cell? ⟨b, off + k * 4 + 3, none⟩ = some (.int .i64 x.value)) := by
  have hl := h.len
  rw [tsR_len] at hl
  obtain ⟨b, o, e, hb, hc⟩ := h.get hk
  have hk' : k < g.length := by omega
  refine ⟨b, o, g[k], e, hb, List.getElem?_eq_getElem hk', fun w' B hw hB => ?_⟩
  have hr : (tsR g)[k]? = some g[k].cells := by simp [tsR, hk']
  exact ⟨cellAt hw hB (hc _ hr 0 _ rfl), cellAt hw hB (hc _ hr 1 _ rfl), cellAt hw hB (hc _ hr 2 _ rfl), cellAt hw hB (hc _ hr 3 _ rfl)⟩
theorem rules_get {w : World} {A : Option Addr} {n c : Nat} {rs : List Rl} {css : List (List Value)} (h : SlA w 4 A n c css) (hr : RulesAre w rs css) {k : Nat} (hk : k < n) :
    ∃ b off x tv, A = some ⟨b, off, none⟩ ∧ b < w.heap.size ∧ rs[k]? = some x ∧ Sl w 4 tv (tsR x.tests) ∧ (∀ (w' : World) (B : Nat), Below B w w' → b < B →
      w'.cell? ⟨b, off + k * 4, none⟩ = some (.int .i64 x.verdict) ∧ w'.cell? ⟨b, off + k * 4 + 1, none⟩ = some (.int .i64 x.low) ∧ w'.cell? ⟨b, off + k * 4 + 2, none⟩ = some (.int .i64 x.high) ∧ w'.cell? ⟨b, off + k * 4 + 3, none⟩ = some tv) := by
  have hl := h.len
  have hl2 := hr.1
  obtain ⟨b, o, e, hb, hc⟩ := h.get hk
  have h1 : rs[k]? = some rs[k] := List.getElem?_eq_getElem (by omega)
  have h2 : css[k]? = some css[k] := List.getElem?_eq_getElem (by omega)
  obtain ⟨tv, hcs, hs⟩ := hr.2 k _ _ h1 h2
  refine ⟨b, o, rs[k], tv, e, hb, h1, hs, fun w' B hw hB => ?_⟩
  rw [hcs] at h2
  exact ⟨cellAt hw hB (hc _ h2 0 _ rfl), cellAt hw hB (hc _ h2 1 _ rfl), cellAt hw hB (hc _ h2 2 _ rfl), cellAt hw hB (hc _ h2 3 _ rfl)⟩
end Go.Proofs.YtkiacbfpnidjlaaGreatDoor

-- Calls: spec.CallOk, spec.CallWrite, spec.CallRead.
namespace Go.Proofs.YtkiacbfpnidjlaaGreatDoor
open Go.RowKit
set_option linter.unusedSimpArgs false
set_option linter.unusedVariables false

theorem ints_get {w : World} {A : Option Addr} {n c : Nat} {xs : List Int} (h : SlA w 1 A n c (ints xs)) {k : Nat} (hk : k < n) :
    ∃ b off x, A = some ⟨b, off, none⟩ ∧ b < w.heap.size ∧ xs[k]? = some x ∧ (∀ (w' : World) (B : Nat), Below B w w' → b < B → w'.cell? ⟨b, off + k, none⟩ = some (.int .i64 x)) := by
  have hl := h.len
  rw [ints_len] at hl
  obtain ⟨b, o, e, hb, hc⟩ := h.get hk
  have hk' : k < xs.length := by omega
  refine ⟨b, o, xs[k], e, hb, List.getElem?_eq_getElem hk', fun w' B hw hB => ?_⟩
  have hr : (ints xs)[k]? = some [.int .i64 xs[k]] := by simp [ints, hk']
  have f := hc _ hr 0 _ rfl
  rw [Nat.mul_one, Nat.add_zero] at f
  exact cellAt hw hB f

/-- A call that is ok. -/
def callOk (n : Int) (xs : List Int) : Prop := (0 ≤ n ∧ n ≤ 4294967295) ∧ xs.length = 4 ∧ ∀ x ∈ xs, 0 ≤ x ∧ x ≤ 4294967295
noncomputable def callOkB (n : Int) (xs : List Int) : Bool := @decide (callOk n xs) (Classical.propDecidable _)
theorem callOkB_iff {n : Int} {xs : List Int} : callOkB n xs = true ↔ callOk n xs := by simp [callOkB]
theorem callOkB_of {n : Int} {xs : List Int} {b : Bool} (h : b = true ↔ callOk n xs) : b = callOkB n xs := by rw [Bool.eq_iff_iff, h, callOkB_iff]
def wordsTo (xs : List Int) (k : Nat) : Prop := ∀ (j : Nat) (x : Int), j < k → xs[j]? = some x → 0 ≤ x ∧ x ≤ 4294967295
theorem wordsTo_zero (xs : List Int) : wordsTo xs 0 := fun _ _ h => absurd h (by omega)
theorem wordsTo_succ {xs : List Int} {k : Nat} {x : Int} (h : wordsTo xs k) (hx : xs[k]? = some x) (hw : 0 ≤ x ∧ x ≤ 4294967295) : wordsTo xs (k + 1) := fun j y hj hy => by
  by_cases e : j = k
  · subst e; rw [hx] at hy; cases hy; exact hw
  · exact h j y (by omega) hy
theorem wordsTo_all {xs : List Int} {k : Nat} (h : wordsTo xs k) (hk : xs.length ≤ k) : ∀ x ∈ xs, 0 ≤ x ∧ x ≤ 4294967295 := fun x hx => by
  obtain ⟨j, hj, e⟩ := List.getElem_of_mem hx
  exact h j x (by omega) (by rw [List.getElem?_eq_getElem hj, e])

set_option maxHeartbeats 1000000 in
theorem sCallOk_any (n : Int) (av : Value) (xs : List Int) (w : World) (hs : Sl w 1 av (ints xs)) :
    Calls Tryz.prog 31 #[.agg #[.int .i64 n, av]] w fun e w' => e = .returned (.bool (callOkB n xs)) ∧ Below w.heap.size w w' := by
  obtain ⟨A, m, c, rfl, hA⟩ := hs
  have hl : xs.length = m := by have := hA.len; rwa [ints_len] at this
  have hc := hA.cap
  have hm := hA.max
  unfold maxLen at hm
  have HL := Lib.hid hl; clear hl
  by_cases h1 : (0 ≤ n ∧ n ≤ 4294967295) ∧ m = 4
  · obtain ⟨h1, rfl⟩ := h1
    have hi : inB n 0 4294967295 = true := inB_iff.2 h1
    have H1 := Lib.hid h1; clear h1
    go_enter Tryz.func31, Tryz.ntmps31
    go_wp2_with (go_at_call 27; refine (l1In_any _ _ _ _).mono ?_; rintro e w' ⟨rfl, rfl⟩)
    go_loopw [3] (fun i wr => ∃ k : Nat, k ≤ 4 ∧ i = .int .i64 k ∧ wordsTo xs k ∧ wr.cell? ⟨w.heap.size, 0, none⟩ = some (.int .i64 n) ∧ wr.cell? ⟨w.heap.size, 1, none⟩ = some (.slice A 4 c) ∧ Below w.heap.size w wr) (fun i _ => 4 - (intOf i).toNat)
    case atStart => exact ⟨0, by omega, rfl, wordsTo_zero xs, by simp [go_sem], by simp [go_sem], by go_grown⟩
    case round =>
      obtain ⟨k, hk, rfl, hto, k0, k1, hb⟩ := hrel
      have hsz := hb.size
      by_cases hlt : k < 4
      · obtain ⟨b, off, x, rfl, hab, hgp, hcell⟩ := ints_get hA hlt
        have c0 := hcell wr _ hb hab
        have HP := Lib.hid hgp; clear hgp hcell
        by_cases hx : 0 ≤ x ∧ x ≤ 4294967295
        · have hin : inB x 0 4294967295 = true := inB_iff.2 hx
          have HX := Lib.hid hx; clear hx
          go_wp2_with (go_at_call 27; refine (l1In_any _ _ _ _).mono ?_; rintro e w' ⟨rfl, rfl⟩)
          exact ⟨⟨k + 1, by omega, by go_num, wordsTo_succ hto HP.out HX.out, k0, k1, hb⟩, by simp [intOf]; omega⟩
        · have hin : inB x 0 4294967295 = false := inB_not.2 hx
          have HX := Lib.hid hx; clear hx
          go_wp2_with (go_at_call 27; refine (l1In_any _ _ _ _).mono ?_; rintro e w' ⟨rfl, rfl⟩)
          go_ret
          exact ⟨ret_bool (callOkB_of (by simpa using fun h : callOk n xs => HX.out (h.2.2 x (List.mem_of_getElem? HP.out)))), hb⟩
      · go_wp2
        go_ret
        exact ⟨ret_bool (callOkB_of (by simpa using ⟨H1.out, HL.out, wordsTo_all hto (by rw [HL.out]; omega)⟩)), hb⟩
  · have hno : false = callOkB n xs := callOkB_of (by simpa using fun h : callOk n xs => h1 ⟨h.1, HL.out.symm.trans h.2.1⟩)
    have HN := Lib.hid hno; clear hno
    by_cases h2 : 0 ≤ n ∧ n ≤ 4294967295
    · have hi : inB n 0 4294967295 = true := inB_iff.2 h2
      have h3 : ((m : Int) != 4) = true := by simp; omega
      clear h1 h2
      go_enter Tryz.func31, Tryz.ntmps31
      go_wp2_with (go_at_call 27; refine (l1In_any _ _ _ _).mono ?_; rintro e w' ⟨rfl, rfl⟩)
      go_ret
      exact ⟨ret_bool HN.out, by go_grown⟩
    · have hi : inB n 0 4294967295 = false := inB_not.2 h2
      clear h1 h2
      go_enter Tryz.func31, Tryz.ntmps31
      go_wp2_with (go_at_call 27; refine (l1In_any _ _ _ _).mono ?_; rintro e w' ⟨rfl, rfl⟩)
      go_ret
      exact ⟨ret_bool HN.out, by go_grown⟩

/-- What a call is written as. -/
def argText (xs : List Int) : List UInt8 := xs.flatMap fun x => 32 :: Lib.itoa x
def callText (n : Int) (xs : List Int) : List UInt8 := Lib.itoa n ++ argText xs
theorem argText_snoc (xs : List Int) (x : Int) : argText (xs ++ [x]) = argText xs ++ (32 :: Lib.itoa x) := by simp [argText]
theorem argText_len : ∀ (xs : List Int), (∀ x ∈ xs, 0 ≤ x ∧ x ≤ 4294967295) → (argText xs).length ≤ 11 * xs.length
  | [], _ => by simp [argText]
  | x :: xs, h => by
    have ih := argText_len xs (fun y hy => h y (by simp [hy]))
    have hx := h x (by simp)
    have h1 : (Lib.itoa x).length ≤ 10 := by rw [itoa_val x hx.1]; exact decDigits_le 9 _ (by omega)
    simp [argText] at ih ⊢
    omega

theorem strs_get {w : World} {A : Option Addr} {n c : Nat} {ls : List (List UInt8)} (h : SlA w 1 A n c (strs ls)) {k : Nat} (hk : k < n) :
    ∃ b off l, A = some ⟨b, off, none⟩ ∧ b < w.heap.size ∧ ls[k]? = some l ∧ (∀ (w' : World) (B : Nat), Below B w w' → b < B → w'.cell? ⟨b, off + k, none⟩ = some (.string ⟨l.toArray⟩)) := by
  have hl := h.len
  rw [strs_len] at hl
  obtain ⟨b, o, e, hb, hc⟩ := h.get hk
  have hk' : k < ls.length := by omega
  refine ⟨b, o, ls[k], e, hb, List.getElem?_eq_getElem hk', fun w' B hw hB => ?_⟩
  have hr : (strs ls)[k]? = some [.string ⟨ls[k].toArray⟩] := by simp [strs, hk']
  have f := hc _ hr 0 _ rfl
  rw [Nat.mul_one, Nat.add_zero] at f
  exact cellAt hw hB f

/-! ### Cutting what a call is written as -/
theorem cutGo_run {b : UInt8} : ∀ (a cur rest : List UInt8), (∀ x ∈ a, x ≠ b) → cutGo b cur (a ++ rest) = cutGo b (cur ++ a) rest
  | [], cur, rest, _ => by simp
  | x :: a, cur, rest, h => by
    rw [List.cons_append, cutGo_miss (h x (by simp)), cutGo_run a _ rest (fun y hy => h y (by simp [hy]))]
    simp
theorem digit_no32 {x : UInt8} (h : isDig x = true) : x ≠ 32 := fun e => by subst e; cases h
theorem itoa_no32 (n : Int) (h : 0 ≤ n) : ∀ x ∈ Lib.itoa n, x ≠ 32 := fun x hx => digit_no32 (itoa_digits n h x hx)
theorem cut_args : ∀ (xs : List Int) (cur : List UInt8), (∀ x ∈ xs, 0 ≤ x) → cutGo 32 cur (argText xs) = cur :: xs.map Lib.itoa
  | [], cur, _ => rfl
  | x :: xs, cur, h => by
    have e : argText (x :: xs) = 32 :: (Lib.itoa x ++ argText xs) := by simp [argText]
    rw [e, cutGo_hit, cutGo_run _ _ _ (itoa_no32 x (h x (by simp))), List.nil_append, cut_args xs _ (fun y hy => h y (by simp [hy]))]
    rfl
theorem cut_call (n : Int) (xs : List Int) (h0 : 0 ≤ n) (h : ∀ x ∈ xs, 0 ≤ x) : cut 32 (callText n xs) = Lib.itoa n :: xs.map Lib.itoa := by
  unfold cut callText
  rw [cutGo_run _ _ _ (itoa_no32 n h0), List.nil_append, cut_args xs _ h]
theorem callText_ne (n : Int) (xs : List Int) (h0 : 0 ≤ n) : callText n xs ≠ [] := by
  unfold callText
  have := itoa_ne n h0
  simp [this]

/-- What spec.CallRead makes of the pieces. -/
def wordsOf (ws : List (List UInt8)) (k : Nat) : List Int := ((ws.drop 1).take (k - 1)).map numOf
theorem wordsOf_one (ws : List (List UInt8)) : wordsOf ws 1 = [] := by simp [wordsOf]
theorem wordsOf_succ {ws : List (List UInt8)} {k : Nat} {l : List UInt8} (h1 : 1 ≤ k) (h : ws[k]? = some l) : wordsOf ws (k + 1) = wordsOf ws k ++ [numOf l] := by
  unfold wordsOf
  have e : (ws.drop 1)[k - 1]? = some l := by rw [List.getElem?_drop, show 1 + (k - 1) = k by omega]; exact h
  rw [show k + 1 - 1 = (k - 1) + 1 by omega, List.take_add_one, e]
  simp
theorem wordsOf_len {ws : List (List UInt8)} {k : Nat} (h1 : 1 ≤ k) (h : k ≤ ws.length) : (wordsOf ws k).length = k - 1 := by simp [wordsOf]; omega

/-- What both CallRead give back. -/
def ReadPost (text : List UInt8) (e : TypeId) (w : World) (en : Ending) (w' : World) : Prop :=
  (∃ n xs v, callOk n xs ∧ text = callText n xs ∧ en = .returned (.tuple #[.agg #[.int .i64 n, v], .bool true]) ∧ w'.ownsRow w.heap.size e 1 v 4 (ints xs).flatten ∧ Below w.heap.size w w') ∨
  ((¬ ∃ n xs, callOk n xs ∧ text = callText n xs) ∧ en = .returned (.tuple #[.agg #[.int .i64 0, .slice none 0 0], .bool false]) ∧ Below w.heap.size w w')

theorem read_of_pieces {text : List UInt8} {ws : List (List UInt8)} {l0 : List UInt8} {k : Nat} (hw : ws = cut 32 text) (h0 : ws[0]? = some l0) (hk : k = ws.length ∨ (k = 6 ∧ 6 ≤ ws.length)) (n : Int) (xs : List Int) (hok : callOk n xs) (ht : text = callText n xs) :
    numOf l0 = n ∧ wordsOf ws k = xs := by
  have hc := cut_call n xs hok.1.1 (fun x hx => (hok.2.2 x hx).1)
  rw [← ht, ← hw] at hc
  have hl : ws.length = 5 := by rw [hc]; simp [hok.2.1]
  have hk5 : k = 5 := by omega
  subst hk5
  rw [hc] at h0 ⊢
  simp at h0
  subst h0
  refine ⟨numOf_itoa n hok.1.1 hok.1.2, ?_⟩
  unfold wordsOf
  rw [show 5 - 1 = 4 from rfl, List.drop_succ_cons, List.drop_zero, List.take_of_length_le (by simp [hok.2.1]), List.map_map]
  have hm : xs.map (numOf ∘ Lib.itoa) = xs.map id := List.map_congr_left fun x hx => numOf_itoa x (hok.2.2 x hx).1 (hok.2.2 x hx).2
  rw [hm, List.map_id]

end Go.Proofs.YtkiacbfpnidjlaaGreatDoor

-- Programs as lists, when one is ok, and what it is written as: plain words, no Go function is walked here.
namespace Go.Proofs.YtkiacbfpnidjlaaGreatDoor
open Go.RowKit
set_option linter.unusedSimpArgs false
set_option linter.unusedVariables false

/-- A place of a program. -/
structure In4 where
  op : Int
  k : Int
  yes : Int
  no : Int
theorem In4.ext' {x y : In4} (h1 : x.op = y.op) (h2 : x.k = y.k) (h3 : x.yes = y.yes) (h4 : x.no = y.no) : x = y := by
  cases x; cases y; simp at h1 h2 h3 h4; simp [h1, h2, h3, h4]
def In4.cells (x : In4) : List Value := [.int .i64 x.op, .int .i64 x.k, .int .i64 x.yes, .int .i64 x.no]
def insR (g : List In4) : List (List Value) := g.map In4.cells
theorem insR_rows (g : List In4) : ∀ r ∈ insR g, r.length = 4 := by simp [insR, In4.cells]
theorem insR_len (g : List In4) : (insR g).length = g.length := by simp [insR]

theorem ins_get {w : World} {A : Option Addr} {n c : Nat} {g : List In4} (h : SlA w 4 A n c (insR g)) {k : Nat} (hk : k < n) :
    ∃ b off x, A = some ⟨b, off, none⟩ ∧ b < w.heap.size ∧ g[k]? = some x ∧ (∀ (w' : World) (B : Nat), Below B w w' → b < B →
      w'.cell? ⟨b, off + k * 4, none⟩ = some (.int .i64 x.op) ∧ w'.cell? ⟨b, off + k * 4 + 1, none⟩ = some (.int .i64 x.k) ∧ w'.cell? ⟨b, off + k * 4 + 2, none⟩ = some (.int .i64 x.yes) ∧ w'.cell? ⟨b, off + k * 4 + 3, none⟩ = some (.int .i64 x.no)) := by
  have hl := h.len
  rw [insR_len] at hl
  obtain ⟨b, o, e, hb, hc⟩ := h.get hk
  have hk' : k < g.length := by omega
  refine ⟨b, o, g[k], e, hb, List.getElem?_eq_getElem hk', fun w' B hw hB => ?_⟩
  have hr : (insR g)[k]? = some g[k].cells := by simp [insR, hk']
  exact ⟨cellAt hw hB (hc _ hr 0 _ rfl), cellAt hw hB (hc _ hr 1 _ rfl), cellAt hw hB (hc _ hr 2 _ rfl), cellAt hw hB (hc _ hr 3 _ rfl)⟩

/-- When a place is ok behind which so many are left. -/
def insOk (x : In4) (left : Int) : Prop :=
  (x.op = 1 ∧ (0 ≤ x.k ∧ x.k ≤ 4) ∧ x.yes = 0 ∧ x.no = 0 ∧ 0 ≤ left) ∨
  (x.op = 2 ∧ (0 ≤ x.k ∧ x.k ≤ 4294967295) ∧ x.yes = 0 ∧ x.no = 0 ∧ 0 ≤ left) ∨
  ((x.op = 3 ∨ x.op = 4) ∧ (0 ≤ x.k ∧ x.k ≤ 4294967295) ∧ (0 ≤ x.yes ∧ x.yes ≤ 6) ∧ (0 ≤ x.no ∧ x.no ≤ 6) ∧ x.yes ≤ left ∧ x.no ≤ left) ∨
  (x.op = 5 ∧ (0 ≤ x.k ∧ x.k ≤ left) ∧ x.yes = 0 ∧ x.no = 0) ∨
  (x.op = 6 ∧ (1 ≤ x.k ∧ x.k ≤ 4) ∧ x.yes = 0 ∧ x.no = 0)
/-- When its numbers are ones that can be written. -/
def insWord (x : In4) : Prop :=
  (0 ≤ x.k ∧ x.k ≤ 4294967295) ∧ (((x.op = 3 ∨ x.op = 4) ∧ (0 ≤ x.yes ∧ x.yes ≤ 6) ∧ (0 ≤ x.no ∧ x.no ≤ 6)) ∨ ((x.op = 1 ∨ x.op = 2 ∨ x.op = 5 ∨ x.op = 6) ∧ x.yes = 0 ∧ x.no = 0))
theorem insOk.word {x : In4} {left : Int} (h : insOk x left) (hl : left ≤ 4294967295) : insWord x := by
  unfold insOk at h; unfold insWord; omega

/-- All ways lead to places that are there. -/
def waysTo (g : List In4) (k : Nat) : Prop := ∀ (i : Nat) (x : In4), i < k → g[i]? = some x → insOk x ((g.length : Int) - i - 2)
def waysOk (g : List In4) : Prop := 1 ≤ g.length ∧ g.length ≤ 160 ∧ waysTo g g.length
theorem waysTo_zero (g : List In4) : waysTo g 0 := fun _ _ h => absurd h (by omega)
theorem waysTo_succ {g : List In4} {k : Nat} {x : In4} (h : waysTo g k) (hx : g[k]? = some x) (ho : insOk x ((g.length : Int) - k - 2)) : waysTo g (k + 1) := fun i y hi hy => by
  by_cases e : i = k
  · subst e; rw [hx] at hy; cases hy; exact ho
  · exact h i y (by omega) hy

def opNm (op : Int) : List UInt8 :=
  if op = 1 then [108, 111, 97, 100] else if op = 2 then [97, 110, 100] else if op = 3 then [101, 113] else if op = 4 then [103, 116] else if op = 5 then [106, 117, 109, 112] else if op = 6 then [101, 110, 100] else []
def tailW (x : In4) : List UInt8 := if x.op = 3 ∨ x.op = 4 then 32 :: (Lib.itoa x.yes ++ 32 :: Lib.itoa x.no) else []
/-- What a place is written as, without its end of line. -/
def insLine (x : In4) : List UInt8 := opNm x.op ++ 32 :: (Lib.itoa x.k ++ tailW x)
def insText (x : In4) : List UInt8 := insLine x ++ [10]
def codeText (g : List In4) : List UInt8 := g.flatMap insText
theorem codeText_nil : codeText [] = [] := rfl
theorem codeText_cons (x : In4) (g : List In4) : codeText (x :: g) = insText x ++ codeText g := by simp [codeText]
theorem codeText_append (g h : List In4) : codeText (g ++ h) = codeText g ++ codeText h := by simp [codeText]
theorem codeText_snoc (g : List In4) (x : In4) : codeText (g ++ [x]) = codeText g ++ insText x := by simp [codeText]
theorem insText_pos (x : In4) : 0 < (insText x).length := by simp [insText]

/-- A program that is ok. -/
def codeOk (g : List In4) : Prop := waysOk g ∧ (codeText g).length ≤ 2600
noncomputable def codeOkB (g : List In4) : Bool := @decide (codeOk g) (Classical.propDecidable _)
theorem codeOkB_iff {g : List In4} : codeOkB g = true ↔ codeOk g := by simp [codeOkB]
theorem codeOkB_of {g : List In4} {b : Bool} (h : b = true ↔ codeOk g) : b = codeOkB g := by rw [Bool.eq_iff_iff, h, codeOkB_iff]
theorem codeOkB_no {g : List In4} (h : ¬ codeOk g) : codeOkB g = false := by rw [← Bool.not_eq_true, codeOkB_iff]; exact h
/-- What it is written as, ok or not. -/
noncomputable def codeOut (g : List In4) : List UInt8 := if codeOkB g then codeText g else []

theorem itoa_le10 {n : Int} (h : 0 ≤ n ∧ n ≤ 4294967295) : (Lib.itoa n).length ≤ 10 := by rw [itoa_val n h.1]; exact decDigits_le 9 _ (by omega)
theorem opNm_len (op : Int) : (opNm op).length ≤ 4 := by
  unfold opNm
  split
  · simp
  split
  · simp
  split
  · simp
  split
  · simp
  split
  · simp
  split <;> simp
theorem insText_len {x : In4} (h : insWord x) : (insText x).length ≤ 40 := by
  have h1 := itoa_le10 h.1
  have h2 := opNm_len x.op
  unfold insText insLine tailW
  split
  · have h3 := itoa_le10 (n := x.yes) (by unfold insWord at h; omega)
    have h4 := itoa_le10 (n := x.no) (by unfold insWord at h; omega)
    simp; omega
  · simp; omega
theorem codeText_len : ∀ (g : List In4), (∀ x ∈ g, insWord x) → (codeText g).length ≤ 40 * g.length
  | [], _ => by simp [codeText]
  | x :: g, h => by
    have ih := codeText_len g (fun y hy => h y (by simp [hy]))
    have hx := insText_len (h x (by simp))
    rw [codeText_cons]; simp; omega
theorem waysTo.words {g : List In4} {k : Nat} (h : waysTo g k) (hl : g.length ≤ 4294967295) : ∀ x ∈ g.take k, insWord x := fun x hx => by
  obtain ⟨i, hi, e⟩ := List.getElem_of_mem hx
  rw [List.length_take] at hi
  have e2 : g[i]? = some x := by rw [← e, List.getElem_take]; exact List.getElem?_eq_getElem (by omega)
  exact (h i x (by omega) e2).word (by omega)
theorem waysOk.words {g : List In4} (h : waysOk g) : ∀ x ∈ g, insWord x := fun x hx => h.2.2.words (by have := h.2.1; omega) x (by rwa [List.take_length])
theorem codeOk.out {g : List In4} (h : codeOk g) : codeOut g = codeText g := by unfold codeOut; rw [if_pos (codeOkB_iff.2 h)]
theorem codeOk.no {g : List In4} (h : ¬ codeOk g) : codeOut g = [] := by unfold codeOut; rw [if_neg (by rw [codeOkB_iff]; exact h)]
theorem codeText_ne {g : List In4} (h : g ≠ []) : codeText g ≠ [] := by
  cases g with
  | nil => exact absurd rfl h
  | cons x g => rw [codeText_cons]; intro e; have h0 := insText_pos x; have h1 := congrArg List.length e; rw [List.length_append, List.length_nil] at h1; omega
theorem codeOut_empty {g : List In4} : codeOut g = [] ↔ ¬ codeOk g := by
  constructor
  · intro e h
    rw [h.out] at e
    have h1 := h.1.1
    exact codeText_ne (by intro e2; subst e2; simp at h1) e
  · exact codeOk.no

/-- A place stands ahead in a text. -/
def PlaceAt (rest : List UInt8) (x : In4) (r : List UInt8) : Prop := insWord x ∧ rest = insText x ++ r

theorem noDig_cons {b : UInt8} {r : List UInt8} (h : isDig b = false) : noDig (b :: r) := fun x hx => by simp at hx; subst hx; exact h
theorem noDig_tailW (x : In4) (r : List UInt8) : noDig (tailW x ++ 10 :: r) := by
  unfold tailW
  split
  · exact noDig_cons (by decide)
  · exact noDig_cons (by decide)
theorem insText_split (x : In4) (r : List UInt8) : insText x ++ r = opNm x.op ++ 32 :: (Lib.itoa x.k ++ (tailW x ++ 10 :: r)) := by simp [insText, insLine]

theorem opNm_one {a b : Int} {s t : List UInt8} (ha : 1 ≤ a ∧ a ≤ 6) (hb : 1 ≤ b ∧ b ≤ 6) (h : opNm a ++ 32 :: s = opNm b ++ 32 :: t) : a = b ∧ s = t := by
  have ha' : a = 1 ∨ a = 2 ∨ a = 3 ∨ a = 4 ∨ a = 5 ∨ a = 6 := by omega
  have hb' : b = 1 ∨ b = 2 ∨ b = 3 ∨ b = 4 ∨ b = 5 ∨ b = 6 := by omega
  obtain rfl | rfl | rfl | rfl | rfl | rfl := ha' <;> obtain rfl | rfl | rfl | rfl | rfl | rfl := hb' <;> simp [opNm] at h <;> first | exact ⟨rfl, h⟩ | skip

theorem insWord.op {x : In4} (h : insWord x) : 1 ≤ x.op ∧ x.op ≤ 6 := by unfold insWord at h; omega

theorem PlaceAt.one {rest r r' : List UInt8} {x x' : In4} (h : PlaceAt rest x r) (h' : PlaceAt rest x' r') : x = x' ∧ r = r' := by
  obtain ⟨hw, e⟩ := h
  obtain ⟨hw', e'⟩ := h'
  rw [e, insText_split, insText_split] at e'
  obtain ⟨ho, e1⟩ := opNm_one hw.op hw'.op e'
  obtain ⟨hk, e2⟩ := NumAt.unique (⟨hw.1, rfl, noDig_tailW x r⟩ : NumAt 4294967295 _ x.k _) (⟨hw'.1, e1, noDig_tailW x' r'⟩ : NumAt 4294967295 _ x'.k _)
  unfold tailW at e2
  unfold insWord at hw hw'
  by_cases h34 : x.op = 3 ∨ x.op = 4
  · rw [if_pos h34, if_pos (ho ▸ h34)] at e2
    simp only [List.cons_append, List.append_assoc, List.cons.injEq, true_and] at e2
    obtain ⟨hy, e3⟩ := NumAt.unique (⟨by omega, rfl, noDig_cons (by decide)⟩ : NumAt 4294967295 (Lib.itoa x.yes ++ 32 :: (Lib.itoa x.no ++ 10 :: r)) x.yes _) (⟨by omega, e2, noDig_cons (by decide)⟩ : NumAt 4294967295 _ x'.yes (32 :: (Lib.itoa x'.no ++ 10 :: r')))
    simp only [List.cons.injEq, true_and] at e3
    obtain ⟨hn, e4⟩ := NumAt.unique (⟨by omega, rfl, noDig_cons (by decide)⟩ : NumAt 4294967295 (Lib.itoa x.no ++ 10 :: r) x.no _) (⟨by omega, e3, noDig_cons (by decide)⟩ : NumAt 4294967295 _ x'.no (10 :: r'))
    exact ⟨In4.ext' ho hk hy hn, by simpa using e4⟩
  · rw [if_neg h34, if_neg (ho ▸ h34)] at e2
    exact ⟨In4.ext' ho hk (by omega) (by omega), by simpa using e2⟩

/-- A program's text is read in one way. -/
theorem code_prefix : ∀ (ws ys : List In4) (rest : List UInt8), (∀ x ∈ ws, insWord x) → (∀ x ∈ ys, insWord x) → codeText ys = codeText ws ++ rest → ∃ tail, ys = ws ++ tail ∧ rest = codeText tail
  | [], ys, rest, _, _, h => ⟨ys, rfl, by simpa [codeText] using h.symm⟩
  | x :: ws, [], rest, _, _, h => by
    exfalso
    have := congrArg List.length h
    have hp := insText_pos x
    rw [codeText_cons] at this
    simp [codeText] at this
    omega
  | x :: ws, y :: ys, rest, h1, h2, h => by
    rw [codeText_cons, codeText_cons, List.append_assoc] at h
    obtain ⟨e1, e2⟩ := PlaceAt.one (⟨h2 y (by simp), rfl⟩ : PlaceAt (insText y ++ codeText ys) y _) (⟨h1 x (by simp), h⟩ : PlaceAt _ x _)
    subst e1
    obtain ⟨tail, e3, e4⟩ := code_prefix ws ys rest (fun z hz => h1 z (by simp [hz])) (fun z hz => h2 z (by simp [hz])) e2
    exact ⟨tail, by rw [e3]; rfl, e4⟩

/-- What is known of a text of which places were read. -/
structure ParsedC (text : List UInt8) (ws : List In4) (rest : List UInt8) : Prop where
  sound : text = codeText ws ++ rest
  words : ∀ x ∈ ws, insWord x
theorem ParsedC.start (text : List UInt8) : ParsedC text [] text := ⟨rfl, fun x h => by simp at h⟩
theorem ParsedC.next {text : List UInt8} {ws : List In4} {rest r : List UInt8} {x : In4} (h : ParsedC text ws rest) (hx : PlaceAt rest x r) : ParsedC text (ws ++ [x]) r :=
  ⟨by rw [codeText_snoc, h.sound, hx.2, List.append_assoc], fun y hy => by
    rcases List.mem_append.1 hy with h' | h'
    · exact h.words y h'
    · rw [List.mem_singleton] at h'; subst h'; exact hx.1⟩
theorem ParsedC.no_place {text : List UInt8} {ws : List In4} {rest : List UInt8} (h : ParsedC text ws rest) (hr : rest ≠ []) (hn : ¬ ∃ x r, PlaceAt rest x r) : ¬ ∃ ys, codeOk ys ∧ text = codeText ys := by
  rintro ⟨ys, hok, ht⟩
  obtain ⟨tail, e1, e2⟩ := code_prefix ws ys rest h.words hok.1.words (by rw [← ht]; exact h.sound)
  cases tail with
  | nil => exact hr e2
  | cons x tail => exact hn ⟨x, codeText tail, hok.1.words x (by rw [e1]; simp), by rw [e2, codeText_cons]⟩
theorem ParsedC.too_many {text : List UInt8} {ws : List In4} {rest : List UInt8} (h : ParsedC text ws rest) (hw : 160 < ws.length) : ¬ ∃ ys, codeOk ys ∧ text = codeText ys := by
  rintro ⟨ys, hok, ht⟩
  obtain ⟨tail, e1, e2⟩ := code_prefix ws ys rest h.words hok.1.words (by rw [← ht]; exact h.sound)
  have := hok.1.2.1
  rw [e1] at this
  simp at this
  omega
theorem ParsedC.end_no {text : List UInt8} {ws : List In4} (h : ParsedC text ws []) (hw : ¬ waysOk ws) : ¬ ∃ ys, codeOk ys ∧ text = codeText ys := by
  rintro ⟨ys, hok, ht⟩
  obtain ⟨tail, e1, e2⟩ := code_prefix ws ys [] h.words hok.1.words (by rw [← ht]; exact h.sound)
  cases tail with
  | nil => rw [List.append_nil] at e1; exact hw (e1 ▸ hok.1)
  | cons x tail => exact absurd e2.symm (codeText_ne (by simp))
theorem ParsedC.end_yes {text : List UInt8} {ws : List In4} (h : ParsedC text ws []) (hw : waysOk ws) (hl : text.length ≤ 2600) : codeOk ws ∧ text = codeText ws := by
  have e : text = codeText ws := by have := h.sound; simpa using this
  exact ⟨⟨hw, e ▸ hl⟩, e⟩
/-- One text, one program. -/
theorem code_one {g h : List In4} (hg : codeOk g) (hh : codeOk h) (e : codeText g = codeText h) : g = h := by
  obtain ⟨tail, e1, e2⟩ := code_prefix h g [] hh.1.words hg.1.words (by rw [e]; simp)
  cases tail with
  | nil => simpa using e1
  | cons x tail => exact absurd e2.symm (codeText_ne (by simp))

/-- How a line is read back. -/
def opOf (nm : List UInt8) : Int :=
  if nm = [108, 111, 97, 100] then 1 else if nm = [97, 110, 100] then 2 else if nm = [101, 113] then 3 else if nm = [103, 116] then 4 else if nm = [106, 117, 109, 112] then 5 else if nm = [101, 110, 100] then 6 else 0
def lineOf (l : List UInt8) : In4 :=
  ⟨opOf ((cut 32 l).getD 0 []), if 1 < (cut 32 l).length then numOf ((cut 32 l).getD 1 []) else 0, if (cut 32 l).length = 4 then numOf ((cut 32 l).getD 2 []) else 0, if (cut 32 l).length = 4 then numOf ((cut 32 l).getD 3 []) else 0⟩
theorem cut_word {b : UInt8} {a rest : List UInt8} (h : ∀ x ∈ a, x ≠ b) : cut b (a ++ b :: rest) = a :: cut b rest := by
  unfold cut; rw [cutGo_run a [] _ h, cutGo_hit]; simp
theorem cut_last {b : UInt8} {a : List UInt8} (h : ∀ x ∈ a, x ≠ b) : cut b a = [a] := by
  unfold cut
  have := cutGo_run a [] [] h
  rw [List.append_nil] at this
  rw [this]; simp [cutGo]
theorem opNm_no (op : Int) (b : UInt8) (hb : b.toNat < 97) : ∀ x ∈ opNm op, x ≠ b := by
  intro x hx e
  subst e
  unfold opNm at hx
  repeat' split at hx
  all_goals simp at hx
  all_goals (rcases hx with rfl | rfl | rfl | rfl <;> simp at hb) <;> skip
theorem opOf_nm {op : Int} (h : 1 ≤ op ∧ op ≤ 6) : opOf (opNm op) = op := by
  obtain rfl | rfl | rfl | rfl | rfl | rfl : op = 1 ∨ op = 2 ∨ op = 3 ∨ op = 4 ∨ op = 5 ∨ op = 6 := by omega
  all_goals decide
theorem lineOf_line {x : In4} (h : insWord x) : lineOf (insLine x) = x := by
  have hop := h.op
  have hk := itoa_no32 x.k h.1.1
  unfold insWord at h
  by_cases h34 : x.op = 3 ∨ x.op = 4
  · have hc : cut 32 (insLine x) = [opNm x.op, Lib.itoa x.k, Lib.itoa x.yes, Lib.itoa x.no] := by
      unfold insLine tailW
      rw [if_pos h34, cut_word (opNm_no x.op 32 (by decide)), cut_word hk, cut_word (itoa_no32 x.yes (by omega)), cut_last (itoa_no32 x.no (by omega))]
    unfold lineOf
    rw [hc]
    apply In4.ext'
    · simpa using opOf_nm hop
    · simpa using numOf_itoa x.k (by omega) (by omega)
    · simpa using numOf_itoa x.yes (by omega) (by omega)
    · simpa using numOf_itoa x.no (by omega) (by omega)
  · have hc : cut 32 (insLine x) = [opNm x.op, Lib.itoa x.k] := by
      unfold insLine tailW
      rw [if_neg h34, List.append_nil, cut_word (opNm_no x.op 32 (by decide)), cut_last hk]
    unfold lineOf
    rw [hc]
    apply In4.ext'
    · simpa using opOf_nm hop
    · simpa using numOf_itoa x.k (by omega) (by omega)
    · simp; omega
    · simp; omega
theorem digit_no10 {x : UInt8} (h : isDig x = true) : x ≠ 10 := fun e => by subst e; cases h
theorem insLine_no10 {x : In4} (h : insWord x) : ∀ b ∈ insLine x, b ≠ 10 := by
  have hd : ∀ n : Int, 0 ≤ n → ∀ b ∈ Lib.itoa n, b ≠ 10 := fun n hn b hb => digit_no10 (itoa_digits n hn b hb)
  unfold insWord at h
  intro b hb
  unfold insLine at hb
  rcases List.mem_append.1 hb with h1 | h1
  · exact opNm_no x.op 10 (by decide) b h1
  · rcases List.mem_cons.1 h1 with rfl | h1
    · decide
    · rcases List.mem_append.1 h1 with h1 | h1
      · exact hd _ (by omega) b h1
      · unfold tailW at h1
        split at h1
        · rcases List.mem_cons.1 h1 with rfl | h1
          · decide
          · rcases List.mem_append.1 h1 with h1 | h1
            · exact hd _ (by omega) b h1
            · rcases List.mem_cons.1 h1 with rfl | h1
              · decide
              · exact hd _ (by omega) b h1
        · simp at h1
theorem cut_code : ∀ (g : List In4), (∀ x ∈ g, insWord x) → cut 10 (codeText g) = g.map insLine ++ [[]]
  | [], _ => by simp [codeText, cut, cutGo]
  | x :: g, h => by
    have ih := cut_code g (fun y hy => h y (by simp [hy]))
    rw [codeText_cons, insText, List.append_assoc]
    show cut 10 (insLine x ++ 10 :: codeText g) = _
    rw [cut_word (insLine_no10 (h x (by simp))), ih]
    rfl
/-- What the pieces of a text are, each read as a line. -/
def codeOf (ps : List (List UInt8)) : List In4 := (ps.take (ps.length - 1)).map lineOf
theorem codeOf_text {g : List In4} (h : ∀ x ∈ g, insWord x) : codeOf (cut 10 (codeText g)) = g := by
  rw [cut_code g h]
  unfold codeOf
  have e : (g.map insLine ++ [[]]).take ((g.map insLine ++ [[]]).length - 1) = g.map insLine := by simp
  rw [e, List.map_map]
  have : ∀ x ∈ g, (lineOf ∘ insLine) x = x := fun x hx => lineOf_line (h x hx)
  exact (List.map_congr_left this).trans (by simp)

/-- What reading a program gives: the program whose text it is, in memory of its own, or none. -/
def CodePost (text : List UInt8) (e : TypeId) (w : World) (en : Ending) (w' : World) : Prop :=
  (∃ g v, codeOk g ∧ text = codeText g ∧ en = .returned (.tuple #[v, .bool true]) ∧ w'.ownsRow w.heap.size e 4 v g.length (insR g).flatten ∧ Below w.heap.size w w') ∨
  ((¬ ∃ g, codeOk g ∧ text = codeText g) ∧ ∃ v, en = .returned (.tuple #[v, .bool false]) ∧ w'.ownsRow w.heap.size e 4 v 0 [] ∧ Below w.heap.size w w')
theorem codeOf_step {ws : List (List UInt8)} {k : Nat} {l : List UInt8} (h : ws[k]? = some l) : insR ((ws.take (k + 1)).map lineOf) = insR ((ws.take k).map lineOf) ++ [(lineOf l).cells] := by
  rw [List.take_add_one, h]; simp [insR]
end Go.Proofs.YtkiacbfpnidjlaaGreatDoor
