/- spec.l1Dec writes a number in decimals. -/
import Derived.Test.YtoibocaaeimplaaDoorStr
import Derived.Deep.RegionWith
import Derived.IntWalk
namespace Go.Proofs.YtoibocaaeimplaaDoor
open Go.RowKit
set_option linter.unusedSimpArgs false
set_option linter.unusedVariables false

theorem decDigits_small {u : Nat} (h : u < 10) : Lib.decDigits u = [UInt8.ofNat (48 + u)] := Lib.decDigits_one h
theorem decDigits_big {u : Nat} (h : ¬ u < 10) : Lib.decDigits u = Lib.decDigits (u / 10) ++ [UInt8.ofNat (48 + u % 10)] := by
  rw [Lib.decDigits, dif_neg h]

theorem decDigits_le : ∀ (k u : Nat), u < 10 ^ (k + 1) → (Lib.decDigits u).length ≤ k + 1
  | 0, u, h => by rw [decDigits_small (by simpa using h)]; simp
  | k + 1, u, h => by
    by_cases hs : u < 10
    · rw [decDigits_small hs]; simp
    · rw [decDigits_big hs]
      rw [Nat.pow_succ] at h
      have := decDigits_le k (u / 10) (by omega)
      simp; omega
theorem decDigits_le19 (u : Nat) (h : u ≤ 9223372036854775807) : (Lib.decDigits u).length ≤ 19 := decDigits_le 18 u (by omega)
theorem decDigits_le20 (u : Nat) (h : u ≤ 9223372036854775808) : (Lib.decDigits u).length ≤ 19 := decDigits_le 18 u (by omega)

theorem ba_append (a b : List UInt8) : (⟨a.toArray⟩ ++ ⟨b.toArray⟩ : ByteArray) = ⟨(a ++ b).toArray⟩ := by
  apply ByteArray.ext
  simp

/-- 'string([]byte{x})'. -/
theorem run_conv1 {P : Program} {src dst e t : TypeId} (hs : P.underlying src = some (.slice e)) (he : P.underlying e = some (.int .u8)) (hd : P.underlying dst = some .string) (W : World) (x : Int) :
    (convert src dst (.slice (some ⟨W.heap.size, 0, none⟩) 1 1)).run P (W.alloc (.cells #[.int .u8 x] t)) = .ok (.string ⟨#[UInt8.ofNat x.toNat]⟩) (W.alloc (.cells #[.int .u8 x] t)) := by
  have hc : (loadCells ⟨W.heap.size, 0, none⟩ 1).run P (W.alloc (.cells #[.int .u8 x] t)) = .ok ([x].map (Value.int .u8)).toArray (W.alloc (.cells #[.int .u8 x] t)) :=
    run_loadCells_list (P := P) _ ⟨W.heap.size, 0, none⟩ [.int .u8 x] (fun j v hv => by
      rw [add_at, cell_of_row _ _ _ #[.int .u8 x] t (0, 0) (heap_alloc_new W _)]
      simpa using hv)
  rw [run_convert_bytes_string _ _ _ _ _ _ _ hs he hd, run_bytesToString _ _ _ _ [x] hc]
  rfl

theorem run_conv1' {P : Program} {src dst e : TypeId} (hs : P.underlying src = some (.slice e)) (he : P.underlying e = some (.int .u8)) (hd : P.underlying dst = some .string) (W : World) (g : Nat) (x : Int) (c : Nat) (h : W.cell? ⟨g, 0, none⟩ = some (.int .u8 x)) :
    (convert src dst (.slice (some ⟨g, 0, none⟩) 1 c)).run P W = .ok (.string ⟨#[UInt8.ofNat x.toNat]⟩) W := by
  have hc : (loadCells ⟨g, 0, none⟩ 1).run P W = .ok ([x].map (Value.int .u8)).toArray W :=
    run_loadCells_list (P := P) _ ⟨g, 0, none⟩ [.int .u8 x] (fun j v hv => by
      cases j with
      | zero => rw [add_zero']; simp at hv; subst hv; exact h
      | succ j => simp at hv)
  rw [run_convert_bytes_string _ _ _ _ _ _ _ hs he hd, run_bytesToString _ _ _ _ [x] hc]
  rfl

set_option maxHeartbeats 1000000 in
theorem l1Dec_nat (u : Nat) : ∀ (w : World), u ≤ 9223372036854775807 →
    Calls Tryd.prog 58 #[.int .i64 u] w fun e w' => e = .returned (.string ⟨(Lib.decDigits u).toArray⟩) ∧ Below w.heap.size w w' := by
  induction u using Nat.strongRecOn with
  | _ u ih =>
    intro w hu
    have IH := Lib.hid ih; clear ih
    have hconv := fun W x => run_conv1 (P := Tryd.prog) (t := 5) Tryd.underlying34 Tryd.underlying5 Tryd.underlying9 W x
    by_cases h : u < 10
    · go_enter Tryd.func58, Tryd.ntmps58
      go_wp2
      go_ret
      refine ⟨?_, by go_grown⟩
      rw [decDigits_small h]
      rfl
    · have hq : u / 10 ≤ 9223372036854775807 := by omega
      have hcast : (u : Int) / 10 = ((u / 10 : Nat) : Int) := by omega
      have HC := Lib.hid hcast; clear hcast
      have hdl := decDigits_le19 (u / 10) hq
      have e1 : IntKind.i64.wrap ((u : Int) / 10) = (u : Int) / 10 := IntWalk.i64_in _ (by omega)
      have e2 : (u : Int).tmod 10 = (u : Int) % 10 := Int.tmod_eq_emod_of_nonneg (by omega)
      have e3 : IntKind.i64.wrap (48 + (u : Int) % 10) = 48 + (u : Int) % 10 := IntWalk.i64_in _ (by omega)
      have e4 : IntKind.u8.wrap (48 + (u : Int) % 10) = 48 + (u : Int) % 10 := IntWalk.u8_in _ (by omega)
      have hcv := fun W g x h => run_conv1' (P := Tryd.prog) Tryd.underlying34 Tryd.underlying5 Tryd.underlying9 W g x 1 h
      go_enter Tryd.func58, Tryd.ntmps58
      go_wp2
      go_region_with (first
        | (go_at_call 58; rw [HC.out]; ((with_reducible refine (IH.out (u / 10) (by omega) ((w.alloc (.cells #[.int .u8 (48 + (u : Int) % 10)] 5)).drew) hq).mono ?_); rintro e w1 ⟨rfl, hb1⟩; have hk : w1.cell? ⟨w.heap.size, 0, none⟩ = some (.int .u8 (48 + (u : Int) % 10)) := (hb1.cell (p := ⟨w.heap.size, 0, none⟩) (by simp)).trans (by simp [go_sem])))
        | (go_at_call 58; rw [HC.out]; refine (IH.out (u / 10) (by omega) _ hq).mono ?_; rintro e w1 ⟨rfl, hb1⟩))
      all_goals go_wp2
      all_goals go_ret
      all_goals
        have hb2 : Below w.heap.size w w1 := below_step (by go_grown) (by go_size) hb1
        have hs2 := hb2.size
        refine ⟨?_, by go_grown⟩
        rw [decDigits_big h, ← ba_append]
        simp [Act.put]

theorem itoa_nat (u : Nat) : Lib.itoa (u : Int) = Lib.decDigits u := by unfold Lib.itoa; rw [if_neg (by omega)]; simp
theorem itoa_neg' (u : Nat) (h : 0 < u) : Lib.itoa (-(u : Int)) = 45 :: Lib.decDigits u := by unfold Lib.itoa; rw [if_pos (by omega)]; simp
theorem itoa_len (n : Int) (h0 : -9223372036854775808 ≤ n) (h1 : n ≤ 9223372036854775807) : (Lib.itoa n).length ≤ 20 := by
  unfold Lib.itoa
  split
  · have := decDigits_le20 n.natAbs (by omega); simp; omega
  · have := decDigits_le19 n.toNat (by omega); omega

theorem decMin : ([45, 57, 50, 50, 51, 51, 55, 50, 48, 51, 54, 56, 53, 52, 55, 55, 53, 56, 48, 56] : List UInt8) = 45 :: Lib.decDigits 9223372036854775808 := by
  simp [decDigits_big, decDigits_small]

set_option maxHeartbeats 1000000 in
theorem l1Dec_any (n : Int) (w : World) (h0 : -9223372036854775808 ≤ n) (h1 : n ≤ 9223372036854775807) :
    Calls Tryd.prog 58 #[.int .i64 n] w fun e w' => e = .returned (.string ⟨(Lib.itoa n).toArray⟩) ∧ Below w.heap.size w w' := by
  by_cases hp : 0 ≤ n
  · obtain ⟨u, rfl⟩ := Int.eq_ofNat_of_zero_le hp
    rw [itoa_nat]
    exact l1Dec_nat u w (by omega)
  · by_cases hm : n = -9223372036854775808
    · subst hm
      go_enter Tryd.func58, Tryd.ntmps58
      go_wp2
      go_ret
      refine ⟨?_, Below.refl _ _⟩
      have e := itoa_neg' 9223372036854775808 (by omega)
      rw [show (-9223372036854775808 : Int) = -((9223372036854775808 : Nat) : Int) from rfl, e, ← decMin]
      rfl
    · obtain ⟨u, hu⟩ := Int.eq_ofNat_of_zero_le (show 0 ≤ -n by omega)
      obtain rfl : n = -(u : Int) := by omega
      have hu1 : u ≤ 9223372036854775807 := by omega
      have hu0 : 0 < u := by omega
      have hdl := decDigits_le19 u hu1
      have hd := l1Dec_nat u
      have HD := Lib.hid hd; clear hd hu hm
      have hm1 : -9223372036854775807 ≤ -(u : Int) := by omega
      go_enter Tryd.func58, Tryd.ntmps58
      go_wp2_with (go_at_call 58; refine (HD.out _ hu1).mono ?_; rintro e w1 ⟨rfl, hb1⟩)
      go_ret
      refine ⟨?_, hb1⟩
      rw [itoa_neg' u hu0]
      rfl
end Go.Proofs.YtoibocaaeimplaaDoor
