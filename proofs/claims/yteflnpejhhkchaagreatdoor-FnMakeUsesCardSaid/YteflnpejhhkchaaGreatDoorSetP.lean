/- Places of a program as bits of three words: plain; and impl's placeSet: add, has. -/
import Derived.Test.YteflnpejhhkchaaGreatDoorKit
import Derived.BigRegion
import Derived.WalkSmall
import Derived.Laws.Bits64b
import Derived.Lib.EndianBits
namespace Go.Proofs.YteflnpejhhkchaaGreatDoor
open Go.RowKit
set_option linter.unusedSimpArgs false
set_option linter.unusedVariables false

def wordAt (ws : List Nat) (i : Nat) : Nat := (ws[i / 64]?).getD 0
structure SetIs (ws : List Nat) (rs : List Bool) : Prop where
  len : ws.length = 3
  lt : ∀ x ∈ ws, x < 2 ^ 64
  bits : ∀ i, i < rs.length → (rs[i]? = some true ↔ (wordAt ws i).testBit (i % 64) = true)
theorem SetIs.zero (n : Nat) : SetIs [0, 0, 0] (List.replicate n false) := by
  refine ⟨rfl, by simp, fun i hi => ?_⟩
  have h0 : wordAt [0, 0, 0] i = 0 := by
    unfold wordAt
    have : i / 64 = 0 ∨ i / 64 = 1 ∨ i / 64 = 2 ∨ 3 ≤ i / 64 := by omega
    rcases this with e | e | e | e
    · rw [e]; rfl
    · rw [e]; rfl
    · rw [e]; rfl
    · rw [List.getElem?_eq_none (by simpa using e)]; rfl
  rw [h0]
  simp at hi
  simp [hi]
theorem wordAt_lt {ws : List Nat} (h : ∀ x ∈ ws, x < 2 ^ 64) (i : Nat) : wordAt ws i < 2 ^ 64 := by
  unfold wordAt
  cases hx : ws[i / 64]? with
  | none => simp
  | some x => exact h x (List.mem_of_getElem? hx)
def setBit (ws : List Nat) (i : Nat) : List Nat := ws.set (i / 64) (wordAt ws i ||| 2 ^ (i % 64))
theorem setBit_lt {ws : List Nat} (h : ∀ x ∈ ws, x < 2 ^ 64) (i : Nat) : wordAt ws i ||| 2 ^ (i % 64) < 2 ^ 64 :=
  Nat.or_lt_two_pow (wordAt_lt h i) (Nat.pow_lt_pow_right (by omega) (by omega))
theorem SetIs.add {ws : List Nat} {rs : List Bool} {i : Nat} (h : SetIs ws rs) (hi : i < rs.length) (hn : rs.length ≤ 192) : SetIs (setBit ws i) (rs.set i true) := by
  have hl := h.len
  refine ⟨by simp [setBit, hl], fun x hx => ?_, fun j hj => ?_⟩
  · rcases List.mem_or_eq_of_mem_set hx with hx | rfl
    · exact h.lt x hx
    · exact setBit_lt h.lt i
  · simp at hj
    have hw : wordAt (setBit ws i) j = if i / 64 = j / 64 then wordAt ws i ||| 2 ^ (i % 64) else wordAt ws j := by
      unfold setBit
      rw [wordAt, List.getElem?_set]
      by_cases e : i / 64 = j / 64
      · rw [if_pos e, if_pos e, if_pos (by omega)]; rfl
      · rw [if_neg e, if_neg e]; rfl
    rw [hw, List.getElem?_set]
    by_cases e : i / 64 = j / 64
    · rw [if_pos e, Nat.testBit_or, Nat.testBit_two_pow]
      have hwe : wordAt ws i = wordAt ws j := by unfold wordAt; rw [e]
      rw [hwe]
      by_cases e2 : i = j
      · subst e2; simp [hi]
      · have e3 : ¬ i % 64 = j % 64 := by omega
        rw [if_neg e2, h.bits j hj]
        simp [e3]
    · have e2 : i ≠ j := fun e2 => e (by rw [e2])
      rw [if_neg e2, if_neg e, h.bits j hj]

/-- The words' cells. -/
def wRow (ws : List Nat) : Array Value := (ws.map fun (n : Nat) => Value.int .u64 (n : Int)).toArray
theorem wRow_get {ws : List Nat} (hl : ws.length = 3) {i : Nat} (hi : i < 192) : (wRow ws)[i / 64]? = some (.int .u64 (wordAt ws i : Nat)) := by
  unfold wRow wordAt
  rw [List.getElem?_toArray, List.getElem?_map, List.getElem?_eq_getElem (by omega)]
  rfl
theorem wRow_set (ws : List Nat) (i x : Nat) : (wRow ws).setIfInBounds (i / 64) (.int .u64 x) = wRow (ws.set (i / 64) x) := by
  apply Array.ext'
  simp [wRow, List.map_set]

theorem and_one_bit {x : Nat} (hx : x < 2 ^ 64) (r : Nat) : (Go.bits BinOp.and IntKind.u64 ((x : Int) / 2 ^ r) 1 == 1) = x.testBit r := by
  have e : (x : Int) / 2 ^ r = ((x / 2 ^ r : Nat) : Int) := by simp
  have hle : x / 2 ^ r ≤ x := Nat.div_le_self _ _
  rw [e, Nat.testBit_eq_decide_div_mod_eq]
  generalize x / 2 ^ r = y at hle
  rw [and_one_u64 _ (by omega) (by omega), Bool.eq_iff_iff]
  simp
  omega

theorem or_one_bit {x r : Nat} (hx : x < 2 ^ 64) (hr : r < 64) : Go.bits BinOp.or IntKind.u64 (x : Int) (IntKind.u64.wrap (2 ^ r)) = ((x ||| 2 ^ r : Nat) : Int) := by
  have hp : 2 ^ r < 2 ^ 64 := Nat.pow_lt_pow_right (by omega) hr
  have e : IntKind.u64.wrap ((2 : Int) ^ r) = ((2 ^ r : Nat) : Int) := by
    have e1 : (2 : Int) ^ r = ((2 ^ r : Nat) : Int) := by simp
    rw [e1, IntKind.wrap_u64]
    generalize 2 ^ r = y at hp
    omega
  rw [e]
  exact bits_or_u64_nat x (2 ^ r) (by omega) (by omega)

theorem has_any (b i : Nat) (ws : List Nat) (w : World) (h : Blk w b 136 (wRow ws)) (hl : ws.length = 3) (hlt : ∀ x ∈ ws, x < 2 ^ 64) (hi : i < 192) :
    Calls Tryz.prog 42 #[.pointer (some ⟨b, 0, none⟩), .int .i64 i] w fun e w' => e = .returned (.bool ((wordAt ws i).testBit (i % 64))) ∧ w = w' := by
  have c0 : w.cell? ⟨b, i / 64, none⟩ = some (.int .u64 (wordAt ws i : Nat)) := (h.cell _).trans (wRow_get hl hi)
  have hq : Int.tdiv (i : Int) 64 = ((i / 64 : Nat) : Int) := by rw [Int.tdiv_eq_ediv_of_nonneg (by omega)]; omega
  have hr : Int.tmod (i : Int) 64 = ((i % 64 : Nat) : Int) := by rw [Int.tmod_eq_emod_of_nonneg (by omega)]; omega
  have hql : ((i / 64 : Nat) : Int) < 3 := by omega
  obtain ⟨q, hqq⟩ : ∃ q, i / 64 = q := ⟨_, rfl⟩
  obtain ⟨r, hrr⟩ : ∃ r, i % 64 = r := ⟨_, rfl⟩
  have hr64 : r < 64 := by omega
  obtain ⟨x, hx⟩ : ∃ x, wordAt ws i = x := ⟨_, rfl⟩
  rw [hqq] at hq hql c0
  rw [hrr] at hr ⊢
  have hx64 : x < 2 ^ 64 := by rw [← hx]; exact wordAt_lt hlt i
  rw [hx] at c0 ⊢
  clear hqq hrr hx
  go_enter Tryz.func42, Tryz.ntmps42
  go_wp2
  go_ret
  refine ⟨ret_bool ?_, rfl⟩
  exact and_one_bit hx64 r

set_option maxHeartbeats 1000000 in
theorem add_any (b i : Nat) (ws : List Nat) (w : World) (h : Blk w b 136 (wRow ws)) (hl : ws.length = 3) (hlt : ∀ x ∈ ws, x < 2 ^ 64) (hi : i < 192) :
    Calls Tryz.prog 81 #[.pointer (some ⟨b, 0, none⟩), .int .i64 i] w fun e w' => (∃ v, e = .returned v) ∧ Blk w' b 136 (wRow (setBit ws i)) ∧ w.grownBy w' (some b) := by
  have c0 : w.cell? ⟨b, i / 64, none⟩ = some (.int .u64 (wordAt ws i : Nat)) := (h.cell _).trans (wRow_get hl hi)
  have f0 := h.frozen (i / 64)
  have hq : Int.tdiv (i : Int) 64 = ((i / 64 : Nat) : Int) := by rw [Int.tdiv_eq_ediv_of_nonneg (by omega)]; omega
  have hr : Int.tmod (i : Int) 64 = ((i % 64 : Nat) : Int) := by rw [Int.tmod_eq_emod_of_nonneg (by omega)]; omega
  have hql : ((i / 64 : Nat) : Int) < 3 := by omega
  have hset := wRow_set ws i (wordAt ws i ||| 2 ^ (i % 64))
  have hsb : wRow (setBit ws i) = wRow (ws.set (i / 64) (wordAt ws i ||| 2 ^ (i % 64))) := rfl
  rw [hsb, ← hset]
  clear hsb hset
  obtain ⟨q, hqq⟩ : ∃ q, i / 64 = q := ⟨_, rfl⟩
  obtain ⟨r, hrr⟩ : ∃ r, i % 64 = r := ⟨_, rfl⟩
  have hr64 : r < 64 := by omega
  obtain ⟨x, hx⟩ : ∃ x, wordAt ws i = x := ⟨_, rfl⟩
  rw [hqq] at hq hql c0 f0 ⊢
  rw [hrr] at hr ⊢
  have hx64 : x < 2 ^ 64 := by rw [← hx]; exact wordAt_lt hlt i
  rw [hx] at c0 ⊢
  have H := Lib.hid h
  clear hqq hrr hx h hlt hl
  go_enter Tryz.func81, Tryz.ntmps81
  go_wp2
  go_region
  all_goals go_wp2
  all_goals
    go_end0
    rw [or_one_bit hx64 hr64]
    exact ⟨⟨_, rfl⟩, (H.out.set_ q _).drew, (grown_set _ _ _ _).trans (grown_drew _ _)⟩
end Go.Proofs.YteflnpejhhkchaaGreatDoor
