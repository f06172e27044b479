/- The reference's figures: spec.l1Hex, spec.HashSum. -/
import Derived.Test.YtaieopdfkapgdaaDoorHashS
namespace Go.Proofs.YtaieopdfkapgdaaDoor
open Go.RowKit
set_option linter.unusedSimpArgs false
set_option linter.unusedVariables false

theorem bsize (l : List UInt8) : (⟨l.toArray⟩ : ByteArray).size = l.length := by simp [ByteArray.size]
theorem figs_at (i : Nat) (h : i < (⟨#[48, 49, 50, 51, 52, 53, 54, 55, 56, 57, 97, 98, 99, 100, 101, 102]⟩ : ByteArray).size) : (⟨#[48, 49, 50, 51, 52, 53, 54, 55, 56, 57, 97, 98, 99, 100, 101, 102]⟩ : ByteArray)[i] = fig i := by
  have h16 : i < 16 := h
  obtain rfl | rfl | rfl | rfl | rfl | rfl | rfl | rfl | rfl | rfl | rfl | rfl | rfl | rfl | rfl | rfl : i = 0 ∨ i = 1 ∨ i = 2 ∨ i = 3 ∨ i = 4 ∨ i = 5 ∨ i = 6 ∨ i = 7 ∨ i = 8 ∨ i = 9 ∨ i = 10 ∨ i = 11 ∨ i = 12 ∨ i = 13 ∨ i = 14 ∨ i = 15 := by omega
  all_goals rfl

set_option maxHeartbeats 2000000 in
theorem l1Hex_any (s : ByteArray) (w : World) (hs : s.size ≤ 16777216) (hpos : 0 < s.size) :
    Calls Tryd.prog 57 #[.string s] w fun e w' => e = .returned (.string ⟨(hexOf s.data.toList).toArray⟩) ∧ Below w.heap.size w w' := by
  have HOB := Lib.hid (World.ownsRow_made (base := w.heap.size) (e := 5) (size := 1) w #[] 0 (Nat.le_refl _) (Nat.zero_le _) rfl)
  have hlen : s.data.toList.length = s.size := by simp
  have HL := Lib.hid hlen; clear hlen
  go_enter Tryd.func57, Tryd.ntmps57
  go_wp2
  go_loopw [3, 4] (fun o i wr => ∃ k : Nat, k ≤ s.size ∧ i = .int .i64 k ∧ Hid (wr.ownsRow w.heap.size 5 1 o (2 * k) ((hexOf (s.data.toList.take k)).map u8V)) ∧ Below w.heap.size w wr) (fun _ i _ => s.size - (intOf i).toNat)
  case atStart => exact ⟨0, by omega, rfl, HOB, by go_grown⟩
  case round =>
    clear HOB
    obtain ⟨k, hk, rfl, HO, hb⟩ := hrel
    have hsz := hb.size
    by_cases hlt : k < s.size
    · have HT := Lib.hid (show hexOf (s.data.toList.take (k + 1)) = hexOf (s.data.toList.take k) ++ hex2 s[k] by
        rw [List.take_succ_eq_append_getElem (by rw [HL.out]; exact hlt), hexOf_snoc]; rfl)
      have n1 : 0 ≤ (s[k].toNat : Int) / 16 := by omega
      have n2 : (s[k].toNat : Int) / 16 < 16 := by have := UInt8.toNat_lt s[k]; omega
      have n3 : 0 ≤ (s[k].toNat : Int) % 16 := by omega
      have n4 : (s[k].toNat : Int) % 16 < 16 := by omega
      have t1 : ((s[k].toNat : Int)).tmod 16 = (s[k].toNat : Int) % 16 := Int.tmod_eq_emod_of_nonneg (by omega)
      have HK := Lib.hid hlt
      have hxl := UInt8.toNat_lt s[k]
      have w1 : IntKind.u8.wrap ((s[k].toNat : Int) / 16) = (s[k].toNat : Int) / 16 := by simp [IntKind.wrap, IntKind.bits, IntKind.signed]; omega
      have w2 : IntKind.u8.wrap ((s[k].toNat : Int) % 16) = (s[k].toNat : Int) % 16 := by simp [IntKind.wrap, IntKind.bits, IntKind.signed]; omega
      clear hxl hk
      go_wp2
      go_region_held3 (fun _ => True) (first | trivial | go_keep) ((refine step_appNg (w0 := wr.drew) 2 rfl (.tmp 12) (.tmp 23) _ rfl w.heap.size 5 Tryd.underlying22 info_u8 rfl (by omega) (by omega) _ (2 * k) _ rfl (by exact HO.out) rfl (by simp [Value.oneCell']) rfl (by have := HK.out; omega) (by exact hsz) ?_; intro v9 w9 hown9 hg9))
      all_goals
        have hb9 : Below w.heap.size wr w9 := (Below.refl w.heap.size wr).drew.grown hg9 (by exact hsz) (fun k hk => (HO.out.lt k hk).1)
        go_wp2
        have x1 : (IntKind.u8.wrap ((s[k].toNat : Int) / 16)).toNat = s[k].toNat / 16 := by rw [w1]; omega
        have x2 : ((s[k].toNat : Int) % 16).toNat = s[k].toNat % 16 := by omega
        simp only [figs_at] at hown9
        have h9 : w9.ownsRow w.heap.size 5 1 v9 (2 * k + 2) ((hexOf (s.data.toList.take k)).map u8V ++ [.int .u8 ((fig (IntKind.u8.wrap ((s[k].toNat : Int) / 16)).toNat).toNat : Int), .int .u8 ((fig ((s[k].toNat : Int) % 16).toNat).toNat : Int)]) := hown9
        rw [x1, x2] at h9
        have hk := HK.out
        refine ⟨⟨k + 1, by omega, by go_num, ?_, hb.trans hb9⟩, by simp [intOf]; omega⟩
        rw [HT.out, List.map_append]
        exact h9
    · obtain rfl : k = s.size := by omega
      have ho := HO.out
      rw [List.take_of_length_le (by rw [HL.out]; omega)] at ho
      obtain ⟨g9, cap9, rfl, _, _⟩ := ho.form (by omega)
      have hconv := conv_back (by rw [hexOf_len, HL.out]) ho
      clear ho HO
      go_wp2
      go_ret
      exact ⟨rfl, hb⟩

theorem sHashSum_any (s : ByteArray) (w : World) (hs : s.size ≤ 16777216) :
    Calls Tryd.prog 35 #[.string s] w fun e w' => e = .returned (.string ⟨(hashText s.data.toList).toArray⟩) ∧ Below w.heap.size w w' := by
  go_enter Tryd.func35, Tryd.ntmps35
  go_wp2_with fail
  refine (l1Sum_any s _ hs).mono ?_; rintro e w1 ⟨rfl, b1⟩
  go_wp2_with fail
  refine (l1Hex_any ⟨(sumOf s.data.toList).toArray⟩ _ (by rw [bsize, sumOf_len]; omega) (by rw [bsize, sumOf_len]; omega)).mono ?_; rintro e w2 ⟨rfl, b2⟩
  go_wp2
  go_ret
  exact ⟨rfl, below_then b1 b2⟩
end Go.Proofs.YtaieopdfkapgdaaDoor
