/- The reference's padding: spec.l1Padded. -/
import Derived.Test.YtaieopdfkapgdaaDoorMRow
import Derived.Laws.IdiomStrings
namespace Go.Proofs.YtaieopdfkapgdaaDoor
open Go.RowKit
set_option linter.unusedSimpArgs false
set_option linter.unusedVariables false

def lenV : Value → Nat
  | .slice _ m _ => m
  | _ => 0
theorem conv_text (w : World) (s : ByteArray) (hs : s.size ≤ 140737488355328) : ∃ C W1, (convert 9 22 (.string s)).run Tryd.prog w = .ok (.slice (some ⟨w.heap.size, 0, none⟩) s.size C) W1 ∧
    MRow W1 w.heap.size 5 (.slice (some ⟨w.heap.size, 0, none⟩) s.size C) s.size (s.data.toList.map u8V) ∧ Below w.heap.size w W1 := by
  refine ⟨_, _, run_bytes_of_string w 9 22 5 s Tryd.underlying9 Tryd.underlying22 Tryd.underlying5, MRow.of_text w 5 s (grownCap_le_maxLen _ _ _ _ (by unfold maxLen; omega)) (grownCap_ge _ _ _ _), ?_⟩
  exact (Below.refl _ _).drew.alloc (Nat.le_refl _) _

set_option maxHeartbeats 1000000 in
theorem l1Padded_any (s : ByteArray) (w : World) (hs : s.size ≤ 16777216) :
    Calls Tryd.prog 69 #[.string s] w fun e w' => ∃ v, e = .returned v ∧ MRow w' w.heap.size 5 v (padded s.data.toList).length ((padded s.data.toList).map u8V) ∧ Below w.heap.size w w' := by
  obtain ⟨C, W1, hconv, m1, b1⟩ := conv_text w s (by omega)
  obtain ⟨n, hn⟩ : ∃ n, n = s.size := ⟨_, rfl⟩
  have hl : s.data.toList.length = n := by rw [hn]; rfl
  rw [← hn] at m1 hs hconv
  have hsz1 := b1.size
  have HL := Lib.hid hl; have HM1 := Lib.hid m1
  have HN := Lib.hid hn
  have hn2 : (s.size : Int) = n := by omega
  clear hl m1 hn
  go_enter Tryd.func69, Tryd.ntmps69
  go_wp2_with (at_builtin; go_must (refine wpList_app1M (w0 := W1) rfl (.tmp 7) (.tmp 8) _ rfl w.heap.size 5 Tryd.underlying22 info_u8 rfl _ n _ rfl HM1.out rfl rfl (by omega) (by omega) hsz1 ?_); intro v2 w2 m2 b2)
  have b02 := b1.trans b2
  have HM2 : Hid (MRow w2 w.heap.size 5 v2 (n + 1 + 0) ((s.data.toList ++ [128] ++ List.replicate 0 0).map u8V)) := by
    rw [show (List.replicate 0 (0 : UInt8)) = [] from rfl, List.append_nil, List.map_append]
    exact m2
  clear m2 b2 hconv HM1
  go_loopw [3] (fun v wr => ∃ k : Nat, k ≤ zerosFor n ∧ Hid (MRow wr w.heap.size 5 v (n + 1 + k) ((s.data.toList ++ [128] ++ List.replicate k 0).map u8V)) ∧ Below w.heap.size w wr) (fun v _ => n + 65 - lenV v)
  case atStart => exact ⟨0, by omega, HM2, b02⟩
  case round =>
    obtain ⟨k, hk, HM, hb⟩ := hrel
    have hsz := hb.size
    obtain ⟨g, cap, rfl, hg1, hg2, hnc, hcm⟩ := HM.out.form
    have hz := zerosFor_lt n
    obtain ⟨m, hm⟩ : ∃ m, m = n + 1 + k := ⟨_, rfl⟩
    rw [← hm]
    rw [← hm] at HM hnc
    have hm3 : m ≤ n + 65 := by omega
    have hm4 : k < m := by omega
    by_cases hlt : k < zerosFor n
    · have h1 : ((m : Int) % 64 != 56) = true := by have := zerosFor_least n k hlt; simp; omega
      have HK := Lib.hid hlt
      have HMM := Lib.hid hm
      clear hlt hm hk hz
      go_wp2_with (at_builtin; go_must (refine wpList_app1M (w0 := wr) rfl (.tmp 14) (.tmp 15) _ rfl w.heap.size 5 Tryd.underlying22 info_u8 rfl (.slice (some ⟨g, 0, none⟩) m cap) m _ rfl HM.out rfl rfl (by omega) (by omega) hsz ?_); intro v3 w3 m3 b3)
      obtain ⟨g3, cap3, rfl, hg31, hg32, hnc3, hcm3⟩ := m3.form
      have hk := HK.out
      have hm := HMM.out
      refine ⟨⟨k + 1, by omega, ?_, hb.trans b3⟩, ?_⟩
      · rw [show n + 1 + (k + 1) = m + 1 by omega, List.replicate_succ']
        rw [show s.data.toList ++ [128] ++ (List.replicate k 0 ++ [0]) = (s.data.toList ++ [128] ++ List.replicate k 0) ++ [0] by simp, List.map_append]
        exact m3
      · have hz := zerosFor_lt n
        simp [lenV]; omega
    · have hkz : k = zerosFor n := by omega
      have h1 : ((m : Int) % 64 != 56) = false := by have := zerosFor_mod n; rw [← hkz] at this; simp; omega
      obtain ⟨L, hL⟩ : ∃ L, L = s.data.toList ++ [128] ++ List.replicate k 0 := ⟨_, rfl⟩
      rw [← hL] at HM
      have HPD := Lib.hid (show padded s.data.toList = L ++ be8 n by rw [hL]; unfold padded; rw [HL.out, ← hkz]; simp)
      have HLL := Lib.hid (show L.length = m by rw [hL, hm, List.length_append, List.length_append, HL.out, List.length_replicate]; rfl)
      clear hL hm hkz hlt hk hz hm4
      obtain ⟨wo, rfl⟩ : ∃ wo : World, wo = wr := ⟨_, rfl⟩
      go_wp2
      go_loopw [3, 5] (fun v i wr => ∃ k : Nat, k ≤ 8 ∧ i = .int .i64 (7 - (k : Int)) ∧ Hid (MRow wr w.heap.size 5 v (m + k) ((L ++ (be8 n).take k).map u8V)) ∧ Below w.heap.size w wr) (fun _ i _ => (intOf i + 1).toNat)
      case atStart => exact ⟨0, by omega, rfl, by simpa using HM, hb⟩
      case round =>
        clear h1 HM
        obtain ⟨k, hk, rfl, HM, hb⟩ := hrel
        have hsz := hb.size
        obtain ⟨g, cap, rfl, hg1, hg2, hnc, hcm⟩ := HM.out.form
        by_cases hlt : k < 8
        · have h7 : 0 ≤ 7 - (k : Int) := by omega
          obtain ⟨x, hx⟩ : ∃ x : UInt8, x = byteOf (((8 * n : Nat) : Int) / 2 ^ (56 - 8 * k)) := ⟨_, rfl⟩
          have HX := Lib.hid (show (be8 n).take (k + 1) = (be8 n).take k ++ [x] by
            rw [List.take_succ_eq_append_getElem (by rw [be8_len]; omega), hx]
            simp [be8])
          have HV := Lib.hid (show (Value.int .u8 ((n : Int) * 8 / 2 ^ (8 * (7 - k)) % 256)) = u8V x by
            rw [hx, u8V, ← byteOf_mod, show 8 * (7 - k) = 56 - 8 * k by omega]
            congr 3
            omega)
          have HK := Lib.hid hlt
          clear hx hlt hk
          go_wp2_with (at_builtin; go_must (refine wpList_app1M (w0 := wr) rfl (.tmp 24) (.tmp 30) _ rfl w.heap.size 5 Tryd.underlying22 info_u8 rfl (.slice (some ⟨g, 0, none⟩) (m + k) cap) (m + k) _ rfl HM.out rfl rfl (by omega) (by have := HK.out; omega) hsz ?_); intro v3 w3 m3 b3)
          rw [HV.out] at m3
          have hk := HK.out
          refine ⟨⟨k + 1, by omega, ?_, ?_, hb.trans b3⟩, ?_⟩
          · simp; omega
          · rw [HX.out, ← Nat.add_assoc, ← List.append_assoc, List.map_append]
            exact m3
          · simp [intOf]; omega
        · obtain rfl : k = 8 := by omega
          go_wp2
          go_ret
          refine ⟨_, rfl, ?_, hb⟩
          rw [HPD.out]
          have := HM.out
          rw [List.take_of_length_le (by rw [be8_len]; omega)] at this
          rw [List.length_append, be8_len, HLL.out]
          exact this
end Go.Proofs.YtaieopdfkapgdaaDoor
