/- The reference's tags and packs' texts: l1Pad, HashMac, l7Lines, l7Join. -/
import Derived.Test.YtlodcjpoamaemaaDoorPackP
import Derived.Test.YtlodcjpoamaemaaDoorHashE
import Derived.Test.YtlodcjpoamaemaaDoorRelA
import Derived.RegionTactic
import Derived.BigRegion
namespace Go.Proofs.YtlodcjpoamaemaaDoor
open Go.RowKit
set_option linter.unusedSimpArgs false
set_option linter.unusedVariables false

theorem xor5c (a : UInt8) : bits .xor .u8 (a.toNat : Int) 92 = ((a ^^^ 0x5c).toNat : Int) := by
  have h : ∀ m : Fin 256, bits .xor .u8 ((m.val : Nat) : Int) 92 = ((UInt8.ofNat m.val ^^^ 0x5c).toNat : Int) := by decide +kernel
  have := h ⟨a.toNat, UInt8.toNat_lt a⟩
  simpa using this
theorem xor36 (a : UInt8) : bits .xor .u8 (a.toNat : Int) 54 = ((a ^^^ 0x36).toNat : Int) := by
  have h : ∀ m : Fin 256, bits .xor .u8 ((m.val : Nat) : Int) 54 = ((UInt8.ofNat m.val ^^^ 0x36).toNat : Int) := by decide +kernel
  have := h ⟨a.toNat, UInt8.toNat_lt a⟩
  simpa using this
theorem padK_succ (l : List UInt8) (b : UInt8) {k : Nat} (h : k < 64) : (padK l b).take (k + 1) = (padK l b).take k ++ [l.getD k 0 ^^^ b] := by
  rw [List.take_succ_eq_append_getElem (by rw [padK_len]; exact h)]
  simp [padK]

set_option maxHeartbeats 2000000 in
theorem l1Pad_any (s : ByteArray) (b : UInt8) (B : Int) (hB : (b.toNat : Int) = B) (hx : ∀ a : UInt8, bits .xor .u8 (a.toNat : Int) B = ((a ^^^ b).toNat : Int)) (w : World) (hs : s.size ≤ 16777216) :
    Calls Tryd.prog 24 #[.string s, .int .u8 B] w fun e w' => e = .returned (.string ⟨(padK s.data.toList b).toArray⟩) ∧ Below w.heap.size w w' := by
  have HOB := Lib.hid (World.ownsRow_made (base := w.heap.size) (e := 5) (size := 1) w #[] 0 (Nat.le_refl _) (Nat.zero_le _) rfl)
  have hlen : s.data.toList.length = s.size := by simp
  have HL := Lib.hid hlen; clear hlen
  go_enter Tryd.func24, Tryd.ntmps24
  go_wp2
  go_loopw [5, 6] (fun o i wr => ∃ k : Nat, k ≤ 64 ∧ i = .int .i64 k ∧ Hid (wr.ownsRow w.heap.size 5 1 o k (bts ((padK s.data.toList b).take k)).flatten) ∧ Below w.heap.size w wr) (fun _ i _ => 64 - (intOf i).toNat)
  case atStart => exact ⟨0, by omega, rfl, HOB, by go_grown⟩
  case round =>
    clear HOB
    obtain ⟨k, hk, rfl, HO, hb⟩ := hrel
    have hsz := hb.size
    by_cases hlt : k < 64
    · have HT := Lib.hid (padK_succ s.data.toList b hlt)
      have hki : (k : Int) < 64 := by omega
      have HK := Lib.hid hlt
      by_cases hks : k < s.size
      · have hksI : (k : Int) < s.size := by omega
        have HX := Lib.hid (show ((s[k].toNat ^^^ b.toNat : Nat) : Int) = ((s.data.toList.getD k 0 ^^^ b).toNat : Int) by
          rw [← UInt8.toNat_xor, List.getD_eq_getElem?_getD, List.getElem?_eq_getElem (by rw [HL.out]; exact hks)]
          rfl)
        clear hlt hk
        go_wp2_with (at_builtin; go_must (refine wpList_app1g rfl (.tmp 20) (.tmp 24) _ rfl w.heap.size 5 Tryd.underlying77 info_u8 rfl (by omega) (by omega) _ k (bts ((padK s.data.toList b).take k)) rfl HO.out (r := [.int .u8 ((s[k].toNat ^^^ b.toNat : Nat) : Int)]) rfl (by simp [Value.oneCell']) rfl (by have := HK.out; omega) (by exact hsz) ?_))
        intro v9 w9 hown9 hg9 _
        have hb9 : Below w.heap.size wr w9 := (Below.refl w.heap.size wr).grown hg9 hsz (fun k hk => (HO.out.lt k hk).1)
        rw [HX.out] at hown9
        have H9 := Lib.hid (show w9.ownsRow w.heap.size 5 1 v9 (k + 1) (bts ((padK s.data.toList b).take (k + 1))).flatten by rw [HT.out, bts_snoc, List.flatten_append]; exact hown9)
        have HB9 := Lib.hid (hb.trans hb9)
        clear hown9 hg9 hb9
        go_wp2
        have hk := HK.out
        exact ⟨⟨k + 1, by omega, by go_num, H9, HB9.out⟩, by simp [intOf]; omega⟩
      · have hksI : ¬ (k : Int) < s.size := by omega
        have HX := Lib.hid (show bits .xor .u8 0 B = ((s.data.toList.getD k 0 ^^^ b).toNat : Int) by
          have h0 := hx 0
          rw [List.getD_eq_getElem?_getD, List.getElem?_eq_none (by rw [HL.out]; omega)]
          exact h0)
        clear hlt hk
        go_wp2_with (at_builtin; go_must (refine wpList_app1g rfl (.tmp 20) (.tmp 24) _ rfl w.heap.size 5 Tryd.underlying77 info_u8 rfl (by omega) (by omega) _ k (bts ((padK s.data.toList b).take k)) rfl HO.out (r := [.int .u8 (bits .xor .u8 0 B)]) rfl (by simp [Value.oneCell']) rfl (by have := HK.out; omega) (by exact hsz) ?_))
        intro v9 w9 hown9 hg9 _
        have hb9 : Below w.heap.size wr w9 := (Below.refl w.heap.size wr).grown hg9 hsz (fun k hk => (HO.out.lt k hk).1)
        rw [HX.out] at hown9
        have H9 := Lib.hid (show w9.ownsRow w.heap.size 5 1 v9 (k + 1) (bts ((padK s.data.toList b).take (k + 1))).flatten by rw [HT.out, bts_snoc, List.flatten_append]; exact hown9)
        have HB9 := Lib.hid (hb.trans hb9)
        clear hown9 hg9 hb9
        go_wp2
        have hk := HK.out
        exact ⟨⟨k + 1, by omega, by go_num, H9, HB9.out⟩, by simp [intOf]; omega⟩
    · obtain rfl : k = 64 := by omega
      have ho := HO.out
      rw [List.take_of_length_le (by rw [padK_len]; omega), bts_flat] at ho
      obtain ⟨g9, cap9, rfl, _, _⟩ := ho.form (by omega)
      have hconv := conv_back (padK_len _ _) ho
      clear ho HO
      go_wp2
      go_ret
      exact ⟨rfl, hb⟩

theorem bstr (l : List UInt8) : (⟨l.toArray⟩ : ByteArray).data.toList = l := rfl
theorem bapp (a b : List UInt8) : (⟨a.toArray⟩ : ByteArray) ++ ⟨b.toArray⟩ = ⟨(a ++ b).toArray⟩ := by apply ByteArray.ext; simp

set_option maxHeartbeats 1000000 in
theorem sHashMac_any (key text : List UInt8) (w : World) (hk : key.length ≤ 8388608) (ht : text.length ≤ 8388608) :
    Calls Tryd.prog 16 #[.string ⟨key.toArray⟩, .string ⟨text.toArray⟩] w fun e w' => e = .returned (.string ⟨(macT key text).toArray⟩) ∧ Below w.heap.size w w' := by
  obtain ⟨K, hK⟩ : ∃ K, K = keyOf key := ⟨_, rfl⟩
  have hKl : K.length ≤ 8388608 := by
    rw [hK]; unfold keyOf; split
    · rw [sumOf_len]; omega
    · exact hk
  have HM := Lib.hid (show macT key text = hexOf (sumOf (padK K 0x5c ++ sumOf (padK K 0x36 ++ text))) by rw [hK]; rfl)
  have HK2 := Lib.hid hK
  clear hK
  by_cases hlong : 64 < key.length
  case' pos =>
    have hKs := Lib.hid (show K = sumOf key by rw [HK2.out]; unfold keyOf; rw [if_pos hlong])
    have hli : (64 : Int) < key.length := by omega
    go_enter Tryd.func16, Tryd.ntmps16
    go_wp2_with fail
    refine (l1Sum_any ⟨key.toArray⟩ _ (by rw [bsize]; omega)).mono ?_; rintro e w0 ⟨rfl, b0⟩
    rw [bstr, ← hKs.out]
    have HB0 := Lib.hid b0
    clear b0 hlong hli
    go_wp2_with fail
  case' neg =>
    have hKs := Lib.hid (show key = K by rw [HK2.out]; unfold keyOf; rw [if_neg hlong])
    have hli : ¬ (64 : Int) < key.length := by omega
    obtain ⟨w0, hw0⟩ : ∃ w0, w0 = w := ⟨_, rfl⟩
    have HB0 := Lib.hid (show Below w.heap.size w w0 by rw [hw0]; exact Below.refl _ _)
    go_enter Tryd.func16, Tryd.ntmps16
    go_wp2_with fail
    rw [hKs.out, ← hw0]
    clear hw0 hlong hli
  all_goals
    refine (l1Pad_any ⟨K.toArray⟩ 0x5c 92 rfl xor5c _ (by rw [bsize]; omega)).mono ?_; rintro e w1 ⟨rfl, b1⟩
    rw [bstr]
    have HB1 := Lib.hid (below_then HB0.out b1)
    clear b1
    go_wp2_with fail
    refine (l1Pad_any ⟨K.toArray⟩ 0x36 54 rfl xor36 _ (by rw [bsize]; omega)).mono ?_; rintro e w2 ⟨rfl, b2⟩
    rw [bstr]
    have HB2 := Lib.hid (below_then HB1.out b2)
    clear b2
    have d1 : ¬ 9223372036854775807 < (padK K 0x36).length + text.length := by rw [padK_len]; omega
    go_wp2_with fail
    rw [bapp]
    refine (l1Sum_any _ _ (by rw [bsize, List.length_append, padK_len]; omega)).mono ?_; rintro e w3 ⟨rfl, b3⟩
    rw [bstr]
    have HB3 := Lib.hid (below_then HB2.out b3)
    clear b3
    have d2 : ¬ 9223372036854775807 < (padK K 0x5c).length + (sumOf (padK K 0x36 ++ text)).length := by rw [padK_len, sumOf_len]; omega
    go_wp2_with fail
    rw [bapp]
    refine (l1Sum_any _ _ (by rw [bsize, List.length_append, padK_len, sumOf_len]; omega)).mono ?_; rintro e w4 ⟨rfl, b4⟩
    rw [bstr]
    have HB4 := Lib.hid (below_then HB3.out b4)
    clear b4
    go_wp2_with fail
    refine (l1Hex_any _ _ (by rw [bsize, sumOf_len]; omega) (by rw [bsize, sumOf_len]; omega)).mono ?_; rintro e w5 ⟨rfl, b5⟩
    rw [bstr, ← HM.out]
    have HB5 := Lib.hid (below_then HB4.out b5)
    clear b5
    go_wp2
    go_ret
    exact ⟨rfl, HB5.out⟩

theorem l7Lines_any (l : List UInt8) (w : World) (hs : l.length ≤ 16777216) :
    Calls Tryd.prog 21 #[.string ⟨l.toArray⟩] w fun e w' => e = .returned (.int .i64 (cnt10 l : Nat)) ∧ Below w.heap.size w w' := by
  have HC := Lib.hid (cut_count l)
  have hc := cnt10_le l
  go_enter Tryd.func21, Tryd.ntmps21
  go_wp2_with fail
  refine (l2Cut_any ⟨l.toArray⟩ 10 _ (by rw [bsize]; exact hs)).mono ?_; rintro e w1 ⟨v, rfl, ho, b1⟩
  rw [bstr] at ho
  obtain ⟨A, n, c, rfl, hA⟩ := SlA.of_own ho (strs_len _) (strs_rows _)
  have hn : n = cnt10 l + 1 := by have := hA.len; rw [strs_len, HC.out] at this; exact this.symm
  have hm := hA.max
  have hcp := hA.cap
  unfold maxLen at hm
  subst hn
  clear hA ho
  go_wp2
  go_ret
  exact ⟨ret_int (by omega), b1⟩
end Go.Proofs.YtlodcjpoamaemaaDoor
