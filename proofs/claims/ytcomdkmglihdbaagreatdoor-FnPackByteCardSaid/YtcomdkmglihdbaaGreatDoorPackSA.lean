/- Joined texts: PackS PackS2 PackS3 PackS4. -/
import Derived.Test.YtcomdkmglihdbaaGreatDoorPackPA
import Derived.Test.YtcomdkmglihdbaaGreatDoorHashNA
import Derived.Test.YtcomdkmglihdbaaGreatDoorRelA
import Derived.RegionTactic
import Derived.BigRegion
-- The reference's tags and packs' texts: l1Pad, HashMac, l7Lines, l7Join.
namespace Go.Proofs.YtcomdkmglihdbaaGreatDoor
open Go.RowKit
set_option linter.unusedSimpArgs false
set_option linter.unusedVariables false

theorem xor5c (a : UInt8) : bits .xor .u8 (a.toNat : Int) 92 = ((a ^^^ 0x5c).toNat : Int) := by
  have h : ∀ m : Fin 256, bits .xor .u8 ((m.val : Nat) : Int) 92 = ((UInt8.ofNat m.val ^^^ 0x5c).toNat : Int) := by decide +kernel
  have := h ⟨a.toNat, UInt8.toNat_lt a⟩
  simpa using this
theorem xor36 (a : UInt8) : bits .xor .u8 (a.toNat : Int) 54 = ((a ^^^ 0x36).toNat : Int) := by
  have h : ∀ m : Fin 256, bits .xor .u8 ((m.val : Nat) : Int) 54 = ((UInt8.ofNat m.val ^^^ 0x36).toNat : Int) := by decide +kernel
  have := h ⟨a.toNat, UInt8.toNat_lt a⟩
  simpa using this
theorem padK_succ (l : List UInt8) (b : UInt8) {k : Nat} (h : k < 64) : (padK l b).take (k + 1) = (padK l b).take k ++ [l.getD k 0 ^^^ b] := by
  rw [List.take_succ_eq_append_getElem (by rw [padK_len]; exact h)]
  simp [padK]

set_option maxHeartbeats 2000000 in
theorem l1Pad_any (s : ByteArray) (b : UInt8) (B : Int) (hB : (b.toNat : Int) = B) (hx : ∀ a : UInt8, bits .xor .u8 (a.toNat : Int) B = ((a ^^^ b).toNat : Int)) (w : World) (hs : s.size ≤ 16777216) :
    Calls Tryz.prog 25 #[.string s, .int .u8 B] w fun e w' => e = .returned (.string ⟨(padK s.data.toList b).toArray⟩) ∧ Below w.heap.size w w' := by
  have HOB := Lib.hid (World.ownsRow_made (base := w.heap.size) (e := 5) (size := 1) w #[] 0 (Nat.le_refl _) (Nat.zero_le _) rfl)
  have hlen : s.data.toList.length = s.size := by simp
  have HL := Lib.hid hlen; clear hlen
  go_enter Tryz.func25, Tryz.ntmps25
  go_wp2
  go_loopw [5, 6] (fun o i wr => ∃ k : Nat, k ≤ 64 ∧ i = .int .i64 k ∧ Hid (wr.ownsRow w.heap.size 5 1 o k (bts ((padK s.data.toList b).take k)).flatten) ∧ Below w.heap.size w wr) (fun _ i _ => 64 - (intOf i).toNat)
  case atStart => exact ⟨0, by omega, rfl, HOB, by go_grown⟩
  case round =>
    clear HOB
    obtain ⟨k, hk, rfl, HO, hb⟩ := hrel
    have hsz := hb.size
    by_cases hlt : k < 64
    · have HT := Lib.hid (padK_succ s.data.toList b hlt)
      have hki : (k : Int) < 64 := by omega
      have HK := Lib.hid hlt
      by_cases hks : k < s.size
      · have hksI : (k : Int) < s.size := by omega
        have HX := Lib.hid (show ((s[k].toNat ^^^ b.toNat : Nat) : Int) = ((s.data.toList.getD k 0 ^^^ b).toNat : Int) by
          rw [← UInt8.toNat_xor, List.getD_eq_getElem?_getD, List.getElem?_eq_getElem (by rw [HL.out]; exact hks)]
          rfl)
        clear hlt hk
        go_wp2_with (at_builtin; go_must (refine wpList_app1g rfl (.tmp 20) (.tmp 24) _ rfl w.heap.size 5 Tryz.underlying22 info_u8 rfl (by omega) (by omega) _ k (bts ((padK s.data.toList b).take k)) rfl HO.out (r := [.int .u8 ((s[k].toNat ^^^ b.toNat : Nat) : Int)]) rfl (by simp [Value.oneCell']) rfl (by have := HK.out; omega) (by exact hsz) ?_))
        intro v9 w9 hown9 hg9 _
        have hb9 : Below w.heap.size wr w9 := (Below.refl w.heap.size wr).grown hg9 hsz (fun k hk => (HO.out.lt k hk).1)
        rw [HX.out] at hown9
        have H9 := Lib.hid (show w9.ownsRow w.heap.size 5 1 v9 (k + 1) (bts ((padK s.data.toList b).take (k + 1))).flatten by rw [HT.out, bts_snoc, List.flatten_append]; exact hown9)
        have HB9 := Lib.hid (hb.trans hb9)
        clear hown9 hg9 hb9
        go_wp2
        have hk := HK.out
        exact ⟨⟨k + 1, by omega, by go_num, H9, HB9.out⟩, by simp [intOf]; omega⟩
      · have hksI : ¬ (k : Int) < s.size := by omega
        have HX := Lib.hid (show bits .xor .u8 0 B = ((s.data.toList.getD k 0 ^^^ b).toNat : Int) by
          have h0 := hx 0
          rw [List.getD_eq_getElem?_getD, List.getElem?_eq_none (by rw [HL.out]; omega)]
          exact h0)
        clear hlt hk
        go_wp2_with (at_builtin; go_must (refine wpList_app1g rfl (.tmp 20) (.tmp 24) _ rfl w.heap.size 5 Tryz.underlying22 info_u8 rfl (by omega) (by omega) _ k (bts ((padK s.data.toList b).take k)) rfl HO.out (r := [.int .u8 (bits .xor .u8 0 B)]) rfl (by simp [Value.oneCell']) rfl (by have := HK.out; omega) (by exact hsz) ?_))
        intro v9 w9 hown9 hg9 _
        have hb9 : Below w.heap.size wr w9 := (Below.refl w.heap.size wr).grown hg9 hsz (fun k hk => (HO.out.lt k hk).1)
        rw [HX.out] at hown9
        have H9 := Lib.hid (show w9.ownsRow w.heap.size 5 1 v9 (k + 1) (bts ((padK s.data.toList b).take (k + 1))).flatten by rw [HT.out, bts_snoc, List.flatten_append]; exact hown9)
        have HB9 := Lib.hid (hb.trans hb9)
        clear hown9 hg9 hb9
        go_wp2
        have hk := HK.out
        exact ⟨⟨k + 1, by omega, by go_num, H9, HB9.out⟩, by simp [intOf]; omega⟩
    · obtain rfl : k = 64 := by omega
      have ho := HO.out
      rw [List.take_of_length_le (by rw [padK_len]; omega), bts_flat] at ho
      obtain ⟨g9, cap9, rfl, _, _⟩ := ho.form (by omega)
      have hconv := conv_back (padK_len _ _) ho
      clear ho HO
      go_wp2
      go_ret
      exact ⟨rfl, hb⟩

theorem bstr (l : List UInt8) : (⟨l.toArray⟩ : ByteArray).data.toList = l := rfl
theorem bapp (a b : List UInt8) : (⟨a.toArray⟩ : ByteArray) ++ ⟨b.toArray⟩ = ⟨(a ++ b).toArray⟩ := by apply ByteArray.ext; simp

set_option maxHeartbeats 1000000 in
theorem sHashMac_any (key text : List UInt8) (w : World) (hk : key.length ≤ 8388608) (ht : text.length ≤ 8388608) :
    Calls Tryz.prog 9 #[.string ⟨key.toArray⟩, .string ⟨text.toArray⟩] w fun e w' => e = .returned (.string ⟨(macT key text).toArray⟩) ∧ Below w.heap.size w w' := by
  obtain ⟨K, hK⟩ : ∃ K, K = keyOf key := ⟨_, rfl⟩
  have hKl : K.length ≤ 8388608 := by
    rw [hK]; unfold keyOf; split
    · rw [sumOf_len]; omega
    · exact hk
  have HM := Lib.hid (show macT key text = hexOf (sumOf (padK K 0x5c ++ sumOf (padK K 0x36 ++ text))) by rw [hK]; rfl)
  have HK2 := Lib.hid hK
  clear hK
  by_cases hlong : 64 < key.length
  case' pos =>
    have hKs := Lib.hid (show K = sumOf key by rw [HK2.out]; unfold keyOf; rw [if_pos hlong])
    have hli : (64 : Int) < key.length := by omega
    go_enter Tryz.func9, Tryz.ntmps9
    go_wp2_with fail
    refine (l1Sum_any ⟨key.toArray⟩ _ (by rw [bsize]; omega)).mono ?_; rintro e w0 ⟨rfl, b0⟩
    rw [bstr, ← hKs.out]
    have HB0 := Lib.hid b0
    clear b0 hlong hli
    go_wp2_with fail
  case' neg =>
    have hKs := Lib.hid (show key = K by rw [HK2.out]; unfold keyOf; rw [if_neg hlong])
    have hli : ¬ (64 : Int) < key.length := by omega
    obtain ⟨w0, hw0⟩ : ∃ w0, w0 = w := ⟨_, rfl⟩
    have HB0 := Lib.hid (show Below w.heap.size w w0 by rw [hw0]; exact Below.refl _ _)
    go_enter Tryz.func9, Tryz.ntmps9
    go_wp2_with fail
    rw [hKs.out, ← hw0]
    clear hw0 hlong hli
  all_goals
    refine (l1Pad_any ⟨K.toArray⟩ 0x5c 92 rfl xor5c _ (by rw [bsize]; omega)).mono ?_; rintro e w1 ⟨rfl, b1⟩
    rw [bstr]
    have HB1 := Lib.hid (below_then HB0.out b1)
    clear b1
    go_wp2_with fail
    refine (l1Pad_any ⟨K.toArray⟩ 0x36 54 rfl xor36 _ (by rw [bsize]; omega)).mono ?_; rintro e w2 ⟨rfl, b2⟩
    rw [bstr]
    have HB2 := Lib.hid (below_then HB1.out b2)
    clear b2
    have d1 : ¬ 9223372036854775807 < (padK K 0x36).length + text.length := by rw [padK_len]; omega
    go_wp2_with fail
    rw [bapp]
    refine (l1Sum_any _ _ (by rw [bsize, List.length_append, padK_len]; omega)).mono ?_; rintro e w3 ⟨rfl, b3⟩
    rw [bstr]
    have HB3 := Lib.hid (below_then HB2.out b3)
    clear b3
    have d2 : ¬ 9223372036854775807 < (padK K 0x5c).length + (sumOf (padK K 0x36 ++ text)).length := by rw [padK_len, sumOf_len]; omega
    go_wp2_with fail
    rw [bapp]
    refine (l1Sum_any _ _ (by rw [bsize, List.length_append, padK_len, sumOf_len]; omega)).mono ?_; rintro e w4 ⟨rfl, b4⟩
    rw [bstr]
    have HB4 := Lib.hid (below_then HB3.out b4)
    clear b4
    go_wp2_with fail
    refine (l1Hex_any _ _ (by rw [bsize, sumOf_len]; omega) (by rw [bsize, sumOf_len]; omega)).mono ?_; rintro e w5 ⟨rfl, b5⟩
    rw [bstr, ← HM.out]
    have HB5 := Lib.hid (below_then HB4.out b5)
    clear b5
    go_wp2
    go_ret
    exact ⟨rfl, HB5.out⟩

theorem l7Lines_any (l : List UInt8) (w : World) (hs : l.length ≤ 16777216) :
    Calls Tryz.prog 42 #[.string ⟨l.toArray⟩] w fun e w' => e = .returned (.int .i64 (cnt10 l : Nat)) ∧ Below w.heap.size w w' := by
  have HC := Lib.hid (cut_count l)
  have hc := cnt10_le l
  go_enter Tryz.func42, Tryz.ntmps42
  go_wp2_with fail
  refine (l2Cut_any ⟨l.toArray⟩ 10 _ (by rw [bsize]; exact hs)).mono ?_; rintro e w1 ⟨v, rfl, ho, b1⟩
  rw [bstr] at ho
  obtain ⟨A, n, c, rfl, hA⟩ := SlA.of_own ho (strs_len _) (strs_rows _)
  have hn : n = cnt10 l + 1 := by have := hA.len; rw [strs_len, HC.out] at this; exact this.symm
  have hm := hA.max
  have hcp := hA.cap
  unfold maxLen at hm
  subst hn
  clear hA ho
  go_wp2
  go_ret
  exact ⟨ret_int (by omega), b1⟩
end Go.Proofs.YtcomdkmglihdbaaGreatDoor

-- The reference's packs' texts: l7Join, l7Body.
namespace Go.Proofs.YtcomdkmglihdbaaGreatDoor
open Go.RowKit
set_option linter.unusedSimpArgs false
set_option linter.unusedVariables false

theorem joinL_append (a b : List (List UInt8)) : joinL (a ++ b) = joinL a ++ joinL b := by simp [joinL]
theorem joinL_part (ls : List (List UInt8)) (a i : Nat) : (joinL ((ls.take i).drop a)).length ≤ (joinL ls).length := by
  have h1 : joinL ls = joinL (ls.take i) ++ joinL (ls.drop i) := by rw [← joinL_append, List.take_append_drop]
  have h2 : joinL (ls.take i) = joinL ((ls.take i).take a) ++ joinL ((ls.take i).drop a) := by rw [← joinL_append, List.take_append_drop]
  rw [h1, h2]
  simp only [List.length_append]
  omega
theorem joinL_cutGo : ∀ (l cur : List UInt8), joinL (cutGo 10 cur l) = cur ++ l ++ [10]
  | [], cur => by simp [cutGo, joinL]
  | x :: l, cur => by
    unfold cutGo
    by_cases h : x = 10
    · rw [if_pos h, joinL_cons, joinL_cutGo l [], h]; simp
    · rw [if_neg h, joinL_cutGo l _]; simp
theorem joinL_cut (l : List UInt8) : (joinL (cut 10 l)).length = l.length + 1 := by unfold cut; rw [joinL_cutGo]; simp
theorem linesTo_next {ls : List (List UInt8)} {a i : Nat} {x : List UInt8} (ha : a ≤ i) (hx : ls[i]? = some x) : linesTo ls a (i + 1) = linesTo ls a i ++ x ++ [10] := by
  unfold linesTo
  have hi := (List.getElem?_eq_some_iff.1 hx).1
  rw [List.take_add_one, hx, List.drop_append_of_le_length (by rw [List.length_take]; omega), joinL_append]
  simp [joinL]

set_option maxHeartbeats 2000000 in
theorem l7Join_any (v : Value) (ls : List (List UInt8)) (a b : Nat) (w : World) (hv : Sl w 1 v (strs ls)) (hab : a ≤ b) (hb : b ≤ 1048576) (hT : (joinL ls).length ≤ 33554432) :
    Calls Tryz.prog 31 #[v, .int .i64 a, .int .i64 b] w fun e w' => e = .returned (.string ⟨(linesTo ls a b).toArray⟩) ∧ Below w.heap.size w w' := by
  obtain ⟨A, n, c, rfl, hA⟩ := hv
  have hln : ls.length = n := by have := hA.len; rwa [strs_len] at this
  have hmx := hA.max
  have hcp := hA.cap
  unfold maxLen at hmx
  have HA := Lib.hid hA; have HL := Lib.hid hln; have HT := Lib.hid hT; have HAB := Lib.hid hab; have HBM := Lib.hid hb
  clear hA hln hT
  go_enter Tryz.func31, Tryz.ntmps31
  go_wp2
  go_loopw [7, 8] (fun o i wr => ∃ (k : Nat) (T : List UInt8), i = .int .i64 k ∧ o = .string ⟨T.toArray⟩ ∧ Hid (T = linesTo ls a k ∧ a ≤ k ∧ k ≤ b ∧ (k = a ∨ k ≤ n)) ∧ w = wr) (fun _ i _ => b - (intOf i).toNat)
  case atStart => exact ⟨a, [], rfl, rfl, Lib.hid ⟨by unfold linesTo; rw [List.drop_of_length_le (by rw [List.length_take]; omega)]; rfl, Nat.le_refl _, hab, .inl rfl⟩, rfl⟩
  case round =>
    obtain ⟨k, T, rfl, rfl, HG, rfl⟩ := hrel
    by_cases hlt : k < b
    · have hki : (k : Int) < b := by omega
      by_cases hkn : k < n
      · have hkni : (k : Int) < n := by omega
        obtain ⟨g, off, x, rfl, hgl, hx, hcell⟩ := row_get (fun l : List UInt8 => Value.string ⟨l.toArray⟩) (show SlA w 1 A n c (ls.map fun l => [Value.string ⟨l.toArray⟩]) from HA.out) hkn
        have HX := Lib.hid hx
        have hlen : (linesTo ls a (k + 1)).length ≤ 33554432 := Nat.le_trans (joinL_part ls a (k + 1)) HT.out
        rw [linesTo_next HG.out.2.1 hx, ← HG.out.1, List.length_append, List.length_append] at hlen
        have d1 : ¬ 9223372036854775807 < T.length + x.length := by omega
        have d2 : ¬ 9223372036854775807 < T.length + x.length + 1 := by simp at hlen; omega
        have HK1 := Lib.hid hlt; have HK2 := Lib.hid hkn
        clear hx hlen hlt hkn
        go_wp2
        have hlt := HK1.out
        exact ⟨⟨k + 1, T ++ x ++ [10], by go_num, by first | rfl | (congr 1; apply ByteArray.ext; simp) | simp, Lib.hid ⟨by rw [linesTo_next HG.out.2.1 HX.out, ← HG.out.1], by have := HG.out.2.1; omega, by omega, .inr HK2.out⟩, by first | rfl | trivial⟩, by simp [intOf]; omega⟩
      · have hkni : ¬ (k : Int) < n := by omega
        have HE := Lib.hid (show T = linesTo ls a b by
          rw [HG.out.1]
          unfold linesTo
          have hn := HL.out
          rcases HG.out.2.2.2 with h | h
          · rw [List.drop_of_length_le (by rw [List.length_take]; omega), List.drop_of_length_le (by rw [List.length_take]; omega)]
          · rw [List.take_of_length_le (by omega), List.take_of_length_le (by omega)])
        go_wp2
        go_ret
        exact ⟨by rw [HE.out]; rfl, Below.refl _ _⟩
    · have hki : ¬ (k : Int) < b := by omega
      have HE := Lib.hid (show T = linesTo ls a b by rw [HG.out.1, show k = b by have := HG.out.2.2.1; omega])
      go_wp2
      go_ret
      exact ⟨by rw [HE.out]; rfl, Below.refl _ _⟩

theorem pack_head (p : Pk) : [112, 97, 99, 107, 32] ++ Lib.itoa p.e ++ [32] ++ Lib.itoa (cnt10 p.r) ++ [32] ++ Lib.itoa (cnt10 p.c) ++ [10] ++ p.r ++ p.c = p.body := by
  unfold Pk.body Pk.head
  simp

set_option maxRecDepth 100000 in
set_option maxHeartbeats 4000000 in
theorem l7Body_any (p : Pk) (w : World) (he : -9223372036854775808 ≤ p.e ∧ p.e ≤ 9223372036854775807) (hr : p.r.length ≤ 4194304) (hc : p.c.length ≤ 4194304) :
    Calls Tryz.prog 20 #[.agg #[.int .i64 p.e, .string ⟨p.r.toArray⟩, .string ⟨p.c.toArray⟩]] w fun e w' => e = .returned (.string ⟨p.body.toArray⟩) ∧ Below w.heap.size w w' := by
  rw [← pack_head]
  obtain ⟨e, r, c⟩ := p
  simp only at he hr hc ⊢
  have h1 := cnt10_le r
  have h2 := cnt10_le c
  have HN1 := Lib.hid (l7Lines_any r); have HN2 := Lib.hid (l7Lines_any c)
  obtain ⟨n, hn⟩ : ∃ n, n = cnt10 r := ⟨_, rfl⟩
  obtain ⟨m, hm⟩ : ∃ m, m = cnt10 c := ⟨_, rfl⟩
  rw [← hn] at HN1 h1 ⊢
  rw [← hm] at HN2 h2 ⊢
  have i1 := itoa_len e he.1 he.2
  have i2 := itoa_len n (by omega) (by omega)
  have i3 := itoa_len m (by omega) (by omega)
  have HD1 := Lib.hid (fun w => l1Dec_any e w he.1 he.2); have HD2 := Lib.hid (fun w => l1Dec_any (n : Int) w (by omega) (by omega)); have HD3 := Lib.hid (fun w => l1Dec_any (m : Int) w (by omega) (by omega))
  obtain ⟨E, hE⟩ : ∃ E, E = Lib.itoa e := ⟨_, rfl⟩
  obtain ⟨F, hF⟩ : ∃ F, F = Lib.itoa (n : Int) := ⟨_, rfl⟩
  obtain ⟨G, hG⟩ : ∃ G, G = Lib.itoa (m : Int) := ⟨_, rfl⟩
  rw [← hE] at HD1 i1 ⊢
  rw [← hF] at HD2 i2 ⊢
  rw [← hG] at HD3 i3 ⊢
  have hr2 : r.length ≤ 16777216 := by omega
  have hc2 : c.length ≤ 16777216 := by omega
  have HR := Lib.hid hr2; have HC := Lib.hid hc2
  have d1 : ¬ 9223372036854775807 < 5 + E.length := by omega
  have d2 : ¬ 9223372036854775807 < 5 + E.length + 1 := by omega
  have d3 : ¬ 9223372036854775807 < 5 + E.length + 1 + F.length := by omega
  have d4 : ¬ 9223372036854775807 < 5 + E.length + 1 + F.length + 1 := by omega
  have d5 : ¬ 9223372036854775807 < 5 + E.length + 1 + F.length + 1 + G.length := by omega
  have d6 : ¬ 9223372036854775807 < 5 + E.length + 1 + F.length + 1 + G.length + 1 := by omega
  have d7 : ¬ 9223372036854775807 < 5 + E.length + 1 + F.length + 1 + G.length + 1 + r.length := by omega
  have d8 : ¬ 9223372036854775807 < 5 + E.length + 1 + F.length + 1 + G.length + 1 + r.length + c.length := by omega
  obtain ⟨W1, hW1⟩ : ∃ W1, W1 = w.alloc (.cells #[.int .i64 e, .string ⟨r.toArray⟩, .string ⟨c.toArray⟩] 24) := ⟨_, rfl⟩
  have b1 : Below w.heap.size w W1 := by rw [hW1]; go_grown
  have B1 : Blk W1 w.heap.size 24 #[.int .i64 e, .string ⟨r.toArray⟩, .string ⟨c.toArray⟩] := by rw [hW1]; exact Blk.new _ _ _
  have hl1 : w.heap.size < W1.heap.size := B1.lt
  have HW1 := Lib.hid hW1; have HB := Lib.hid b1; have HBK := Lib.hid B1
  clear hn hm hE hF hG hW1 b1 B1 i1 i2 i3 h1 h2 he hr hc hr2 hc2
  go_enter Tryz.func20, Tryz.ntmps20
  go_wp2
  rw [← HW1.out]
  refine wp_region_fixed (fun w' => Below W1.heap.size W1 w') (by kernel_rfl) (by kernel_rfl) (Below.refl _ _).drew ?_
  iterate 3
    apply wpFx_step
    case h =>
      intro w9 hw
      have H9 := Lib.hid hw
      have K1 := HBK.out.below hw hl1
      have x0 := (show _ = some (Value.int .i64 e) from K1.cell 0); have x1 := (show _ = some (Value.string ⟨r.toArray⟩) from K1.cell 1); have x2 := (show _ = some (Value.string ⟨c.toArray⟩) from K1.cell 2)
      clear hw K1
      go_wp2_with ((go_at_call 41; refine (HD1.out _).mono ?_; rintro e w4 ⟨rfl, hbb⟩; replace H9 := Lib.hid (below_then H9.out hbb); clear hbb))
      exact ⟨rfl, rfl, H9.out⟩
  iterate 6
    apply wpFx_step
    case h =>
      intro w9 hw
      have H9 := Lib.hid hw
      have K1 := HBK.out.below hw hl1
      have x0 := (show _ = some (Value.int .i64 e) from K1.cell 0); have x1 := (show _ = some (Value.string ⟨r.toArray⟩) from K1.cell 1); have x2 := (show _ = some (Value.string ⟨c.toArray⟩) from K1.cell 2)
      clear hw K1
      go_wp2_with (first | (go_at_call 42; refine (HN1.out _ HR.out).mono ?_; rintro e w4 ⟨rfl, hbb⟩; replace H9 := Lib.hid (below_then H9.out hbb); clear hbb) | (go_at_call 41; refine (HD2.out _).mono ?_; rintro e w4 ⟨rfl, hbb⟩; replace H9 := Lib.hid (below_then H9.out hbb); clear hbb))
      exact ⟨rfl, rfl, H9.out⟩
  iterate 6
    apply wpFx_step
    case h =>
      intro w9 hw
      have H9 := Lib.hid hw
      have K1 := HBK.out.below hw hl1
      have x0 := (show _ = some (Value.int .i64 e) from K1.cell 0); have x1 := (show _ = some (Value.string ⟨r.toArray⟩) from K1.cell 1); have x2 := (show _ = some (Value.string ⟨c.toArray⟩) from K1.cell 2)
      clear hw K1
      go_wp2_with (first | (go_at_call 42; refine (HN2.out _ HC.out).mono ?_; rintro e w4 ⟨rfl, hbb⟩; replace H9 := Lib.hid (below_then H9.out hbb); clear hbb) | (go_at_call 41; refine (HD3.out _).mono ?_; rintro e w4 ⟨rfl, hbb⟩; replace H9 := Lib.hid (below_then H9.out hbb); clear hbb))
      exact ⟨rfl, rfl, H9.out⟩
  iterate 9
    apply wpFx_step
    case h =>
      intro w9 hw
      have H9 := Lib.hid hw
      have K1 := HBK.out.below hw hl1
      have x0 := (show _ = some (Value.int .i64 e) from K1.cell 0); have x1 := (show _ = some (Value.string ⟨r.toArray⟩) from K1.cell 1); have x2 := (show _ = some (Value.string ⟨c.toArray⟩) from K1.cell 2)
      clear hw K1
      go_wp2_with (fail)
      exact ⟨rfl, rfl, H9.out⟩
  refine wpFx_end (fun w9 hw => ?_)
  have HB9 := Lib.hid (below_then HB.out hw)
  clear hw
  go_wp2
  go_ret
  exact ⟨by congr 2 <;> (apply ByteArray.ext; simp), HB9.out⟩
end Go.Proofs.YtcomdkmglihdbaaGreatDoor

-- The reference's packs' texts: l7Whole, PackWrite.
namespace Go.Proofs.YtcomdkmglihdbaaGreatDoor
open Go.RowKit
set_option linter.unusedSimpArgs false
set_option linter.unusedVariables false

noncomputable def wholeB (p : Pk) : Bool := @decide p.whole (Classical.propDecidable _)
theorem wholeB_iff {p : Pk} : wholeB p = true ↔ p.whole := by simp [wholeB]
theorem wholeB_of {p : Pk} {x : Bool} (h : x = true ↔ p.whole) : x = wholeB p := by rw [Bool.eq_iff_iff, h, wholeB_iff]
theorem wholeB_no {p : Pk} (h : ¬ p.whole) : wholeB p = false := by rw [← Bool.not_eq_true, wholeB_iff]; exact h
theorem wholeB_yes {p : Pk} (h : p.whole) : wholeB p = true := wholeB_iff.2 h
theorem last_at {l : List UInt8} (h : 0 < l.length) : l.getLast? = some (l[l.length - 1]'(by omega)) := by
  rw [List.getLast?_eq_getElem?, List.getElem?_eq_getElem (by omega)]

set_option maxRecDepth 100000 in
set_option maxHeartbeats 4000000 in
theorem l7Whole_any (p : Pk) (w : World) (hr : p.r.length ≤ 4194304) (hc : p.c.length ≤ 4194304) :
    Calls Tryz.prog 19 #[.agg #[.int .i64 p.e, .string ⟨p.r.toArray⟩, .string ⟨p.c.toArray⟩]] w fun e w' => e = .returned (.bool (wholeB p)) ∧ Below w.heap.size w w' := by
  obtain ⟨e, r, c⟩ := p
  simp only at hr hc ⊢
  obtain ⟨W, hW⟩ : ∃ W, W = wholeB ⟨e, r, c⟩ := ⟨_, rfl⟩
  rw [← hW]
  have HWH := Lib.hid hW
  clear hW
  by_cases he : 1 ≤ e ∧ e ≤ 99
  case neg =>
    have HI := Lib.hid (show inB e 1 99 = false by simp [inB]; omega)
    have HN := Lib.hid (show W = false by rw [HWH.out]; exact wholeB_no fun h => he h.1)
    clear he
    go_enter Tryz.func19, Tryz.ntmps19
    go_wp2_with fail
    refine (l1In_any e 1 99 _).mono ?_; rintro e4 w4 ⟨rfl, rfl⟩
    rw [HI.out]
    go_wp2
    go_ret
    exact ⟨by rw [HN.out]; rfl, by go_grown⟩
  have HI := Lib.hid (show inB e 1 99 = true by simp [inB]; omega)
  have HE := Lib.hid he
  clear he
  by_cases hr0 : 0 < r.length
  case neg =>
    have HN := Lib.hid (show W = false by rw [HWH.out]; exact wholeB_no fun h => absurd (List.mem_of_getLast? h.2.1.2) (by rw [show (⟨e, r, c⟩ : Pk).r = r from rfl, List.length_eq_zero_iff.1 (Nat.le_zero.1 (Nat.not_lt.1 hr0))]; simp))
    have hri : ¬ (0 : Int) < r.length := by omega
    clear hr0
    go_enter Tryz.func19, Tryz.ntmps19
    go_wp2_with fail
    refine (l1In_any e 1 99 _).mono ?_; rintro e4 w4 ⟨rfl, rfl⟩
    rw [HI.out]
    go_wp2
    go_ret
    exact ⟨by rw [HN.out]; first | rfl | (simp only [results, Array.getD]; simp [*]), by go_grown⟩
  have hri : (0 : Int) < r.length := by omega
  by_cases hc0 : 0 < c.length
  case neg =>
    have HN := Lib.hid (show W = false by rw [HWH.out]; exact wholeB_no fun h => absurd (List.mem_of_getLast? h.2.2.2) (by rw [show (⟨e, r, c⟩ : Pk).c = c from rfl, List.length_eq_zero_iff.1 (Nat.le_zero.1 (Nat.not_lt.1 hc0))]; simp))
    have hci : ¬ (0 : Int) < c.length := by omega
    clear hc0
    go_enter Tryz.func19, Tryz.ntmps19
    go_wp2_with fail
    refine (l1In_any e 1 99 _).mono ?_; rintro e4 w4 ⟨rfl, rfl⟩
    rw [HI.out]
    go_wp2
    go_ret
    exact ⟨by rw [HN.out]; first | rfl | (simp only [results, Array.getD]; simp [*]), by go_grown⟩
  have hci : (0 : Int) < c.length := by omega
  by_cases hr9 : r.length ≤ 900
  case neg =>
    have HN := Lib.hid (show W = false by rw [HWH.out]; exact wholeB_no fun h => hr9 h.2.1.1)
    have hr9i : ¬ (r.length : Int) ≤ 900 := by omega
    clear hr9
    go_enter Tryz.func19, Tryz.ntmps19
    go_wp2_with fail
    refine (l1In_any e 1 99 _).mono ?_; rintro e4 w4 ⟨rfl, rfl⟩
    rw [HI.out]
    go_wp2
    go_ret
    exact ⟨by rw [HN.out]; first | rfl | (simp only [results, Array.getD]; simp [*]), by go_grown⟩
  have hr9i : (r.length : Int) ≤ 900 := by omega
  by_cases hc9 : c.length ≤ 2600
  case neg =>
    have HN := Lib.hid (show W = false by rw [HWH.out]; exact wholeB_no fun h => hc9 h.2.2.1)
    have hc9i : ¬ (c.length : Int) ≤ 2600 := by omega
    clear hc9
    go_enter Tryz.func19, Tryz.ntmps19
    go_wp2_with fail
    refine (l1In_any e 1 99 _).mono ?_; rintro e4 w4 ⟨rfl, rfl⟩
    rw [HI.out]
    go_wp2
    go_ret
    exact ⟨by rw [HN.out]; first | rfl | (simp only [results, Array.getD]; simp [*]), by go_grown⟩
  have hc9i : (c.length : Int) ≤ 2600 := by omega
  obtain ⟨jr, hjr⟩ : ∃ j : Nat, j = r.length - 1 := ⟨_, rfl⟩
  obtain ⟨jc, hjc⟩ : ∃ j : Nat, j = c.length - 1 := ⟨_, rfl⟩
  have hjri : (r.length : Int) - 1 = jr := by omega
  have hjci : (c.length : Int) - 1 = jc := by omega
  have hjrl : jr < r.length := by omega
  have hjcl : jc < c.length := by omega
  have HRL := Lib.hid (show r.getLast? = some r[jr] by rw [last_at hr0]; simp [hjr])
  have HCL := Lib.hid (show c.getLast? = some c[jc] by rw [last_at hc0]; simp [hjc])
  clear hjr hjc
  by_cases hr10 : r[jr] = 10
  case neg =>
    have HN := Lib.hid (show W = false by rw [HWH.out]; exact wholeB_no fun h => hr10 (Option.some.inj (HRL.out.symm.trans h.2.1.2)))
    have hbr : jr < (⟨r.toArray⟩ : ByteArray).size := by rw [bsize]; exact hjrl
    have e8 : ((((⟨r.toArray⟩ : ByteArray)[jr]).toNat : Int) == 10) = false := by show ((r[jr].toNat : Int) == 10) = false; rw [show (10 : Int) = ((10 : UInt8).toNat : Int) from rfl, byteEq]; simpa using hr10
    have e9 : ¬ ((⟨r.toArray⟩ : ByteArray)[jr]).toNat = 10 := fun h => hr10 (UInt8.toNat_inj.1 h)
    have e6 : ((r[jr].toNat : Int) == 10) = false := by rw [show (10 : Int) = ((10 : UInt8).toNat : Int) from rfl, byteEq]; simpa using hr10
    have e7 : ¬ r[jr].toNat = 10 := fun h => hr10 (UInt8.toNat_inj.1 h)
    clear hr10
    go_enter Tryz.func19, Tryz.ntmps19
    go_wp2_with fail
    refine (l1In_any e 1 99 _).mono ?_; rintro e4 w4 ⟨rfl, rfl⟩
    rw [HI.out]
    go_wp2
    go_ret
    exact ⟨by rw [HN.out]; first | rfl | (simp only [results, Array.getD]; simp [*]), by go_grown⟩
  have hbr : jr < (⟨r.toArray⟩ : ByteArray).size := by rw [bsize]; exact hjrl
  have e8 : ((((⟨r.toArray⟩ : ByteArray)[jr]).toNat : Int) == 10) = true := by show ((r[jr].toNat : Int) == 10) = true; rw [hr10]; rfl
  have e9 : ((⟨r.toArray⟩ : ByteArray)[jr]).toNat = 10 := by show r[jr].toNat = 10; rw [hr10]; rfl
  have e6 : ((r[jr].toNat : Int) == 10) = true := by rw [hr10]; rfl
  have e7 : r[jr].toNat = 10 := by rw [hr10]; rfl
  by_cases hc10 : c[jc] = 10
  case neg =>
    have HN := Lib.hid (show W = false by rw [HWH.out]; exact wholeB_no fun h => hc10 (Option.some.inj (HCL.out.symm.trans h.2.2.2)))
    have hbc : jc < (⟨c.toArray⟩ : ByteArray).size := by rw [bsize]; exact hjcl
    have f8 : ((((⟨c.toArray⟩ : ByteArray)[jc]).toNat : Int) == 10) = false := by show ((c[jc].toNat : Int) == 10) = false; rw [show (10 : Int) = ((10 : UInt8).toNat : Int) from rfl, byteEq]; simpa using hc10
    have f9 : ¬ ((⟨c.toArray⟩ : ByteArray)[jc]).toNat = 10 := fun h => hc10 (UInt8.toNat_inj.1 h)
    have f6 : ((c[jc].toNat : Int) == 10) = false := by rw [show (10 : Int) = ((10 : UInt8).toNat : Int) from rfl, byteEq]; simpa using hc10
    have f7 : ¬ c[jc].toNat = 10 := fun h => hc10 (UInt8.toNat_inj.1 h)
    clear hc10
    go_enter Tryz.func19, Tryz.ntmps19
    go_wp2_with fail
    refine (l1In_any e 1 99 _).mono ?_; rintro e4 w4 ⟨rfl, rfl⟩
    rw [HI.out]
    go_wp2
    go_ret
    exact ⟨by rw [HN.out]; first | rfl | (simp only [results, Array.getD]; simp [*]), by go_grown⟩
  have hbc : jc < (⟨c.toArray⟩ : ByteArray).size := by rw [bsize]; exact hjcl
  have f8 : ((((⟨c.toArray⟩ : ByteArray)[jc]).toNat : Int) == 10) = true := by show ((c[jc].toNat : Int) == 10) = true; rw [hc10]; rfl
  have f9 : ((⟨c.toArray⟩ : ByteArray)[jc]).toNat = 10 := by show c[jc].toNat = 10; rw [hc10]; rfl
  have f6 : ((c[jc].toNat : Int) == 10) = true := by rw [hc10]; rfl
  have f7 : c[jc].toNat = 10 := by rw [hc10]; rfl
  have HN := Lib.hid (show W = true by rw [HWH.out]; exact wholeB_yes ⟨HE.out, ⟨hr9, by rw [← hr10]; exact HRL.out⟩, ⟨hc9, by rw [← hc10]; exact HCL.out⟩⟩)
  clear hr10 hc10
  go_enter Tryz.func19, Tryz.ntmps19
  go_wp2_with fail
  refine (l1In_any e 1 99 _).mono ?_; rintro e4 w4 ⟨rfl, rfl⟩
  rw [HI.out]
  go_wp2
  go_ret
  exact ⟨by rw [HN.out]; first | rfl | (simp only [results, Array.getD]; simp [*]), by go_grown⟩
end Go.Proofs.YtcomdkmglihdbaaGreatDoor

-- The reference's packs' texts: spec.PackWrite.
namespace Go.Proofs.YtcomdkmglihdbaaGreatDoor
open Go.RowKit
set_option linter.unusedSimpArgs false
set_option linter.unusedVariables false

theorem body_len (p : Pk) (h : p.whole) : p.body.length ≤ 8388608 := by
  obtain ⟨⟨e1, e2⟩, ⟨r1, _⟩, ⟨c1, _⟩⟩ := h
  have h1 := cnt10_le p.r
  have h2 := cnt10_le p.c
  have i1 := itoa_len p.e (by omega) (by omega)
  have i2 := itoa_len (cnt10 p.r : Nat) (by omega) (by omega)
  have i3 := itoa_len (cnt10 p.c : Nat) (by omega) (by omega)
  rw [← pack_head]
  simp only [List.length_append, List.length_cons, List.length_nil]
  omega

set_option maxRecDepth 100000 in
set_option maxHeartbeats 2000000 in
theorem sPackWrite_any (key : List UInt8) (p : Pk) (w : World) (hk : key.length ≤ 8388608) (he : -9223372036854775808 ≤ p.e ∧ p.e ≤ 9223372036854775807) (hr : p.r.length ≤ 4194304) (hc : p.c.length ≤ 4194304) :
    Calls Tryz.prog 7 #[.string ⟨key.toArray⟩, .agg #[.int .i64 p.e, .string ⟨p.r.toArray⟩, .string ⟨p.c.toArray⟩]] w fun e w' => e = .returned (.string ⟨(p.written key).toArray⟩) ∧ Below w.heap.size w w' := by
  obtain ⟨T, hT⟩ : ∃ T, T = p.written key := ⟨_, rfl⟩
  rw [← hT]
  have HTT := Lib.hid hT
  have HWH := Lib.hid (fun W => l7Whole_any p W hr hc); have HBD := Lib.hid (fun W => l7Body_any p W he hr hc)
  have HBL := Lib.hid (body_len p)
  obtain ⟨W1, hW1⟩ : ∃ W1, W1 = w.alloc (.cells #[.int .i64 p.e, .string ⟨p.r.toArray⟩, .string ⟨p.c.toArray⟩] 24) := ⟨_, rfl⟩
  have b1 : Below w.heap.size w W1 := by rw [hW1]; go_grown
  have B1 : Blk W1 w.heap.size 24 #[.int .i64 p.e, .string ⟨p.r.toArray⟩, .string ⟨p.c.toArray⟩] := by rw [hW1]; exact Blk.new _ _ _
  have HW1 := Lib.hid hW1; have HB := Lib.hid b1; have HBK := Lib.hid B1
  have hl1 : w.heap.size < W1.heap.size := B1.lt
  clear hT hW1 b1 B1 hr hc he
  by_cases hw : p.whole
  · have HV := Lib.hid (wholeB_yes hw); have HTX := Lib.hid (show T = p.body ++ [116, 97, 103, 32] ++ macT key p.body ++ [10] by rw [HTT.out, written_yes hw]; simp [Pk.text, Pk.tail])
    have HLB := Lib.hid (HBL.out hw)
    clear hw
    go_enter Tryz.func7, Tryz.ntmps7
    go_wp2_with fail
    rw [← HW1.out]
    refine (HWH.out _).mono ?_; rintro e w2 ⟨rfl, b2⟩
    rw [HV.out]
    have HB2 := Lib.hid (below_then HB.out b2); have HK2 := Lib.hid (HBK.out.below b2 hl1)
    have x0 := (show _ = some (Value.int .i64 p.e) from HK2.out.cell 0); have x1 := (show _ = some (Value.string ⟨p.r.toArray⟩) from HK2.out.cell 1); have x2 := (show _ = some (Value.string ⟨p.c.toArray⟩) from HK2.out.cell 2)
    clear b2
    go_wp2_with fail
    clear x0 x1 x2
    refine (HBD.out _).mono ?_; rintro e w3 ⟨rfl, b3⟩
    have HB3 := Lib.hid (below_then HB2.out b3)
    clear b3
    obtain ⟨bd, hbd⟩ : ∃ bd, bd = p.body := ⟨_, rfl⟩
    rw [← hbd] at HTX HLB ⊢
    have hbl := HLB.out
    have d1 : ¬ 9223372036854775807 < bd.length + 4 := by omega
    clear hbd hbl
    go_wp2_with fail
    refine (sHashMac_any key bd _ hk HLB.out).mono ?_; rintro e w4 ⟨rfl, b4⟩
    have HB4 := Lib.hid (below_then HB3.out b4)
    clear b4
    obtain ⟨mc, hmc⟩ : ∃ mc, mc = macT key bd := ⟨_, rfl⟩
    have hml := macT_len key bd
    rw [← hmc] at HTX hml ⊢
    have hbl := HLB.out
    have d2 : ¬ 9223372036854775807 < bd.length + 4 + mc.length := by omega
    have d3 : ¬ 9223372036854775807 < bd.length + 4 + mc.length + 1 := by omega
    clear hmc hml hbl
    go_wp2
    go_ret
    exact ⟨by rw [HTX.out]; congr 2 <;> (apply ByteArray.ext; simp), HB4.out⟩
  · have HV := Lib.hid (wholeB_no hw); have HTX := Lib.hid (show T = [] by rw [HTT.out, written_no hw])
    clear hw
    go_enter Tryz.func7, Tryz.ntmps7
    go_wp2_with fail
    rw [← HW1.out]
    refine (HWH.out _).mono ?_; rintro e w2 ⟨rfl, b2⟩
    rw [HV.out]
    have HB2 := Lib.hid (below_then HB.out b2)
    clear b2
    go_wp2
    go_ret
    exact ⟨by rw [HTX.out]; rfl, HB2.out⟩
end Go.Proofs.YtcomdkmglihdbaaGreatDoor
