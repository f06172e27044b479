/- The reference's packs' texts: l7Join, l7Body. -/
import Derived.Test.YtlodcjpoamaemaaDoorPackS
namespace Go.Proofs.YtlodcjpoamaemaaDoor
open Go.RowKit
set_option linter.unusedSimpArgs false
set_option linter.unusedVariables false

theorem joinL_append (a b : List (List UInt8)) : joinL (a ++ b) = joinL a ++ joinL b := by simp [joinL]
theorem joinL_part (ls : List (List UInt8)) (a i : Nat) : (joinL ((ls.take i).drop a)).length ≤ (joinL ls).length := by
  have h1 : joinL ls = joinL (ls.take i) ++ joinL (ls.drop i) := by rw [← joinL_append, List.take_append_drop]
  have h2 : joinL (ls.take i) = joinL ((ls.take i).take a) ++ joinL ((ls.take i).drop a) := by rw [← joinL_append, List.take_append_drop]
  rw [h1, h2]
  simp only [List.length_append]
  omega
theorem joinL_cutGo : ∀ (l cur : List UInt8), joinL (cutGo 10 cur l) = cur ++ l ++ [10]
  | [], cur => by simp [cutGo, joinL]
  | x :: l, cur => by
    unfold cutGo
    by_cases h : x = 10
    · rw [if_pos h, joinL_cons, joinL_cutGo l [], h]; simp
    · rw [if_neg h, joinL_cutGo l _]; simp
theorem joinL_cut (l : List UInt8) : (joinL (cut 10 l)).length = l.length + 1 := by unfold cut; rw [joinL_cutGo]; simp
theorem linesTo_next {ls : List (List UInt8)} {a i : Nat} {x : List UInt8} (ha : a ≤ i) (hx : ls[i]? = some x) : linesTo ls a (i + 1) = linesTo ls a i ++ x ++ [10] := by
  unfold linesTo
  have hi := (List.getElem?_eq_some_iff.1 hx).1
  rw [List.take_add_one, hx, List.drop_append_of_le_length (by rw [List.length_take]; omega), joinL_append]
  simp [joinL]

set_option maxHeartbeats 2000000 in
theorem l7Join_any (v : Value) (ls : List (List UInt8)) (a b : Nat) (w : World) (hv : Sl w 1 v (strs ls)) (hab : a ≤ b) (hb : b ≤ 1048576) (hT : (joinL ls).length ≤ 33554432) :
    Calls Tryd.prog 10 #[v, .int .i64 a, .int .i64 b] w fun e w' => e = .returned (.string ⟨(linesTo ls a b).toArray⟩) ∧ Below w.heap.size w w' := by
  obtain ⟨A, n, c, rfl, hA⟩ := hv
  have hln : ls.length = n := by have := hA.len; rwa [strs_len] at this
  have hmx := hA.max
  have hcp := hA.cap
  unfold maxLen at hmx
  have HA := Lib.hid hA; have HL := Lib.hid hln; have HT := Lib.hid hT; have HAB := Lib.hid hab; have HBM := Lib.hid hb
  clear hA hln hT
  go_enter Tryd.func10, Tryd.ntmps10
  go_wp2
  go_loopw [7, 8] (fun o i wr => ∃ (k : Nat) (T : List UInt8), i = .int .i64 k ∧ o = .string ⟨T.toArray⟩ ∧ Hid (T = linesTo ls a k ∧ a ≤ k ∧ k ≤ b ∧ (k = a ∨ k ≤ n)) ∧ w = wr) (fun _ i _ => b - (intOf i).toNat)
  case atStart => exact ⟨a, [], rfl, rfl, Lib.hid ⟨by unfold linesTo; rw [List.drop_of_length_le (by rw [List.length_take]; omega)]; rfl, Nat.le_refl _, hab, .inl rfl⟩, rfl⟩
  case round =>
    obtain ⟨k, T, rfl, rfl, HG, rfl⟩ := hrel
    by_cases hlt : k < b
    · have hki : (k : Int) < b := by omega
      by_cases hkn : k < n
      · have hkni : (k : Int) < n := by omega
        obtain ⟨g, off, x, rfl, hgl, hx, hcell⟩ := row_get (fun l : List UInt8 => Value.string ⟨l.toArray⟩) (show SlA w 1 A n c (ls.map fun l => [Value.string ⟨l.toArray⟩]) from HA.out) hkn
        have HX := Lib.hid hx
        have hlen : (linesTo ls a (k + 1)).length ≤ 33554432 := Nat.le_trans (joinL_part ls a (k + 1)) HT.out
        rw [linesTo_next HG.out.2.1 hx, ← HG.out.1, List.length_append, List.length_append] at hlen
        have d1 : ¬ 9223372036854775807 < T.length + x.length := by omega
        have d2 : ¬ 9223372036854775807 < T.length + x.length + 1 := by simp at hlen; omega
        have HK1 := Lib.hid hlt; have HK2 := Lib.hid hkn
        clear hx hlen hlt hkn
        go_wp2
        have hlt := HK1.out
        exact ⟨⟨k + 1, T ++ x ++ [10], by go_num, by first | rfl | (congr 1; apply ByteArray.ext; simp) | simp, Lib.hid ⟨by rw [linesTo_next HG.out.2.1 HX.out, ← HG.out.1], by have := HG.out.2.1; omega, by omega, .inr HK2.out⟩, by first | rfl | trivial⟩, by simp [intOf]; omega⟩
      · have hkni : ¬ (k : Int) < n := by omega
        have HE := Lib.hid (show T = linesTo ls a b by
          rw [HG.out.1]
          unfold linesTo
          have hn := HL.out
          rcases HG.out.2.2.2 with h | h
          · rw [List.drop_of_length_le (by rw [List.length_take]; omega), List.drop_of_length_le (by rw [List.length_take]; omega)]
          · rw [List.take_of_length_le (by omega), List.take_of_length_le (by omega)])
        go_wp2
        go_ret
        exact ⟨by rw [HE.out]; rfl, Below.refl _ _⟩
    · have hki : ¬ (k : Int) < b := by omega
      have HE := Lib.hid (show T = linesTo ls a b by rw [HG.out.1, show k = b by have := HG.out.2.2.1; omega])
      go_wp2
      go_ret
      exact ⟨by rw [HE.out]; rfl, Below.refl _ _⟩

theorem pack_head (p : Pk) : [112, 97, 99, 107, 32] ++ Lib.itoa p.e ++ [32] ++ Lib.itoa (cnt10 p.r) ++ [32] ++ Lib.itoa (cnt10 p.c) ++ [10] ++ p.r ++ p.c = p.body := by
  unfold Pk.body Pk.head
  simp

set_option maxRecDepth 100000 in
set_option maxHeartbeats 4000000 in
theorem l7Body_any (p : Pk) (w : World) (he : -9223372036854775808 ≤ p.e ∧ p.e ≤ 9223372036854775807) (hr : p.r.length ≤ 4194304) (hc : p.c.length ≤ 4194304) :
    Calls Tryd.prog 15 #[.agg #[.int .i64 p.e, .string ⟨p.r.toArray⟩, .string ⟨p.c.toArray⟩]] w fun e w' => e = .returned (.string ⟨p.body.toArray⟩) ∧ Below w.heap.size w w' := by
  rw [← pack_head]
  obtain ⟨e, r, c⟩ := p
  simp only at he hr hc ⊢
  have h1 := cnt10_le r
  have h2 := cnt10_le c
  have HN1 := Lib.hid (l7Lines_any r); have HN2 := Lib.hid (l7Lines_any c)
  obtain ⟨n, hn⟩ : ∃ n, n = cnt10 r := ⟨_, rfl⟩
  obtain ⟨m, hm⟩ : ∃ m, m = cnt10 c := ⟨_, rfl⟩
  rw [← hn] at HN1 h1 ⊢
  rw [← hm] at HN2 h2 ⊢
  have i1 := itoa_len e he.1 he.2
  have i2 := itoa_len n (by omega) (by omega)
  have i3 := itoa_len m (by omega) (by omega)
  have HD1 := Lib.hid (fun w => l1Dec_any e w he.1 he.2); have HD2 := Lib.hid (fun w => l1Dec_any (n : Int) w (by omega) (by omega)); have HD3 := Lib.hid (fun w => l1Dec_any (m : Int) w (by omega) (by omega))
  obtain ⟨E, hE⟩ : ∃ E, E = Lib.itoa e := ⟨_, rfl⟩
  obtain ⟨F, hF⟩ : ∃ F, F = Lib.itoa (n : Int) := ⟨_, rfl⟩
  obtain ⟨G, hG⟩ : ∃ G, G = Lib.itoa (m : Int) := ⟨_, rfl⟩
  rw [← hE] at HD1 i1 ⊢
  rw [← hF] at HD2 i2 ⊢
  rw [← hG] at HD3 i3 ⊢
  have hr2 : r.length ≤ 16777216 := by omega
  have hc2 : c.length ≤ 16777216 := by omega
  have HR := Lib.hid hr2; have HC := Lib.hid hc2
  have d1 : ¬ 9223372036854775807 < 5 + E.length := by omega
  have d2 : ¬ 9223372036854775807 < 5 + E.length + 1 := by omega
  have d3 : ¬ 9223372036854775807 < 5 + E.length + 1 + F.length := by omega
  have d4 : ¬ 9223372036854775807 < 5 + E.length + 1 + F.length + 1 := by omega
  have d5 : ¬ 9223372036854775807 < 5 + E.length + 1 + F.length + 1 + G.length := by omega
  have d6 : ¬ 9223372036854775807 < 5 + E.length + 1 + F.length + 1 + G.length + 1 := by omega
  have d7 : ¬ 9223372036854775807 < 5 + E.length + 1 + F.length + 1 + G.length + 1 + r.length := by omega
  have d8 : ¬ 9223372036854775807 < 5 + E.length + 1 + F.length + 1 + G.length + 1 + r.length + c.length := by omega
  obtain ⟨W1, hW1⟩ : ∃ W1, W1 = w.alloc (.cells #[.int .i64 e, .string ⟨r.toArray⟩, .string ⟨c.toArray⟩] 23) := ⟨_, rfl⟩
  have b1 : Below w.heap.size w W1 := by rw [hW1]; go_grown
  have B1 : Blk W1 w.heap.size 23 #[.int .i64 e, .string ⟨r.toArray⟩, .string ⟨c.toArray⟩] := by rw [hW1]; exact Blk.new _ _ _
  have hl1 : w.heap.size < W1.heap.size := B1.lt
  have HW1 := Lib.hid hW1; have HB := Lib.hid b1; have HBK := Lib.hid B1
  clear hn hm hE hF hG hW1 b1 B1 i1 i2 i3 h1 h2 he hr hc hr2 hc2
  go_enter Tryd.func15, Tryd.ntmps15
  go_wp2
  rw [← HW1.out]
  refine wp_region_fixed (fun w' => Below W1.heap.size W1 w') (by kernel_rfl) (by kernel_rfl) (Below.refl _ _).drew ?_
  iterate 3
    apply wpFx_step
    case h =>
      intro w9 hw
      have H9 := Lib.hid hw
      have K1 := HBK.out.below hw hl1
      have x0 := (show _ = some (Value.int .i64 e) from K1.cell 0); have x1 := (show _ = some (Value.string ⟨r.toArray⟩) from K1.cell 1); have x2 := (show _ = some (Value.string ⟨c.toArray⟩) from K1.cell 2)
      clear hw K1
      go_wp2_with ((go_at_call 20; refine (HD1.out _).mono ?_; rintro e w4 ⟨rfl, hbb⟩; replace H9 := Lib.hid (below_then H9.out hbb); clear hbb))
      exact ⟨rfl, rfl, H9.out⟩
  iterate 6
    apply wpFx_step
    case h =>
      intro w9 hw
      have H9 := Lib.hid hw
      have K1 := HBK.out.below hw hl1
      have x0 := (show _ = some (Value.int .i64 e) from K1.cell 0); have x1 := (show _ = some (Value.string ⟨r.toArray⟩) from K1.cell 1); have x2 := (show _ = some (Value.string ⟨c.toArray⟩) from K1.cell 2)
      clear hw K1
      go_wp2_with (first | (go_at_call 21; refine (HN1.out _ HR.out).mono ?_; rintro e w4 ⟨rfl, hbb⟩; replace H9 := Lib.hid (below_then H9.out hbb); clear hbb) | (go_at_call 20; refine (HD2.out _).mono ?_; rintro e w4 ⟨rfl, hbb⟩; replace H9 := Lib.hid (below_then H9.out hbb); clear hbb))
      exact ⟨rfl, rfl, H9.out⟩
  iterate 6
    apply wpFx_step
    case h =>
      intro w9 hw
      have H9 := Lib.hid hw
      have K1 := HBK.out.below hw hl1
      have x0 := (show _ = some (Value.int .i64 e) from K1.cell 0); have x1 := (show _ = some (Value.string ⟨r.toArray⟩) from K1.cell 1); have x2 := (show _ = some (Value.string ⟨c.toArray⟩) from K1.cell 2)
      clear hw K1
      go_wp2_with (first | (go_at_call 21; refine (HN2.out _ HC.out).mono ?_; rintro e w4 ⟨rfl, hbb⟩; replace H9 := Lib.hid (below_then H9.out hbb); clear hbb) | (go_at_call 20; refine (HD3.out _).mono ?_; rintro e w4 ⟨rfl, hbb⟩; replace H9 := Lib.hid (below_then H9.out hbb); clear hbb))
      exact ⟨rfl, rfl, H9.out⟩
  iterate 9
    apply wpFx_step
    case h =>
      intro w9 hw
      have H9 := Lib.hid hw
      have K1 := HBK.out.below hw hl1
      have x0 := (show _ = some (Value.int .i64 e) from K1.cell 0); have x1 := (show _ = some (Value.string ⟨r.toArray⟩) from K1.cell 1); have x2 := (show _ = some (Value.string ⟨c.toArray⟩) from K1.cell 2)
      clear hw K1
      go_wp2_with (fail)
      exact ⟨rfl, rfl, H9.out⟩
  refine wpFx_end (fun w9 hw => ?_)
  have HB9 := Lib.hid (below_then HB.out hw)
  clear hw
  go_wp2
  go_ret
  exact ⟨by congr 2 <;> (apply ByteArray.ext; simp), HB9.out⟩
end Go.Proofs.YtlodcjpoamaemaaDoor
