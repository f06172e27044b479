/- The law that both sides read and write packs alike, walked: FnPackText returns true. -/
import Derived.Test.YtcomdkmglihdbaaGreatDoorPackO
import Derived.Test.YtcomdkmglihdbaaGreatDoorPackQ
import Derived.Test.YtcomdkmglihdbaaGreatDoorDrawPk2
import Derived.Test.YtcomdkmglihdbaaGreatDoorPackS5
namespace Go.Proofs.YtcomdkmglihdbaaGreatDoor
open Go.RowKit
set_option linter.unusedSimpArgs false
set_option linter.unusedVariables false

/-- What a key and a text give, for both of them. -/
theorem pack_two (key text : List UInt8) : ∃ (p : Pk) (ok : Bool), (ok = true → isPack key text p) ∧ (ok = false → p = ⟨0, [], []⟩ ∧ ¬ ∃ p, isPack key text p) ∧ ∀ w en w', PackPost key text w en w' → en = .returned (.tuple #[.agg #[.int .i64 p.e, .string ⟨p.r.toArray⟩, .string ⟨p.c.toArray⟩], .bool ok]) ∧ Below w.heap.size w w' := by
  by_cases h : ∃ p, isPack key text p
  · obtain ⟨p, h⟩ := h
    refine ⟨p, true, fun _ => h, fun e => (by cases e), ?_⟩
    rintro w en w' ⟨hb, ⟨q, hq, rfl⟩ | ⟨hno, _⟩⟩
    · obtain rfl := h.unique hq
      exact ⟨rfl, hb⟩
    · exact absurd ⟨p, h⟩ hno
  · refine ⟨⟨0, [], []⟩, false, fun e => (by cases e), fun _ => ⟨rfl, h⟩, ?_⟩
    rintro w en w' ⟨hb, ⟨q, hq, rfl⟩ | ⟨_, rfl⟩⟩
    · exact absurd ⟨q, hq⟩ h
    · exact ⟨rfl, hb⟩
theorem text_ne (key : List UInt8) (p : Pk) : p.text key ≠ [] := by
  intro h
  have := text_len key p
  rw [h] at this
  simp at this
theorem pk_len {key text : List UInt8} {p : Pk} (h : isPack key text p) : p.r.length ≤ 900 ∧ p.c.length ≤ 2600 := ⟨h.1.2.1.1, h.1.2.2.1⟩
theorem written_is {key : List UInt8} {d : Pk} (h : d.written key ≠ []) : isPack key (d.written key) d := by
  by_cases hw : d.whole
  · exact ⟨hw, written_yes hw⟩
  · exact absurd (written_no hw) h
theorem is_long {key text : List UInt8} {p : Pk} (h : isPack key text p) : 69 < text.length ∧ text ≠ [] := by
  obtain ⟨_, rfl⟩ := h
  have h1 := text_len key p
  have h2 : 0 < p.body.length := by unfold Pk.body Pk.head; simp
  exact ⟨by omega, text_ne key p⟩

namespace packText
set_option maxHeartbeats 8000000 in
theorem walk (v1 v2 : Value) (ys zs : List Int) (w : World) (hp : Pow w) (hk : Kww w) (he : EtIs w) (h1 : Sl w 1 v1 (u8s ys)) (hb1 : ∀ y ∈ ys, 0 ≤ y ∧ y ≤ 255) (h2 : Sl w 1 v2 (u8s zs)) (hb2 : ∀ y ∈ zs, 0 ≤ y ∧ y ≤ 255) :
    Calls Tryz.prog 4 #[v1, v2] w fun e w' => e = .returned (.bool true) ∧ Below w.heap.size w w' := by
  have HP := Lib.hid hp; have HK := Lib.hid hk; have HE := Lib.hid he; have H1 := Lib.hid h1; have H2 := Lib.hid h2; have HB1 := Lib.hid hb1; have HB2 := Lib.hid hb2
  obtain ⟨A1, n1, c1, rfl, hA1⟩ := h1
  obtain ⟨A2, n2, c2, rfl, hA2⟩ := h2
  have hc1 := hA1.cap; have hm1 := hA1.max; have hc2 := hA2.cap; have hm2 := hA2.max
  unfold maxLen at hm1 hm2
  clear hp hk he hb1 hb2 hA1 hA2
  by_cases hn1 : n1 ≤ 1048576
  case neg =>
    have k1 : ¬ ((n1 : Int) ≤ 1048576) := by omega
    go_enter Tryz.func4, Tryz.ntmps4
    go_wp2
    all_goals
      go_ret
      exact ⟨rfl, Below.refl _ _⟩
  have k1 : ((n1 : Int) ≤ 1048576) := by omega
  by_cases hn2 : n2 ≤ 1048576
  case neg =>
    have k2 : ¬ ((n2 : Int) ≤ 1048576) := by omega
    go_enter Tryz.func4, Tryz.ntmps4
    go_wp2
    all_goals
      go_ret
      exact ⟨rfl, Below.refl _ _⟩
  have k2 : ((n2 : Int) ≤ 1048576) := by omega
  go_enter Tryz.func4, Tryz.ntmps4
  go_wp2_with fail
  refine (DrawPackRead_any _ ys w H1.out HB1.out).mono ?_; rintro e w1 ⟨key, text, rfl, hkl, htl, b1⟩
  have B1 := Lib.hid b1; have HKL := Lib.hid hkl; have HTL := Lib.hid htl
  clear b1 hkl htl hn1 hn2 k1 k2
  obtain ⟨p, ok, hyes, hno, hone⟩ := pack_two key text
  have HY := Lib.hid hyes; have HO := Lib.hid hone
  clear hyes hno hone
  go_wp2_with fail
  refine (PackRead_any key text w1 (HP.out.below B1.out) (HK.out.below B1.out (Nat.le_refl _)) (HE.out.below B1.out) (by have := HKL.out; omega) (by have := HTL.out; omega)).mono ?_; intro e w2 hp2
  obtain ⟨rfl, b2⟩ := HO.out _ _ _ hp2
  have B2 := Lib.hid (below_then B1.out b2)
  clear hp2 b2
  obtain ⟨W2, hW2⟩ : ∃ X, X = w2.alloc (.cells #[.int .i64 p.e, .string ⟨p.r.toArray⟩, .string ⟨p.c.toArray⟩] TPackS) := ⟨_, rfl⟩
  have K2 := Lib.hid (show Blk W2 w2.heap.size TPackS #[.int .i64 p.e, .string ⟨p.r.toArray⟩, .string ⟨p.c.toArray⟩] by rw [hW2]; exact Blk.new _ _ _)
  have BW2 := Lib.hid (show Below w.heap.size w W2 by rw [hW2]; exact B2.out.alloc B2.out.size _)
  have HW2 := Lib.hid hW2
  clear hW2
  go_upto_region 5 with (fail)
  rw [← HW2.out]
  go_wp2_with fail
  refine (sPackRead_any key text W2 (by have := HKL.out; omega) (by have := HTL.out; omega)).mono ?_; intro e w3 hp3
  obtain ⟨rfl, b3⟩ := HO.out _ _ _ hp3
  have B3 := Lib.hid (below_then BW2.out b3); have K3 := Lib.hid (K2.out.below b3 K2.out.lt)
  clear hp3 b3 HW2 K2
  obtain ⟨W3, hW3⟩ : ∃ X, X = w3.alloc (.cells #[.int .i64 p.e, .string ⟨p.r.toArray⟩, .string ⟨p.c.toArray⟩] TPackS) := ⟨_, rfl⟩
  have L3 := Lib.hid (show Blk W3 w3.heap.size TPackS #[.int .i64 p.e, .string ⟨p.r.toArray⟩, .string ⟨p.c.toArray⟩] by rw [hW3]; exact Blk.new _ _ _)
  have K3' := Lib.hid (show Blk W3 w2.heap.size TPackS #[.int .i64 p.e, .string ⟨p.r.toArray⟩, .string ⟨p.c.toArray⟩] by rw [hW3]; exact K3.out.alloc _)
  have BW3 := Lib.hid (show Below w.heap.size w W3 by rw [hW3]; exact B3.out.alloc B3.out.size _)
  have HW3 := Lib.hid hW3
  have hl2 := K3'.out.lt; have hl3 := L3.out.lt
  clear hW3 K3
  go_upto_region 6 with (fail)
  rw [← HW3.out]
  clear HW3
  have y0 := (show _ = some (Value.int .i64 p.e) from K3'.out.cell 0); have y1 := (show _ = some (Value.string ⟨p.r.toArray⟩) from K3'.out.cell 1); have y2 := (show _ = some (Value.string ⟨p.c.toArray⟩) from K3'.out.cell 2)
  have z0 := (show _ = some (Value.int .i64 p.e) from L3.out.cell 0); have z1 := (show _ = some (Value.string ⟨p.r.toArray⟩) from L3.out.cell 1); have z2 := (show _ = some (Value.string ⟨p.c.toArray⟩) from L3.out.cell 2)
  cases ok with
  | true =>
    have HIS := Lib.hid (HY.out rfl)
    have hpl := pk_len HIS.out
    go_wp2_with fail
    refine (PackWrite_any key p W3 (HP.out.below BW3.out) (HK.out.below BW3.out (Nat.le_refl _)) (by have := HKL.out; omega) (by omega) (by omega)).mono ?_; rintro e w4 ⟨rfl, b4⟩
    rw [written_yes HIS.out.1, ← HIS.out.2]
    have B4 := Lib.hid (below_then BW3.out b4)
    clear b4 y0 y1 y2 z0 z1 z2 K3' L3 BW3 hl2 hl3 hpl HIS HY HO
    have ht : (text != text) = false := by simp
    go_upto_region 8 with (fail)
    go_wp2_with fail
    refine (DrawPackWrite_any _ zs w4 (H2.out.below B4.out) HB2.out).mono ?_; rintro e w5 ⟨k, d, rfl, hkl5, hke, hkr, hkc, b5⟩
    have B5 := Lib.hid (below_then B4.out b5)
    have HKL5 := Lib.hid hkl5; have HKE := Lib.hid hke; have HKR := Lib.hid hkr; have HKC := Lib.hid hkc
    obtain ⟨W6, hW6⟩ : ∃ X, X = w5.alloc (.cells #[.int .i64 d.e, .string ⟨d.r.toArray⟩, .string ⟨d.c.toArray⟩] TPackS) := ⟨_, rfl⟩
    have K6 := Lib.hid (show Blk W6 w5.heap.size TPackS #[.int .i64 d.e, .string ⟨d.r.toArray⟩, .string ⟨d.c.toArray⟩] by rw [hW6]; exact Blk.new _ _ _)
    have BW6 := Lib.hid (show Below w.heap.size w W6 by rw [hW6]; exact B5.out.alloc B5.out.size _)
    have HW6 := Lib.hid hW6
    clear hW6 b5 hkl5 hke hkr hkc B4
    go_upto_region 9 with (fail)
    rw [← HW6.out]
    clear HW6
    have y0 := (show _ = some (Value.int .i64 d.e) from K6.out.cell 0); have y1 := (show _ = some (Value.string ⟨d.r.toArray⟩) from K6.out.cell 1); have y2 := (show _ = some (Value.string ⟨d.c.toArray⟩) from K6.out.cell 2)
    have hl6 := K6.out.lt
    go_wp2_with fail
    refine (PackWrite_any k d W6 (HP.out.below BW6.out) (HK.out.below BW6.out (Nat.le_refl _)) (by have := HKL5.out; omega) (by have := HKR.out; omega) (by have := HKC.out; omega)).mono ?_; rintro e w7 ⟨rfl, b7⟩
    obtain ⟨s, hs⟩ : ∃ s, s = d.written k := ⟨_, rfl⟩
    rw [← hs]
    have HSW := Lib.hid hs
    have hsl : s.length ≤ 4000 := by rw [hs]; exact written_len k d
    have B7 := Lib.hid (below_then BW6.out b7); have K7 := Lib.hid (K6.out.below b7 K6.out.lt)
    obtain ⟨bk, fine, hfy, hfn, hfo⟩ := pack_two k s
    have HFT : Hid (fine = true → s ≠ [] ∧ bk = d) := Lib.hid (fun h => by
      have hl := is_long (hfy h)
      exact ⟨hl.2, (hfy h).unique (by rw [hs] at hl ⊢; exact written_is hl.2)⟩)
    have HFF : Hid (fine = false → s = []) := Lib.hid (fun h => by
      by_cases h0 : s = []
      · exact h0
      · exact absurd ⟨d, by rw [hs] at h0 ⊢; exact written_is h0⟩ (hfn h).2)
    have HFO := Lib.hid hfo
    have HSL := Lib.hid hsl
    clear hs b7 y0 y1 y2 hl6 K6 BW6 B5 hfy hfn hfo hsl
    go_wp2_with fail
    refine (PackRead_any k s w7 (HP.out.below B7.out) (HK.out.below B7.out (Nat.le_refl _)) (HE.out.below B7.out) (by have := HKL5.out; omega) (by have := HSL.out; omega)).mono ?_; intro e w8 hp8
    obtain ⟨rfl, b8⟩ := HFO.out _ _ _ hp8
    obtain ⟨W8, hW8⟩ : ∃ X, X = w8.alloc (.cells #[.int .i64 bk.e, .string ⟨bk.r.toArray⟩, .string ⟨bk.c.toArray⟩] TPackS) := ⟨_, rfl⟩
    have B8 := Lib.hid (below_then B7.out b8)
    have K8 := Lib.hid (K7.out.below b8 K7.out.lt)
    have K8' := Lib.hid (show Blk W8 w5.heap.size TPackS #[.int .i64 d.e, .string ⟨d.r.toArray⟩, .string ⟨d.c.toArray⟩] by rw [hW8]; exact K8.out.alloc _)
    have L8 := Lib.hid (show Blk W8 w8.heap.size TPackS #[.int .i64 bk.e, .string ⟨bk.r.toArray⟩, .string ⟨bk.c.toArray⟩] by rw [hW8]; exact Blk.new _ _ _)
    have BW8 := Lib.hid (show Below w.heap.size w W8 by rw [hW8]; exact B8.out.alloc B8.out.size _)
    have HW8 := Lib.hid hW8
    clear hW8 hp8 b8 K7 K8 B7
    go_upto_region 11 with (fail)
    rw [← HW8.out]
    clear HW8
    have hcat : (⟨k.toArray⟩ : ByteArray) ++ ⟨#[120]⟩ = ⟨(k ++ [120]).toArray⟩ := ByteArray.ext (by simp)
    have hk5 := HKL5.out
    go_wp2_with fail
    refine (PackRead_any (k ++ [120]) s W8 (HP.out.below BW8.out) (HK.out.below BW8.out (Nat.le_refl _)) (HE.out.below BW8.out) (by have := HKL5.out; simp; omega) (by have := HSL.out; omega)).mono ?_; intro e w9 hp9
    obtain ⟨bx, wr, hwy, hwn, hwo⟩ := pack_two (k ++ [120]) s
    obtain ⟨rfl, b9⟩ := hwo _ _ _ hp9
    have HSX : Hid (wr = true → 69 < s.length ∧ macT k (s.take (s.length - 69)) = macT (k ++ [120]) (s.take (s.length - 69))) := Lib.hid (fun h => by
      have hl := is_long (hwy h)
      refine ⟨hl.1, key_law (show isPack k s d from ?_) (hwy h)⟩
      have h0 := hl.2
      rw [HSW.out] at h0 ⊢
      exact written_is h0)
    obtain ⟨W9, hW9⟩ : ∃ X, X = w9.alloc (.cells #[.int .i64 bx.e, .string ⟨bx.r.toArray⟩, .string ⟨bx.c.toArray⟩] TPackS) := ⟨_, rfl⟩
    have B9 := Lib.hid (below_then BW8.out b9)
    have K9 := Lib.hid (K8'.out.below b9 K8'.out.lt); have L9 := Lib.hid (L8.out.below b9 L8.out.lt)
    have K9' := Lib.hid (show Blk W9 w5.heap.size TPackS #[.int .i64 d.e, .string ⟨d.r.toArray⟩, .string ⟨d.c.toArray⟩] by rw [hW9]; exact K9.out.alloc _)
    have L9' := Lib.hid (show Blk W9 w8.heap.size TPackS #[.int .i64 bk.e, .string ⟨bk.r.toArray⟩, .string ⟨bk.c.toArray⟩] by rw [hW9]; exact L9.out.alloc _)
    have BW9 := Lib.hid (show Below w.heap.size w W9 by rw [hW9]; exact B9.out.alloc B9.out.size _)
    have HW9 := Lib.hid hW9
    clear hW9 hp9 b9 hwy hwn hwo K8' L8 K9 L9 BW8 HFO B8
    go_upto_region 12 with (fail)
    rw [← HW9.out]
    clear HW9
    cases wr with
    | true =>
      obtain ⟨hs69, hmac⟩ := HSX.out rfl
      have HMAC := Lib.hid hmac
      have k69 : (69 : Int) < s.length := by omega
      obtain ⟨m, hm⟩ : ∃ m, m = s.length - 69 := ⟨_, rfl⟩
      have HM := Lib.hid hm
      have hml : m ≤ s.length := by omega
      have hmi : (s.length : Int) - 69 = (m : Int) := by omega
      have HMM : Hid (macT k (s.take m) = macT (k ++ [120]) (s.take m)) := Lib.hid (by rw [hm]; exact hmac)
      clear hmac hm
      have hi := HSL.out
      go_wp2_with fail
      have hext : (⟨s.toArray⟩ : ByteArray).extract 0 m = ⟨(s.take m).toArray⟩ := by rw [Lib.extract_eq]; simp
      refine wp_region_fixed (fun w' => Below W9.heap.size W9 w') (by kernel_rfl) (by kernel_rfl) (Below.refl _ _).drew ?_
      iterate 14
        apply wpFx_step
        case h =>
          intro wf hw
          have H9 := Lib.hid hw
          clear hw
          go_wp2_with (go_at_call 9; refine (sHashMac_any k (s.take m) _ (by omega) (by simp; omega)).mono ?_; rintro e w4 ⟨rfl, hbb⟩; replace H9 := Lib.hid (below_then H9.out hbb); clear hbb)
          exact ⟨rfl, rfl, H9.out⟩
      iterate 3
        apply wpFx_step
        case h =>
          intro wf hw
          have H9 := Lib.hid hw
          clear hw
          go_wp2_with (go_at_call 9; refine (sHashMac_any (k ++ [120]) (s.take m) _ (by simp; omega) (by simp; omega)).mono ?_; rintro e w4 ⟨rfl, hbb⟩; rw [← HMM.out]; replace H9 := Lib.hid (below_then H9.out hbb); clear hbb)
          exact ⟨rfl, rfl, H9.out⟩
      have hmm2 : (macT k (s.take m) != macT k (s.take m)) = false := by simp
      refine wpFx_end (fun w9' hw => ?_)
      have BX := Lib.hid (BW9.out.trans (hw.mono BW9.out.size)); have KX := Lib.hid (K9'.out.below hw K9'.out.lt); have LX := Lib.hid (L9'.out.below hw L9'.out.lt)
      clear hw K9' L9' BW9 hmm2 hmi hml hext hcat hs69 k69 HMAC HMM HM
      have y0 := (show _ = some (Value.int .i64 d.e) from KX.out.cell 0); have y1 := (show _ = some (Value.string ⟨d.r.toArray⟩) from KX.out.cell 1); have y2 := (show _ = some (Value.string ⟨d.c.toArray⟩) from KX.out.cell 2)
      have hkr := HKR.out; have hkc := HKC.out
      have hhs : (s == s) = true := by simp
      go_wp2_with fail
      refine (sPackWrite_any k d w9' (by have := HKL5.out; omega) (by have := HKE.out; omega) (by have := HKR.out; omega) (by have := HKC.out; omega)).mono ?_; rintro e wz ⟨rfl, bz⟩
      rw [← HSW.out]
      have BZ := Lib.hid (below_then BX.out bz); have KZ := Lib.hid (KX.out.below bz KX.out.lt); have LZ := Lib.hid (LX.out.below bz LX.out.lt)
      clear bz y0 y1 y2 KX LX BX
      cases fine with
      | true =>
        obtain ⟨hne, hbk⟩ := HFT.out rfl
        subst hbk
        have hse : (s == []) = false := by simpa using hne
        have hsn : (s != []) = true := by simpa using hne
        have y0 := (show _ = some (Value.int .i64 bk.e) from KZ.out.cell 0); have y1 := (show _ = some (Value.string ⟨bk.r.toArray⟩) from KZ.out.cell 1); have y2 := (show _ = some (Value.string ⟨bk.c.toArray⟩) from KZ.out.cell 2)
        have z0 := (show _ = some (Value.int .i64 bk.e) from LZ.out.cell 0); have z1 := (show _ = some (Value.string ⟨bk.r.toArray⟩) from LZ.out.cell 1); have z2 := (show _ = some (Value.string ⟨bk.c.toArray⟩) from LZ.out.cell 2)
        go_wp2
        go_ret
        exact ⟨rfl, BZ.out⟩
      | false =>
        have hs0 := HFF.out rfl
        have hse : (s == []) = true := by simp [hs0]
        have hsn : (s != []) = false := by simp [hs0]
        clear hs0
        go_wp2
        go_ret
        exact ⟨rfl, BZ.out⟩
    | false =>
      have BX := Lib.hid BW9.out; have KX := Lib.hid K9'.out; have LX := Lib.hid L9'.out
      generalize W9 = w9' at BX KX LX
      clear K9' L9' BW9 hcat
      have y0 := (show _ = some (Value.int .i64 d.e) from KX.out.cell 0); have y1 := (show _ = some (Value.string ⟨d.r.toArray⟩) from KX.out.cell 1); have y2 := (show _ = some (Value.string ⟨d.c.toArray⟩) from KX.out.cell 2)
      have hkr := HKR.out; have hkc := HKC.out
      have hhs : (s == s) = true := by simp
      go_wp2_with fail
      refine (sPackWrite_any k d w9' (by have := HKL5.out; omega) (by have := HKE.out; omega) (by have := HKR.out; omega) (by have := HKC.out; omega)).mono ?_; rintro e wz ⟨rfl, bz⟩
      rw [← HSW.out]
      have BZ := Lib.hid (below_then BX.out bz); have KZ := Lib.hid (KX.out.below bz KX.out.lt); have LZ := Lib.hid (LX.out.below bz LX.out.lt)
      clear bz y0 y1 y2 KX LX BX
      cases fine with
      | true =>
        obtain ⟨hne, hbk⟩ := HFT.out rfl
        subst hbk
        have hse : (s == []) = false := by simpa using hne
        have hsn : (s != []) = true := by simpa using hne
        have y0 := (show _ = some (Value.int .i64 bk.e) from KZ.out.cell 0); have y1 := (show _ = some (Value.string ⟨bk.r.toArray⟩) from KZ.out.cell 1); have y2 := (show _ = some (Value.string ⟨bk.c.toArray⟩) from KZ.out.cell 2)
        have z0 := (show _ = some (Value.int .i64 bk.e) from LZ.out.cell 0); have z1 := (show _ = some (Value.string ⟨bk.r.toArray⟩) from LZ.out.cell 1); have z2 := (show _ = some (Value.string ⟨bk.c.toArray⟩) from LZ.out.cell 2)
        go_wp2
        go_ret
        exact ⟨rfl, BZ.out⟩
      | false =>
        have hs0 := HFF.out rfl
        have hse : (s == []) = true := by simp [hs0]
        have hsn : (s != []) = false := by simp [hs0]
        clear hs0
        go_wp2
        go_ret
        exact ⟨rfl, BZ.out⟩
  | false =>
    have B4 := Lib.hid BW3.out
    go_upto_region 8 with (fail)
    generalize W3 = w4 at B4
    clear y0 y1 y2 z0 z1 z2 K3' L3 BW3 hl2 hl3 HY HO
    go_wp2_with fail
    refine (DrawPackWrite_any _ zs w4 (H2.out.below B4.out) HB2.out).mono ?_; rintro e w5 ⟨k, d, rfl, hkl5, hke, hkr, hkc, b5⟩
    have B5 := Lib.hid (below_then B4.out b5)
    have HKL5 := Lib.hid hkl5; have HKE := Lib.hid hke; have HKR := Lib.hid hkr; have HKC := Lib.hid hkc
    obtain ⟨W6, hW6⟩ : ∃ X, X = w5.alloc (.cells #[.int .i64 d.e, .string ⟨d.r.toArray⟩, .string ⟨d.c.toArray⟩] TPackS) := ⟨_, rfl⟩
    have K6 := Lib.hid (show Blk W6 w5.heap.size TPackS #[.int .i64 d.e, .string ⟨d.r.toArray⟩, .string ⟨d.c.toArray⟩] by rw [hW6]; exact Blk.new _ _ _)
    have BW6 := Lib.hid (show Below w.heap.size w W6 by rw [hW6]; exact B5.out.alloc B5.out.size _)
    have HW6 := Lib.hid hW6
    clear hW6 b5 hkl5 hke hkr hkc B4
    go_upto_region 9 with (fail)
    rw [← HW6.out]
    clear HW6
    have y0 := (show _ = some (Value.int .i64 d.e) from K6.out.cell 0); have y1 := (show _ = some (Value.string ⟨d.r.toArray⟩) from K6.out.cell 1); have y2 := (show _ = some (Value.string ⟨d.c.toArray⟩) from K6.out.cell 2)
    have hl6 := K6.out.lt
    go_wp2_with fail
    refine (PackWrite_any k d W6 (HP.out.below BW6.out) (HK.out.below BW6.out (Nat.le_refl _)) (by have := HKL5.out; omega) (by have := HKR.out; omega) (by have := HKC.out; omega)).mono ?_; rintro e w7 ⟨rfl, b7⟩
    obtain ⟨s, hs⟩ : ∃ s, s = d.written k := ⟨_, rfl⟩
    rw [← hs]
    have HSW := Lib.hid hs
    have hsl : s.length ≤ 4000 := by rw [hs]; exact written_len k d
    have B7 := Lib.hid (below_then BW6.out b7); have K7 := Lib.hid (K6.out.below b7 K6.out.lt)
    obtain ⟨bk, fine, hfy, hfn, hfo⟩ := pack_two k s
    have HFT : Hid (fine = true → s ≠ [] ∧ bk = d) := Lib.hid (fun h => by
      have hl := is_long (hfy h)
      exact ⟨hl.2, (hfy h).unique (by rw [hs] at hl ⊢; exact written_is hl.2)⟩)
    have HFF : Hid (fine = false → s = []) := Lib.hid (fun h => by
      by_cases h0 : s = []
      · exact h0
      · exact absurd ⟨d, by rw [hs] at h0 ⊢; exact written_is h0⟩ (hfn h).2)
    have HFO := Lib.hid hfo
    have HSL := Lib.hid hsl
    clear hs b7 y0 y1 y2 hl6 K6 BW6 B5 hfy hfn hfo hsl
    go_wp2_with fail
    refine (PackRead_any k s w7 (HP.out.below B7.out) (HK.out.below B7.out (Nat.le_refl _)) (HE.out.below B7.out) (by have := HKL5.out; omega) (by have := HSL.out; omega)).mono ?_; intro e w8 hp8
    obtain ⟨rfl, b8⟩ := HFO.out _ _ _ hp8
    obtain ⟨W8, hW8⟩ : ∃ X, X = w8.alloc (.cells #[.int .i64 bk.e, .string ⟨bk.r.toArray⟩, .string ⟨bk.c.toArray⟩] TPackS) := ⟨_, rfl⟩
    have B8 := Lib.hid (below_then B7.out b8)
    have K8 := Lib.hid (K7.out.below b8 K7.out.lt)
    have K8' := Lib.hid (show Blk W8 w5.heap.size TPackS #[.int .i64 d.e, .string ⟨d.r.toArray⟩, .string ⟨d.c.toArray⟩] by rw [hW8]; exact K8.out.alloc _)
    have L8 := Lib.hid (show Blk W8 w8.heap.size TPackS #[.int .i64 bk.e, .string ⟨bk.r.toArray⟩, .string ⟨bk.c.toArray⟩] by rw [hW8]; exact Blk.new _ _ _)
    have BW8 := Lib.hid (show Below w.heap.size w W8 by rw [hW8]; exact B8.out.alloc B8.out.size _)
    have HW8 := Lib.hid hW8
    clear hW8 hp8 b8 K7 K8 B7
    go_upto_region 11 with (fail)
    rw [← HW8.out]
    clear HW8
    have hcat : (⟨k.toArray⟩ : ByteArray) ++ ⟨#[120]⟩ = ⟨(k ++ [120]).toArray⟩ := ByteArray.ext (by simp)
    have hk5 := HKL5.out
    go_wp2_with fail
    refine (PackRead_any (k ++ [120]) s W8 (HP.out.below BW8.out) (HK.out.below BW8.out (Nat.le_refl _)) (HE.out.below BW8.out) (by have := HKL5.out; simp; omega) (by have := HSL.out; omega)).mono ?_; intro e w9 hp9
    obtain ⟨bx, wr, hwy, hwn, hwo⟩ := pack_two (k ++ [120]) s
    obtain ⟨rfl, b9⟩ := hwo _ _ _ hp9
    have HSX : Hid (wr = true → 69 < s.length ∧ macT k (s.take (s.length - 69)) = macT (k ++ [120]) (s.take (s.length - 69))) := Lib.hid (fun h => by
      have hl := is_long (hwy h)
      refine ⟨hl.1, key_law (show isPack k s d from ?_) (hwy h)⟩
      have h0 := hl.2
      rw [HSW.out] at h0 ⊢
      exact written_is h0)
    obtain ⟨W9, hW9⟩ : ∃ X, X = w9.alloc (.cells #[.int .i64 bx.e, .string ⟨bx.r.toArray⟩, .string ⟨bx.c.toArray⟩] TPackS) := ⟨_, rfl⟩
    have B9 := Lib.hid (below_then BW8.out b9)
    have K9 := Lib.hid (K8'.out.below b9 K8'.out.lt); have L9 := Lib.hid (L8.out.below b9 L8.out.lt)
    have K9' := Lib.hid (show Blk W9 w5.heap.size TPackS #[.int .i64 d.e, .string ⟨d.r.toArray⟩, .string ⟨d.c.toArray⟩] by rw [hW9]; exact K9.out.alloc _)
    have L9' := Lib.hid (show Blk W9 w8.heap.size TPackS #[.int .i64 bk.e, .string ⟨bk.r.toArray⟩, .string ⟨bk.c.toArray⟩] by rw [hW9]; exact L9.out.alloc _)
    have BW9 := Lib.hid (show Below w.heap.size w W9 by rw [hW9]; exact B9.out.alloc B9.out.size _)
    have HW9 := Lib.hid hW9
    clear hW9 hp9 b9 hwy hwn hwo K8' L8 K9 L9 BW8 HFO B8
    go_upto_region 12 with (fail)
    rw [← HW9.out]
    clear HW9
    cases wr with
    | true =>
      obtain ⟨hs69, hmac⟩ := HSX.out rfl
      have HMAC := Lib.hid hmac
      have k69 : (69 : Int) < s.length := by omega
      obtain ⟨m, hm⟩ : ∃ m, m = s.length - 69 := ⟨_, rfl⟩
      have HM := Lib.hid hm
      have hml : m ≤ s.length := by omega
      have hmi : (s.length : Int) - 69 = (m : Int) := by omega
      have HMM : Hid (macT k (s.take m) = macT (k ++ [120]) (s.take m)) := Lib.hid (by rw [hm]; exact hmac)
      clear hmac hm
      have hi := HSL.out
      go_wp2_with fail
      have hext : (⟨s.toArray⟩ : ByteArray).extract 0 m = ⟨(s.take m).toArray⟩ := by rw [Lib.extract_eq]; simp
      refine wp_region_fixed (fun w' => Below W9.heap.size W9 w') (by kernel_rfl) (by kernel_rfl) (Below.refl _ _).drew ?_
      iterate 14
        apply wpFx_step
        case h =>
          intro wf hw
          have H9 := Lib.hid hw
          clear hw
          go_wp2_with (go_at_call 9; refine (sHashMac_any k (s.take m) _ (by omega) (by simp; omega)).mono ?_; rintro e w4 ⟨rfl, hbb⟩; replace H9 := Lib.hid (below_then H9.out hbb); clear hbb)
          exact ⟨rfl, rfl, H9.out⟩
      iterate 3
        apply wpFx_step
        case h =>
          intro wf hw
          have H9 := Lib.hid hw
          clear hw
          go_wp2_with (go_at_call 9; refine (sHashMac_any (k ++ [120]) (s.take m) _ (by simp; omega) (by simp; omega)).mono ?_; rintro e w4 ⟨rfl, hbb⟩; rw [← HMM.out]; replace H9 := Lib.hid (below_then H9.out hbb); clear hbb)
          exact ⟨rfl, rfl, H9.out⟩
      have hmm2 : (macT k (s.take m) != macT k (s.take m)) = false := by simp
      refine wpFx_end (fun w9' hw => ?_)
      have BX := Lib.hid (BW9.out.trans (hw.mono BW9.out.size)); have KX := Lib.hid (K9'.out.below hw K9'.out.lt); have LX := Lib.hid (L9'.out.below hw L9'.out.lt)
      clear hw K9' L9' BW9 hmm2 hmi hml hext hcat hs69 k69 HMAC HMM HM
      have y0 := (show _ = some (Value.int .i64 d.e) from KX.out.cell 0); have y1 := (show _ = some (Value.string ⟨d.r.toArray⟩) from KX.out.cell 1); have y2 := (show _ = some (Value.string ⟨d.c.toArray⟩) from KX.out.cell 2)
      have hkr := HKR.out; have hkc := HKC.out
      have hhs : (s == s) = true := by simp
      go_wp2_with fail
      refine (sPackWrite_any k d w9' (by have := HKL5.out; omega) (by have := HKE.out; omega) (by have := HKR.out; omega) (by have := HKC.out; omega)).mono ?_; rintro e wz ⟨rfl, bz⟩
      rw [← HSW.out]
      have BZ := Lib.hid (below_then BX.out bz); have KZ := Lib.hid (KX.out.below bz KX.out.lt); have LZ := Lib.hid (LX.out.below bz LX.out.lt)
      clear bz y0 y1 y2 KX LX BX
      cases fine with
      | true =>
        obtain ⟨hne, hbk⟩ := HFT.out rfl
        subst hbk
        have hse : (s == []) = false := by simpa using hne
        have hsn : (s != []) = true := by simpa using hne
        have y0 := (show _ = some (Value.int .i64 bk.e) from KZ.out.cell 0); have y1 := (show _ = some (Value.string ⟨bk.r.toArray⟩) from KZ.out.cell 1); have y2 := (show _ = some (Value.string ⟨bk.c.toArray⟩) from KZ.out.cell 2)
        have z0 := (show _ = some (Value.int .i64 bk.e) from LZ.out.cell 0); have z1 := (show _ = some (Value.string ⟨bk.r.toArray⟩) from LZ.out.cell 1); have z2 := (show _ = some (Value.string ⟨bk.c.toArray⟩) from LZ.out.cell 2)
        go_wp2
        go_ret
        exact ⟨rfl, BZ.out⟩
      | false =>
        have hs0 := HFF.out rfl
        have hse : (s == []) = true := by simp [hs0]
        have hsn : (s != []) = false := by simp [hs0]
        clear hs0
        go_wp2
        go_ret
        exact ⟨rfl, BZ.out⟩
    | false =>
      have BX := Lib.hid BW9.out; have KX := Lib.hid K9'.out; have LX := Lib.hid L9'.out
      generalize W9 = w9' at BX KX LX
      clear K9' L9' BW9 hcat
      have y0 := (show _ = some (Value.int .i64 d.e) from KX.out.cell 0); have y1 := (show _ = some (Value.string ⟨d.r.toArray⟩) from KX.out.cell 1); have y2 := (show _ = some (Value.string ⟨d.c.toArray⟩) from KX.out.cell 2)
      have hkr := HKR.out; have hkc := HKC.out
      have hhs : (s == s) = true := by simp
      go_wp2_with fail
      refine (sPackWrite_any k d w9' (by have := HKL5.out; omega) (by have := HKE.out; omega) (by have := HKR.out; omega) (by have := HKC.out; omega)).mono ?_; rintro e wz ⟨rfl, bz⟩
      rw [← HSW.out]
      have BZ := Lib.hid (below_then BX.out bz); have KZ := Lib.hid (KX.out.below bz KX.out.lt); have LZ := Lib.hid (LX.out.below bz LX.out.lt)
      clear bz y0 y1 y2 KX LX BX
      cases fine with
      | true =>
        obtain ⟨hne, hbk⟩ := HFT.out rfl
        subst hbk
        have hse : (s == []) = false := by simpa using hne
        have hsn : (s != []) = true := by simpa using hne
        have y0 := (show _ = some (Value.int .i64 bk.e) from KZ.out.cell 0); have y1 := (show _ = some (Value.string ⟨bk.r.toArray⟩) from KZ.out.cell 1); have y2 := (show _ = some (Value.string ⟨bk.c.toArray⟩) from KZ.out.cell 2)
        have z0 := (show _ = some (Value.int .i64 bk.e) from LZ.out.cell 0); have z1 := (show _ = some (Value.string ⟨bk.r.toArray⟩) from LZ.out.cell 1); have z2 := (show _ = some (Value.string ⟨bk.c.toArray⟩) from LZ.out.cell 2)
        go_wp2
        go_ret
        exact ⟨rfl, BZ.out⟩
      | false =>
        have hs0 := HFF.out rfl
        have hse : (s == []) = true := by simp [hs0]
        have hsn : (s != []) = false := by simp [hs0]
        clear hs0
        go_wp2
        go_ret
        exact ⟨rfl, BZ.out⟩
end packText
end Go.Proofs.YtcomdkmglihdbaaGreatDoor
