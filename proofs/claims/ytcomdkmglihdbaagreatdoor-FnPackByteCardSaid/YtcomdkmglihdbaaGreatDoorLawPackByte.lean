/- The law that a pack of which one byte is another one is none, walked: FnPackByte returns true. -/
import Derived.Test.YtcomdkmglihdbaaGreatDoorPackO
import Derived.Test.YtcomdkmglihdbaaGreatDoorPackQ
import Derived.Test.YtcomdkmglihdbaaGreatDoorDrawPk2
import Derived.Test.YtcomdkmglihdbaaGreatDoorPackS5
namespace Go.Proofs.YtcomdkmglihdbaaGreatDoor
open Go.RowKit
set_option linter.unusedSimpArgs false
set_option linter.unusedVariables false

namespace packByte
/-- What a key and a text give, for both of them. -/
theorem pack_two (key text : List UInt8) : ∃ (p : Pk) (ok : Bool), (ok = true → isPack key text p) ∧ (ok = false → p = ⟨0, [], []⟩ ∧ ¬ ∃ p, isPack key text p) ∧ ∀ w en w', PackPost key text w en w' → en = .returned (.tuple #[.agg #[.int .i64 p.e, .string ⟨p.r.toArray⟩, .string ⟨p.c.toArray⟩], .bool ok]) ∧ Below w.heap.size w w' := by
  by_cases h : ∃ p, isPack key text p
  · obtain ⟨p, h⟩ := h
    refine ⟨p, true, fun _ => h, fun e => (by cases e), ?_⟩
    rintro w en w' ⟨hb, ⟨q, hq, rfl⟩ | ⟨hno, _⟩⟩
    · obtain rfl := h.unique hq
      exact ⟨rfl, hb⟩
    · exact absurd ⟨p, h⟩ hno
  · refine ⟨⟨0, [], []⟩, false, fun e => (by cases e), fun _ => ⟨rfl, h⟩, ?_⟩
    rintro w en w' ⟨hb, ⟨q, hq, rfl⟩ | ⟨_, rfl⟩⟩
    · exact absurd ⟨q, hq⟩ h
    · exact ⟨rfl, hb⟩
theorem written_is {key : List UInt8} {d : Pk} (h : d.written key ≠ []) : isPack key (d.written key) d := by
  by_cases hw : d.whole
  · exact ⟨hw, written_yes hw⟩
  · exact absurd (written_no hw) h
theorem is_long {key text : List UInt8} {p : Pk} (h : isPack key text p) : 69 < text.length := by
  obtain ⟨_, rfl⟩ := h
  have h1 := text_len key p
  have h2 : 0 < p.body.length := by unfold Pk.body Pk.head; simp
  omega
theorem Bys.take_ {w : World} {b : Nat} {l : List UInt8} (h : Bys w b l) (m : Nat) : Bys w b (l.take m) := by
  obtain ⟨cur, fr, h1, h2, h3⟩ := h
  refine ⟨cur, fr, h1, fun j x hx => ?_, fun j hj => h3 j (by simp at hj; omega)⟩
  rw [List.getElem?_take] at hx
  split at hx
  · exact h2 j x hx
  · cases hx
theorem xor_ne {a x : UInt8} (hx : x ≠ 0) : a ^^^ x ≠ a := fun h => hx (by
  have h1 := congrArg (a ^^^ ·) h
  simpa [← UInt8.xor_assoc] using h1)
/-- The first letter of what came in. -/
theorem first_of {w : World} {A : Option Addr} {n c : Nat} {zs : List Int} (h : SlA w 1 A n c (u8s zs)) (hz : ∀ y ∈ zs, 0 ≤ y ∧ y ≤ 255) (hn : 0 < n) : ∃ (b off : Nat) (x : UInt8), A = some ⟨b, off, none⟩ ∧ b < w.heap.size ∧ w.cell? ⟨b, off, none⟩ = some (.int .u8 x.toNat) := by
  obtain ⟨b, off, rfl, hb, he⟩ := h.at_ hn
  have hl := h.len
  cases zs with
  | nil => simp [u8s] at hl; omega
  | cons y zs =>
    obtain ⟨x, hx⟩ := byte_of (hz y (by simp))
    refine ⟨b, off, x, rfl, hb, ?_⟩
    have := he 0 [.int .u8 y] (by simp [u8s]) 0 (.int .u8 y) rfl
    rw [← hx]
    simpa using this

set_option maxRecDepth 100000 in
set_option maxHeartbeats 8000000 in
theorem walk (v1 v2 : Value) (ys zs : List Int) (w : World) (hp : Pow w) (hk : Kww w) (he : EtIs w) (h1 : Sl w 1 v1 (u8s ys)) (hb1 : ∀ y ∈ ys, 0 ≤ y ∧ y ≤ 255) (h2 : Sl w 1 v2 (u8s zs)) (hb2 : ∀ y ∈ zs, 0 ≤ y ∧ y ≤ 255) :
    Calls Tryz.prog 3 #[v1, v2] w fun e w' => e = .returned (.bool true) ∧ Below w.heap.size w w' := by
  have HP := Lib.hid hp; have HK := Lib.hid hk; have HE := Lib.hid he; have H1 := Lib.hid h1; have HB1 := Lib.hid hb1
  obtain ⟨A1, n1, c1, rfl, hA1⟩ := h1
  obtain ⟨A2, n2, c2, rfl, hA2⟩ := h2
  have hc1 := hA1.cap; have hm1 := hA1.max; have hc2 := hA2.cap; have hm2 := hA2.max
  unfold maxLen at hm1 hm2
  have HA2 := Lib.hid hA2; have HB2 := Lib.hid hb2
  clear hp hk he hb1 hb2 hA1 hA2
  by_cases hn1 : n1 ≤ 1048576
  case neg =>
    have k1 : ¬ ((n1 : Int) ≤ 1048576) := by omega
    go_enter Tryz.func3, Tryz.ntmps3
    go_wp2
    all_goals
      go_ret
      exact ⟨rfl, Below.refl _ _⟩
  have k1 : ((n1 : Int) ≤ 1048576) := by omega
  by_cases hn2 : n2 ≤ 1048576
  case neg =>
    have k2 : ¬ ((n2 : Int) ≤ 1048576) := by omega
    go_enter Tryz.func3, Tryz.ntmps3
    go_wp2
    all_goals
      go_ret
      exact ⟨rfl, Below.refl _ _⟩
  have k2 : ((n2 : Int) ≤ 1048576) := by omega
  go_enter Tryz.func3, Tryz.ntmps3
  go_wp2_with fail
  refine (DrawPackWrite_any _ ys w H1.out HB1.out).mono ?_; rintro e w5 ⟨k, d, rfl, hkl5, hke, hkr, hkc, b5⟩
  have B5 := Lib.hid b5
  have HKL5 := Lib.hid hkl5; have HKE := Lib.hid hke; have HKR := Lib.hid hkr; have HKC := Lib.hid hkc
  obtain ⟨W6, hW6⟩ : ∃ X, X = w5.alloc (.cells #[.int .i64 d.e, .string ⟨d.r.toArray⟩, .string ⟨d.c.toArray⟩] TPackS) := ⟨_, rfl⟩
  have K6 := Lib.hid (show Blk W6 w5.heap.size TPackS #[.int .i64 d.e, .string ⟨d.r.toArray⟩, .string ⟨d.c.toArray⟩] by rw [hW6]; exact Blk.new _ _ _)
  have BW6 := Lib.hid (show Below w.heap.size w W6 by rw [hW6]; exact B5.out.alloc B5.out.size _)
  have HW6 := Lib.hid hW6
  clear hW6 b5 hkl5 hke hkr hkc k1 k2 hn1
  go_upto_region 4 with (fail)
  rw [← HW6.out]
  clear HW6
  have y0 := (show _ = some (Value.int .i64 d.e) from K6.out.cell 0); have y1 := (show _ = some (Value.string ⟨d.r.toArray⟩) from K6.out.cell 1); have y2 := (show _ = some (Value.string ⟨d.c.toArray⟩) from K6.out.cell 2)
  have hl6 := K6.out.lt
  go_wp2_with fail
  refine (PackWrite_any k d W6 (HP.out.below BW6.out) (HK.out.below BW6.out (Nat.le_refl _)) (by have := HKL5.out; omega) (by have := HKR.out; omega) (by have := HKC.out; omega)).mono ?_; rintro e w7 ⟨rfl, b7⟩
  obtain ⟨s, hs⟩ : ∃ s, s = d.written k := ⟨_, rfl⟩
  rw [← hs]
  have HSW := Lib.hid hs
  have hsl : s.length ≤ 4000 := by rw [hs]; exact written_len k d
  have B7 := Lib.hid (below_then BW6.out b7); have K7 := Lib.hid (K6.out.below b7 K6.out.lt)
  have HSL := Lib.hid hsl
  clear hs b7 y0 y1 y2 hl6 K6 BW6 B5 hsl
  have y0 := (show _ = some (Value.int .i64 d.e) from K7.out.cell 0); have y1 := (show _ = some (Value.string ⟨d.r.toArray⟩) from K7.out.cell 1); have y2 := (show _ = some (Value.string ⟨d.c.toArray⟩) from K7.out.cell 2)
  go_wp2_with fail
  refine (sPackWrite_any k d w7 (by have := HKL5.out; omega) (by have := HKE.out; omega) (by have := HKR.out; omega) (by have := HKC.out; omega)).mono ?_; rintro e w8 ⟨rfl, b8⟩
  rw [← HSW.out]
  have B8 := Lib.hid (below_then B7.out b8); have K8 := Lib.hid (K7.out.below b8 K7.out.lt)
  clear b8 y0 y1 y2 K7 B7
  by_cases hs0 : s = []
  · have y0 := (show _ = some (Value.int .i64 d.e) from K8.out.cell 0); have y1 := (show _ = some (Value.string ⟨d.r.toArray⟩) from K8.out.cell 1); have y2 := (show _ = some (Value.string ⟨d.c.toArray⟩) from K8.out.cell 2)
    have hss : (s != s) = false := by simp
    have hse : (s == []) = true := by simp [hs0]
    clear hs0
    go_wp2_with fail
    refine (sPackWrite_any k d w8 (by have := HKL5.out; omega) (by have := HKE.out; omega) (by have := HKR.out; omega) (by have := HKC.out; omega)).mono ?_; rintro e w9 ⟨rfl, b9⟩
    rw [← HSW.out]
    have B9 := Lib.hid (below_then B8.out b9)
    clear b9 hse
    go_wp2
    go_ret
    exact ⟨rfl, B9.out⟩
  · have HIS := Lib.hid (show isPack k s d by rw [HSW.out] at hs0 ⊢; exact written_is hs0)
    have hlong := is_long HIS.out
    have hss : (s != s) = false := by simp
    have hse : (s == []) = false := by simpa using hs0
    have hsl := HSL.out
    clear hs0 K8
    have hrem : ∃ at_ : Nat, at_ = n2 % s.length := ⟨_, rfl⟩
    obtain ⟨at_, hat⟩ := hrem
    have hatl : at_ < s.length := by rw [hat]; exact Nat.mod_lt _ (by omega)
    have hs0i : ¬ ((s.length : Int) = 0) := by omega
    have hati : (n2 : Int) % (s.length : Int) = (at_ : Int) := by rw [hat]; omega
    clear hat
    go_upto_region 8 with (fail)
    rw [hati]
    clear hati
    go_upto_region 9 with (fail)
    by_cases hn0 : 0 < n2
    · obtain ⟨fb, fo, x, rfl, hfb, hfc⟩ := first_of HA2.out HB2.out hn0
      have y9 := (B8.out.cell (p := ⟨fb, fo, none⟩) hfb).trans hfc
      have hn0i : (0 : Int) < n2 := by omega
      by_cases hx0 : x = 0
      · subst hx0
        have hx0 : (1 : UInt8) ≠ 0 := by decide
        rw [show (((0 : UInt8).toNat : Nat) : Int) = 0 from rfl] at y9
        obtain ⟨x, hx1⟩ : ∃ x : UInt8, x = 1 := ⟨_, rfl⟩
        rw [← hx1] at hx0
        have HX1 := Lib.hid hx1
        clear hx1
        go_upto_region 11 with (fail)
        clear y9
        obtain ⟨c, hc⟩ : ∃ c, s[at_]? = some c := ⟨_, List.getElem?_eq_getElem hatl⟩
        obtain ⟨z, hz⟩ : ∃ z, z = c ^^^ x := ⟨_, rfl⟩
        have HZN := Lib.hid (show s[at_]? ≠ some z by rw [hc, hz]; intro e; exact xor_ne hx0 (Option.some.inj e).symm)
        have hxr : bits .xor .u8 (c.toNat : Int) 1 = (z.toNat : Int) := by rw [hz]; rw [show (1 : Int) = (x.toNat : Int) from by rw [HX1.out]; rfl]; exact xor8 c x
        obtain ⟨C, wb, hconv, hC1, hC2, hby, hbb⟩ := conv_bys w8 s (by omega)
        unfold maxLen at hC2
        obtain ⟨b, hb⟩ : ∃ b, b = w8.heap.size := ⟨_, rfl⟩
        rw [← hb] at hby hconv
        have hbl : b < wb.heap.size := hby.lt
        have y0 := hby.cell hc; have yf := hby.frozen hatl
        obtain ⟨t, ht⟩ : ∃ t, t = s.set at_ z := ⟨_, rfl⟩
        have htl : t.length = s.length := by rw [ht]; exact List.length_set
        obtain ⟨W12, hW12⟩ : ∃ W, W = wb.setCell ⟨b, at_, none⟩ (.int .u8 z.toNat) := ⟨_, rfl⟩
        have BY12 := Lib.hid (show Bys W12 b t by rw [hW12, ht]; exact hby.set z)
        have B12 := Lib.hid (show Below w.heap.size w W12 by rw [hW12]; exact (below_then B8.out hbb).setCell (p := ⟨b, at_, none⟩) (by rw [hb]; exact B8.out.size) _)
        have HW12 := Lib.hid hW12; have HTT := Lib.hid ht
        have hcap : (s.length : Int) ≤ C := by omega
        have hati2 : (at_ : Int) < s.length := by omega
        clear hW12 ht hz hbb hby B8 hb
        go_upto_region 13 with (fail)
        rw [← HW12.out]
        clear HW12 y0 yf hconv hxr hc
        have hback := BY12.out.back (c := C)
        rw [htl] at hback
        obtain ⟨p, ok, hyes, hno, hone⟩ := pack_two k t
        have HY := Lib.hid hyes; have HO := Lib.hid hone
        clear hyes hno hone
        go_wp2_with fail
        refine (PackRead_any k t W12 (HP.out.below B12.out) (HK.out.below B12.out (Nat.le_refl _)) (HE.out.below B12.out) (by have := HKL5.out; omega) (by omega)).mono ?_; intro e w13 hp13
        obtain ⟨rfl, b13⟩ := HO.out _ _ _ hp13
        obtain ⟨W13, hW13⟩ : ∃ X, X = w13.alloc (.cells #[.int .i64 p.e, .string ⟨p.r.toArray⟩, .string ⟨p.c.toArray⟩] TPackS) := ⟨_, rfl⟩
        have BA13 := below_then B12.out b13
        have B13 := Lib.hid (show Below w.heap.size w W13 by rw [hW13]; exact BA13.alloc BA13.size _)
        have BY13 := Lib.hid (show Bys W13 b t by rw [hW13]; exact (BY12.out.below b13 BY12.out.lt).below (B := w13.heap.size) (by go_grown) ((BY12.out.below b13 BY12.out.lt).lt))
        have HW13 := Lib.hid hW13
        clear hW13 hp13 b13 BA13 hback BY12 B12
        go_upto_region 14 with (fail)
        rw [← HW13.out]
        clear HW13
        cases ok with
        | false =>
          go_wp2
          go_ret
          exact ⟨rfl, B13.out⟩
        | true =>
          obtain ⟨hbl1, hbl2⟩ := byte_law HIS.out hatl HZN.out HTT.out (HY.out rfl)
          obtain ⟨m, hm⟩ : ∃ m, m = s.length - 69 := ⟨_, rfl⟩
          have hml : m ≤ s.length := by omega
          have hmi : (s.length : Int) - 69 = (m : Int) := by omega
          have hnge : ¬ ((m : Int) ≤ (at_ : Int)) := by omega
          have hml' : (m : Int) ≤ s.length := by omega
          have hmc : (m : Int) ≤ C := by omega
          have HMM : Hid (macT k (s.take m) = macT k (t.take m)) := Lib.hid (by rw [hm]; exact hbl2)
          have hext : (⟨s.toArray⟩ : ByteArray).extract 0 m = ⟨(s.take m).toArray⟩ := by rw [Lib.extract_eq]; simp
          have hbW : b < W13.heap.size := BY13.out.lt
          clear hm hbl1 hbl2
          go_wp2_with fail
          refine wp_region_fixed (fun w' => Below W13.heap.size W13 w') (by kernel_rfl) (by kernel_rfl) (Below.refl _ _).drew ?_
          iterate 7
            apply wpFx_step
            case h =>
              intro wf hw
              have H9 := Lib.hid hw
              clear hw
              go_wp2_with (go_at_call 9; refine (sHashMac_any k (s.take m) _ (by have := HKL5.out; omega) (by simp; omega)).mono ?_; rintro e w4 ⟨rfl, hbb⟩; replace H9 := Lib.hid (below_then H9.out hbb); clear hbb)
              exact ⟨rfl, rfl, H9.out⟩
          iterate 10
            apply wpFx_step
            case h =>
              intro wf hw
              have H9 := Lib.hid hw
              have hback := (Bys.take_ (BY13.out.below hw hbW) m).back (c := C)
              rw [show (t.take m).length = m by simp; omega] at hback
              clear hw
              go_wp2_with (go_at_call 9; refine (sHashMac_any k (t.take m) _ (by have := HKL5.out; omega) (by simp; omega)).mono ?_; rintro e w4 ⟨rfl, hbb⟩; rw [← HMM.out]; replace H9 := Lib.hid (below_then H9.out hbb); clear hbb)
              exact ⟨rfl, rfl, H9.out⟩
          refine wpFx_end (fun w9' hw => ?_)
          have BX := Lib.hid (B13.out.trans (hw.mono B13.out.size))
          clear hw
          go_wp2
          go_ret
          exact ⟨rfl, BX.out⟩
      · have hxd : ((x.toNat : Int) != 0) = true := by
          simp only [bne_iff_ne, ne_eq]
          intro e
          exact hx0 (UInt8.toNat_inj.1 (by simpa using e))
        go_upto_region 11 with (fail)
        clear y9 hxd
        obtain ⟨c, hc⟩ : ∃ c, s[at_]? = some c := ⟨_, List.getElem?_eq_getElem hatl⟩
        obtain ⟨z, hz⟩ : ∃ z, z = c ^^^ x := ⟨_, rfl⟩
        have HZN := Lib.hid (show s[at_]? ≠ some z by rw [hc, hz]; intro e; exact xor_ne hx0 (Option.some.inj e).symm)
        have hxr : bits .xor .u8 (c.toNat : Int) (x.toNat : Int) = (z.toNat : Int) := by rw [hz]; exact xor8 c x
        obtain ⟨C, wb, hconv, hC1, hC2, hby, hbb⟩ := conv_bys w8 s (by omega)
        unfold maxLen at hC2
        obtain ⟨b, hb⟩ : ∃ b, b = w8.heap.size := ⟨_, rfl⟩
        rw [← hb] at hby hconv
        have hbl : b < wb.heap.size := hby.lt
        have y0 := hby.cell hc; have yf := hby.frozen hatl
        obtain ⟨t, ht⟩ : ∃ t, t = s.set at_ z := ⟨_, rfl⟩
        have htl : t.length = s.length := by rw [ht]; exact List.length_set
        obtain ⟨W12, hW12⟩ : ∃ W, W = wb.setCell ⟨b, at_, none⟩ (.int .u8 z.toNat) := ⟨_, rfl⟩
        have BY12 := Lib.hid (show Bys W12 b t by rw [hW12, ht]; exact hby.set z)
        have B12 := Lib.hid (show Below w.heap.size w W12 by rw [hW12]; exact (below_then B8.out hbb).setCell (p := ⟨b, at_, none⟩) (by rw [hb]; exact B8.out.size) _)
        have HW12 := Lib.hid hW12; have HTT := Lib.hid ht
        have hcap : (s.length : Int) ≤ C := by omega
        have hati2 : (at_ : Int) < s.length := by omega
        clear hW12 ht hz hbb hby B8 hb
        go_upto_region 13 with (fail)
        rw [← HW12.out]
        clear HW12 y0 yf hconv hxr hc
        have hback := BY12.out.back (c := C)
        rw [htl] at hback
        obtain ⟨p, ok, hyes, hno, hone⟩ := pack_two k t
        have HY := Lib.hid hyes; have HO := Lib.hid hone
        clear hyes hno hone
        go_wp2_with fail
        refine (PackRead_any k t W12 (HP.out.below B12.out) (HK.out.below B12.out (Nat.le_refl _)) (HE.out.below B12.out) (by have := HKL5.out; omega) (by omega)).mono ?_; intro e w13 hp13
        obtain ⟨rfl, b13⟩ := HO.out _ _ _ hp13
        obtain ⟨W13, hW13⟩ : ∃ X, X = w13.alloc (.cells #[.int .i64 p.e, .string ⟨p.r.toArray⟩, .string ⟨p.c.toArray⟩] TPackS) := ⟨_, rfl⟩
        have BA13 := below_then B12.out b13
        have B13 := Lib.hid (show Below w.heap.size w W13 by rw [hW13]; exact BA13.alloc BA13.size _)
        have BY13 := Lib.hid (show Bys W13 b t by rw [hW13]; exact (BY12.out.below b13 BY12.out.lt).below (B := w13.heap.size) (by go_grown) ((BY12.out.below b13 BY12.out.lt).lt))
        have HW13 := Lib.hid hW13
        clear hW13 hp13 b13 BA13 hback BY12 B12
        go_upto_region 14 with (fail)
        rw [← HW13.out]
        clear HW13
        cases ok with
        | false =>
          go_wp2
          go_ret
          exact ⟨rfl, B13.out⟩
        | true =>
          obtain ⟨hbl1, hbl2⟩ := byte_law HIS.out hatl HZN.out HTT.out (HY.out rfl)
          obtain ⟨m, hm⟩ : ∃ m, m = s.length - 69 := ⟨_, rfl⟩
          have hml : m ≤ s.length := by omega
          have hmi : (s.length : Int) - 69 = (m : Int) := by omega
          have hnge : ¬ ((m : Int) ≤ (at_ : Int)) := by omega
          have hml' : (m : Int) ≤ s.length := by omega
          have hmc : (m : Int) ≤ C := by omega
          have HMM : Hid (macT k (s.take m) = macT k (t.take m)) := Lib.hid (by rw [hm]; exact hbl2)
          have hext : (⟨s.toArray⟩ : ByteArray).extract 0 m = ⟨(s.take m).toArray⟩ := by rw [Lib.extract_eq]; simp
          have hbW : b < W13.heap.size := BY13.out.lt
          clear hm hbl1 hbl2
          go_wp2_with fail
          refine wp_region_fixed (fun w' => Below W13.heap.size W13 w') (by kernel_rfl) (by kernel_rfl) (Below.refl _ _).drew ?_
          iterate 7
            apply wpFx_step
            case h =>
              intro wf hw
              have H9 := Lib.hid hw
              clear hw
              go_wp2_with (go_at_call 9; refine (sHashMac_any k (s.take m) _ (by have := HKL5.out; omega) (by simp; omega)).mono ?_; rintro e w4 ⟨rfl, hbb⟩; replace H9 := Lib.hid (below_then H9.out hbb); clear hbb)
              exact ⟨rfl, rfl, H9.out⟩
          iterate 10
            apply wpFx_step
            case h =>
              intro wf hw
              have H9 := Lib.hid hw
              have hback := (Bys.take_ (BY13.out.below hw hbW) m).back (c := C)
              rw [show (t.take m).length = m by simp; omega] at hback
              clear hw
              go_wp2_with (go_at_call 9; refine (sHashMac_any k (t.take m) _ (by have := HKL5.out; omega) (by simp; omega)).mono ?_; rintro e w4 ⟨rfl, hbb⟩; rw [← HMM.out]; replace H9 := Lib.hid (below_then H9.out hbb); clear hbb)
              exact ⟨rfl, rfl, H9.out⟩
          refine wpFx_end (fun w9' hw => ?_)
          have BX := Lib.hid (B13.out.trans (hw.mono B13.out.size))
          clear hw
          go_wp2
          go_ret
          exact ⟨rfl, BX.out⟩
    · have hn0i : ¬ (0 : Int) < n2 := by omega
      have hx0 : (1 : UInt8) ≠ 0 := by decide
      obtain ⟨x, hx1⟩ : ∃ x : UInt8, x = 1 := ⟨_, rfl⟩
      rw [← hx1] at hx0
      have HX1 := Lib.hid hx1
      clear hx1
      go_upto_region 11 with (fail)
      obtain ⟨c, hc⟩ : ∃ c, s[at_]? = some c := ⟨_, List.getElem?_eq_getElem hatl⟩
      obtain ⟨z, hz⟩ : ∃ z, z = c ^^^ x := ⟨_, rfl⟩
      have HZN := Lib.hid (show s[at_]? ≠ some z by rw [hc, hz]; intro e; exact xor_ne hx0 (Option.some.inj e).symm)
      have hxr : bits .xor .u8 (c.toNat : Int) 1 = (z.toNat : Int) := by rw [hz]; rw [show (1 : Int) = (x.toNat : Int) from by rw [HX1.out]; rfl]; exact xor8 c x
      obtain ⟨C, wb, hconv, hC1, hC2, hby, hbb⟩ := conv_bys w8 s (by omega)
      unfold maxLen at hC2
      obtain ⟨b, hb⟩ : ∃ b, b = w8.heap.size := ⟨_, rfl⟩
      rw [← hb] at hby hconv
      have hbl : b < wb.heap.size := hby.lt
      have y0 := hby.cell hc; have yf := hby.frozen hatl
      obtain ⟨t, ht⟩ : ∃ t, t = s.set at_ z := ⟨_, rfl⟩
      have htl : t.length = s.length := by rw [ht]; exact List.length_set
      obtain ⟨W12, hW12⟩ : ∃ W, W = wb.setCell ⟨b, at_, none⟩ (.int .u8 z.toNat) := ⟨_, rfl⟩
      have BY12 := Lib.hid (show Bys W12 b t by rw [hW12, ht]; exact hby.set z)
      have B12 := Lib.hid (show Below w.heap.size w W12 by rw [hW12]; exact (below_then B8.out hbb).setCell (p := ⟨b, at_, none⟩) (by rw [hb]; exact B8.out.size) _)
      have HW12 := Lib.hid hW12; have HTT := Lib.hid ht
      have hcap : (s.length : Int) ≤ C := by omega
      have hati2 : (at_ : Int) < s.length := by omega
      clear hW12 ht hz hbb hby B8 hb
      go_upto_region 13 with (fail)
      rw [← HW12.out]
      clear HW12 y0 yf hconv hxr hc
      have hback := BY12.out.back (c := C)
      rw [htl] at hback
      obtain ⟨p, ok, hyes, hno, hone⟩ := pack_two k t
      have HY := Lib.hid hyes; have HO := Lib.hid hone
      clear hyes hno hone
      go_wp2_with fail
      refine (PackRead_any k t W12 (HP.out.below B12.out) (HK.out.below B12.out (Nat.le_refl _)) (HE.out.below B12.out) (by have := HKL5.out; omega) (by omega)).mono ?_; intro e w13 hp13
      obtain ⟨rfl, b13⟩ := HO.out _ _ _ hp13
      obtain ⟨W13, hW13⟩ : ∃ X, X = w13.alloc (.cells #[.int .i64 p.e, .string ⟨p.r.toArray⟩, .string ⟨p.c.toArray⟩] TPackS) := ⟨_, rfl⟩
      have BA13 := below_then B12.out b13
      have B13 := Lib.hid (show Below w.heap.size w W13 by rw [hW13]; exact BA13.alloc BA13.size _)
      have BY13 := Lib.hid (show Bys W13 b t by rw [hW13]; exact (BY12.out.below b13 BY12.out.lt).below (B := w13.heap.size) (by go_grown) ((BY12.out.below b13 BY12.out.lt).lt))
      have HW13 := Lib.hid hW13
      clear hW13 hp13 b13 BA13 hback BY12 B12
      go_upto_region 14 with (fail)
      rw [← HW13.out]
      clear HW13
      cases ok with
      | false =>
        go_wp2
        go_ret
        exact ⟨rfl, B13.out⟩
      | true =>
        obtain ⟨hbl1, hbl2⟩ := byte_law HIS.out hatl HZN.out HTT.out (HY.out rfl)
        obtain ⟨m, hm⟩ : ∃ m, m = s.length - 69 := ⟨_, rfl⟩
        have hml : m ≤ s.length := by omega
        have hmi : (s.length : Int) - 69 = (m : Int) := by omega
        have hnge : ¬ ((m : Int) ≤ (at_ : Int)) := by omega
        have hml' : (m : Int) ≤ s.length := by omega
        have hmc : (m : Int) ≤ C := by omega
        have HMM : Hid (macT k (s.take m) = macT k (t.take m)) := Lib.hid (by rw [hm]; exact hbl2)
        have hext : (⟨s.toArray⟩ : ByteArray).extract 0 m = ⟨(s.take m).toArray⟩ := by rw [Lib.extract_eq]; simp
        have hbW : b < W13.heap.size := BY13.out.lt
        clear hm hbl1 hbl2
        go_wp2_with fail
        refine wp_region_fixed (fun w' => Below W13.heap.size W13 w') (by kernel_rfl) (by kernel_rfl) (Below.refl _ _).drew ?_
        iterate 7
          apply wpFx_step
          case h =>
            intro wf hw
            have H9 := Lib.hid hw
            clear hw
            go_wp2_with (go_at_call 9; refine (sHashMac_any k (s.take m) _ (by have := HKL5.out; omega) (by simp; omega)).mono ?_; rintro e w4 ⟨rfl, hbb⟩; replace H9 := Lib.hid (below_then H9.out hbb); clear hbb)
            exact ⟨rfl, rfl, H9.out⟩
        iterate 10
          apply wpFx_step
          case h =>
            intro wf hw
            have H9 := Lib.hid hw
            have hback := (Bys.take_ (BY13.out.below hw hbW) m).back (c := C)
            rw [show (t.take m).length = m by simp; omega] at hback
            clear hw
            go_wp2_with (go_at_call 9; refine (sHashMac_any k (t.take m) _ (by have := HKL5.out; omega) (by simp; omega)).mono ?_; rintro e w4 ⟨rfl, hbb⟩; rw [← HMM.out]; replace H9 := Lib.hid (below_then H9.out hbb); clear hbb)
            exact ⟨rfl, rfl, H9.out⟩
        refine wpFx_end (fun w9' hw => ?_)
        have BX := Lib.hid (B13.out.trans (hw.mono B13.out.size))
        clear hw
        go_wp2
        go_ret
        exact ⟨rfl, BX.out⟩
end packByte
end Go.Proofs.YtcomdkmglihdbaaGreatDoor
