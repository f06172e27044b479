/- The program's packs' texts: PackWrite of a pack that is whole, over a contract of HashMac. -/
import Derived.Test.YtlodcjpoamaemaaDoorPackI
import Derived.Test.YtlodcjpoamaemaaDoorPackS4
import Derived.Test.YtlodcjpoamaemaaDoorLinesI
import Derived.Test.YtlodcjpoamaemaaDoorHashQ
namespace Go.Proofs.YtlodcjpoamaemaaDoor
open Go.RowKit
set_option linter.unusedSimpArgs false
set_option linter.unusedVariables false

/-- What HashMac is to do. -/
def MacC : Prop := ∀ (key text : List UInt8) (w : World), Kww w → key.length ≤ 8388608 → text.length ≤ 8388608 →
    Calls Tryd.prog 31 #[.string ⟨key.toArray⟩, .string ⟨text.toArray⟩] w fun e w' => e = .returned (.string ⟨(macT key text).toArray⟩) ∧ Below w.heap.size w w'
theorem mac_eq (hmac : MacC) (key : List UInt8) (s : ByteArray) (l : List UInt8) (w : World) (hkw : Kww w) (hk : key.length ≤ 8388608) (hl : l.length ≤ 8388608) (h : s = ⟨l.toArray⟩) :
    Calls Tryd.prog 31 #[.string ⟨key.toArray⟩, .string s] w fun e w' => e = .returned (.string ⟨(macT key l).toArray⟩) ∧ Below w.heap.size w w' := by
  rw [h]; exact hmac key l w hkw hk hl
theorem wholeTB_yes {most : Nat} {l : List UInt8} (h : wholeT most l) : wholeTB most l = true := wholeTB_iff.2 h

set_option maxRecDepth 100000 in
set_option maxHeartbeats 4000000 in
theorem PackWrite_yes (hmac : MacC) (key : List UInt8) (p : Pk) (w : World) (hpw : Pow w) (hkw : Kww w) (hk : key.length ≤ 8388608) (hw : p.whole) :
    Calls Tryd.prog 18 #[.string ⟨key.toArray⟩, .agg #[.int .i64 p.e, .string ⟨p.r.toArray⟩, .string ⟨p.c.toArray⟩]] w fun e w' => e = .returned (.string ⟨(p.text key).toArray⟩) ∧ Below w.heap.size w w' := by
  have HLB := Lib.hid (body_len p hw)
  obtain ⟨TT, hTT⟩ : ∃ T, T = p.text key := ⟨_, rfl⟩
  rw [← hTT]
  have HTT := Lib.hid (show TT = [112, 97, 99, 107, 32] ++ Lib.itoa p.e ++ [32] ++ Lib.itoa (cnt10 p.r) ++ [32] ++ Lib.itoa (cnt10 p.c) ++ [10] ++ p.r ++ p.c ++ [116, 97, 103, 32] ++ macT key p.body ++ [10] by rw [hTT, pack_head]; simp [Pk.text, Pk.tail])
  have HBD := Lib.hid (pack_head p)
  obtain ⟨⟨e1, e2⟩, ⟨r1, r2⟩, ⟨c1, c2⟩⟩ := hw
  have HR := Lib.hid (wholeTB_yes ⟨r1, r2⟩); have HC := Lib.hid (wholeTB_yes ⟨c1, c2⟩)
  obtain ⟨BD, hBD⟩ : ∃ BD, BD = p.body := ⟨_, rfl⟩
  rw [← hBD] at HTT HLB HBD
  obtain ⟨e, r, c⟩ := p
  simp only at e1 e2 r1 r2 c1 c2 HR HC HTT HBD ⊢
  have h1 := cnt10_le r
  have h2 := cnt10_le c
  have hn0 : (Lib.countByte r 10) = cnt10 r := rfl
  have hm0 : (Lib.countByte c 10) = cnt10 c := rfl
  have HCN := Lib.hid (fun W => Go.Proofs.Tryd.strings_Count_one ⟨r.toArray⟩ 10 W); have HCM := Lib.hid (fun W => Go.Proofs.Tryd.strings_Count_one ⟨c.toArray⟩ 10 W)
  rw [bstr, hn0] at HCN
  rw [bstr, hm0] at HCM
  obtain ⟨n, hn⟩ : ∃ n, n = cnt10 r := ⟨_, rfl⟩
  obtain ⟨m, hm⟩ : ∃ m, m = cnt10 c := ⟨_, rfl⟩
  rw [← hn] at HCN h1 HTT HBD
  rw [← hm] at HCM h2 HTT HBD
  have i1 := itoa_len e (by omega) (by omega)
  have i2 := itoa_len n (by omega) (by omega)
  have i3 := itoa_len m (by omega) (by omega)
  have HD1 := Lib.hid (fun w hp => itoa_any e w hp (by omega) (by omega)); have HD2 := Lib.hid (fun w hp => itoa_any (n : Int) w hp (by omega) (by omega)); have HD3 := Lib.hid (fun w hp => itoa_any (m : Int) w hp (by omega) (by omega))
  obtain ⟨E, hE⟩ : ∃ E, E = Lib.itoa e := ⟨_, rfl⟩
  obtain ⟨F, hF⟩ : ∃ F, F = Lib.itoa (n : Int) := ⟨_, rfl⟩
  obtain ⟨G, hG⟩ : ∃ G, G = Lib.itoa (m : Int) := ⟨_, rfl⟩
  rw [← hE] at HD1 i1 HTT HBD
  rw [← hF] at HD2 i2 HTT HBD
  rw [← hG] at HD3 i3 HTT HBD
  have d1 : ¬ 9223372036854775807 < 5 + E.length := by omega
  have d2 : ¬ 9223372036854775807 < 5 + E.length + 1 := by omega
  have d3 : ¬ 9223372036854775807 < 5 + E.length + 1 + F.length := by omega
  have d4 : ¬ 9223372036854775807 < 5 + E.length + 1 + F.length + 1 := by omega
  have d5 : ¬ 9223372036854775807 < 5 + E.length + 1 + F.length + 1 + G.length := by omega
  have d6 : ¬ 9223372036854775807 < 5 + E.length + 1 + F.length + 1 + G.length + 1 := by omega
  have d7 : ¬ 9223372036854775807 < 5 + E.length + 1 + F.length + 1 + G.length + 1 + r.length := by omega
  have d8 : ¬ 9223372036854775807 < 5 + E.length + 1 + F.length + 1 + G.length + 1 + r.length + c.length := by omega
  have d9 : ¬ 9223372036854775807 < 5 + E.length + 1 + F.length + 1 + G.length + 1 + r.length + c.length + 4 := by omega
  have d10 : ¬ 9223372036854775807 < 5 + E.length + 1 + F.length + 1 + G.length + 1 + r.length + c.length + 4 + (macT key BD).length := by rw [macT_len]; omega
  have d11 : ¬ 9223372036854775807 < 5 + E.length + 1 + F.length + 1 + G.length + 1 + r.length + c.length + 4 + (macT key BD).length + 1 := by rw [macT_len]; omega
  have l1 : ¬ e < 1 := by omega
  have l2 : ¬ (99 : Int) < e := by omega
  have HRM := Lib.hid (fun W => packLines_any r 900 W (by omega)); have HCM2 := Lib.hid (fun W => packLines_any c 2600 W (by omega))
  obtain ⟨W1, hW1⟩ : ∃ W1, W1 = w.alloc (.cells #[.int .i64 e, .string ⟨r.toArray⟩, .string ⟨c.toArray⟩] 23) := ⟨_, rfl⟩
  have b1 : Below w.heap.size w W1 := by rw [hW1]; go_grown
  have B1 : Blk W1 w.heap.size 23 #[.int .i64 e, .string ⟨r.toArray⟩, .string ⟨c.toArray⟩] := by rw [hW1]; exact Blk.new _ _ _
  have hl1 : w.heap.size < W1.heap.size := B1.lt
  have HW1 := Lib.hid hW1; have HB := Lib.hid b1; have HBK := Lib.hid B1; have HPW := Lib.hid (hpw.below b1); have HKW := Lib.hid (hkw.below b1 (Nat.le_refl _))
  have y0 := (show _ = some (Value.int .i64 e) from B1.cell 0); have y1 := (show _ = some (Value.string ⟨r.toArray⟩) from B1.cell 1); have y2 := (show _ = some (Value.string ⟨c.toArray⟩) from B1.cell 2)
  clear hn hm hE hF hG hW1 b1 B1 i1 i2 i3 h1 h2 e1 e2 r1 r2 c1 c2 hn0 hm0 hBD hTT hpw hkw
  go_enter Tryd.func18, Tryd.ntmps18
  go_wp2_with fail
  rw [← HW1.out]
  refine (HRM.out _).mono ?_; rintro e4 w4 ⟨rfl, rfl⟩
  rw [HR.out]
  go_wp2_with fail
  refine (HCM2.out _).mono ?_; rintro e4 w4 ⟨rfl, rfl⟩
  rw [HC.out]
  go_wp2_with fail
  clear y0 y1 y2
  refine wp_region_fixed (fun w' => Below w4.heap.size w4 w') (by kernel_rfl) (by kernel_rfl) (Below.refl _ _).drew ?_
  iterate 3
    apply wpFx_step
    case h =>
      intro w9 hw
      have H9 := Lib.hid hw
      have K1 := HBK.out.below hw hl1
      have x0 := (show _ = some (Value.int .i64 e) from K1.cell 0); have x1 := (show _ = some (Value.string ⟨r.toArray⟩) from K1.cell 1); have x2 := (show _ = some (Value.string ⟨c.toArray⟩) from K1.cell 2)
      clear hw K1
      go_wp2_with ((go_at_call 29; refine (HD1.out _ (HPW.out.below H9.out)).mono ?_; rintro e w4 ⟨rfl, hbb⟩; replace H9 := Lib.hid (below_then H9.out hbb); clear hbb))
      exact ⟨rfl, rfl, H9.out⟩
  iterate 6
    apply wpFx_step
    case h =>
      intro w9 hw
      have H9 := Lib.hid hw
      have K1 := HBK.out.below hw hl1
      have x0 := (show _ = some (Value.int .i64 e) from K1.cell 0); have x1 := (show _ = some (Value.string ⟨r.toArray⟩) from K1.cell 1); have x2 := (show _ = some (Value.string ⟨c.toArray⟩) from K1.cell 2)
      clear hw K1
      go_wp2_with (first | (go_at_call 30; refine (HCN.out _).mono ?_; rintro e w4 ⟨rfl, rfl⟩) | (go_at_call 29; refine (HD2.out _ (HPW.out.below H9.out)).mono ?_; rintro e w4 ⟨rfl, hbb⟩; replace H9 := Lib.hid (below_then H9.out hbb); clear hbb))
      exact ⟨rfl, rfl, H9.out⟩
  iterate 6
    apply wpFx_step
    case h =>
      intro w9 hw
      have H9 := Lib.hid hw
      have K1 := HBK.out.below hw hl1
      have x0 := (show _ = some (Value.int .i64 e) from K1.cell 0); have x1 := (show _ = some (Value.string ⟨r.toArray⟩) from K1.cell 1); have x2 := (show _ = some (Value.string ⟨c.toArray⟩) from K1.cell 2)
      clear hw K1
      go_wp2_with (first | (go_at_call 30; refine (HCM.out _).mono ?_; rintro e w4 ⟨rfl, rfl⟩) | (go_at_call 29; refine (HD3.out _ (HPW.out.below H9.out)).mono ?_; rintro e w4 ⟨rfl, hbb⟩; replace H9 := Lib.hid (below_then H9.out hbb); clear hbb))
      exact ⟨rfl, rfl, H9.out⟩
  iterate 3
    apply wpFx_step
    case h =>
      intro w9 hw
      have H9 := Lib.hid hw
      have K1 := HBK.out.below hw hl1
      have x0 := (show _ = some (Value.int .i64 e) from K1.cell 0); have x1 := (show _ = some (Value.string ⟨r.toArray⟩) from K1.cell 1); have x2 := (show _ = some (Value.string ⟨c.toArray⟩) from K1.cell 2)
      clear hw K1
      go_wp2_with (fail)
      exact ⟨rfl, rfl, H9.out⟩
  refine wpFx_end (fun w9 hw => ?_)
  have HB9 := Lib.hid (below_then HB.out hw); have HK9 := Lib.hid (HKW.out.below hw (Nat.le_refl _))
  have K1 := HBK.out.below hw hl1
  have x0 := (show _ = some (Value.int .i64 e) from K1.cell 0); have x1 := (show _ = some (Value.string ⟨r.toArray⟩) from K1.cell 1); have x2 := (show _ = some (Value.string ⟨c.toArray⟩) from K1.cell 2)
  clear hw K1
  go_wp2_with fail
  refine (mac_eq hmac key _ BD _ HK9.out hk HLB.out (by rw [← HBD.out]; apply ByteArray.ext; simp)).mono ?_; rintro e4 w10 ⟨rfl, b10⟩
  have HB10 := Lib.hid (below_then HB9.out b10)
  clear b10 x0 x1 x2
  go_wp2
  go_ret
  exact ⟨by rw [HTT.out]; congr 2 <;> (apply ByteArray.ext; simp), HB10.out⟩
end Go.Proofs.YtlodcjpoamaemaaDoor
