/- The reference's packs' texts: spec.PackWrite. -/
import Derived.Test.YtlodcjpoamaemaaDoorPackS3
namespace Go.Proofs.YtlodcjpoamaemaaDoor
open Go.RowKit
set_option linter.unusedSimpArgs false
set_option linter.unusedVariables false

theorem body_len (p : Pk) (h : p.whole) : p.body.length ≤ 8388608 := by
  obtain ⟨⟨e1, e2⟩, ⟨r1, _⟩, ⟨c1, _⟩⟩ := h
  have h1 := cnt10_le p.r
  have h2 := cnt10_le p.c
  have i1 := itoa_len p.e (by omega) (by omega)
  have i2 := itoa_len (cnt10 p.r : Nat) (by omega) (by omega)
  have i3 := itoa_len (cnt10 p.c : Nat) (by omega) (by omega)
  rw [← pack_head]
  simp only [List.length_append, List.length_cons, List.length_nil]
  omega

set_option maxRecDepth 100000 in
set_option maxHeartbeats 2000000 in
theorem sPackWrite_any (key : List UInt8) (p : Pk) (w : World) (hk : key.length ≤ 8388608) (he : -9223372036854775808 ≤ p.e ∧ p.e ≤ 9223372036854775807) (hr : p.r.length ≤ 4194304) (hc : p.c.length ≤ 4194304) :
    Calls Tryd.prog 11 #[.string ⟨key.toArray⟩, .agg #[.int .i64 p.e, .string ⟨p.r.toArray⟩, .string ⟨p.c.toArray⟩]] w fun e w' => e = .returned (.string ⟨(p.written key).toArray⟩) ∧ Below w.heap.size w w' := by
  obtain ⟨T, hT⟩ : ∃ T, T = p.written key := ⟨_, rfl⟩
  rw [← hT]
  have HTT := Lib.hid hT
  have HWH := Lib.hid (fun W => l7Whole_any p W hr hc); have HBD := Lib.hid (fun W => l7Body_any p W he hr hc)
  have HBL := Lib.hid (body_len p)
  obtain ⟨W1, hW1⟩ : ∃ W1, W1 = w.alloc (.cells #[.int .i64 p.e, .string ⟨p.r.toArray⟩, .string ⟨p.c.toArray⟩] 23) := ⟨_, rfl⟩
  have b1 : Below w.heap.size w W1 := by rw [hW1]; go_grown
  have B1 : Blk W1 w.heap.size 23 #[.int .i64 p.e, .string ⟨p.r.toArray⟩, .string ⟨p.c.toArray⟩] := by rw [hW1]; exact Blk.new _ _ _
  have HW1 := Lib.hid hW1; have HB := Lib.hid b1; have HBK := Lib.hid B1
  have hl1 : w.heap.size < W1.heap.size := B1.lt
  clear hT hW1 b1 B1 hr hc he
  by_cases hw : p.whole
  · have HV := Lib.hid (wholeB_yes hw); have HTX := Lib.hid (show T = p.body ++ [116, 97, 103, 32] ++ macT key p.body ++ [10] by rw [HTT.out, written_yes hw]; simp [Pk.text, Pk.tail])
    have HLB := Lib.hid (HBL.out hw)
    clear hw
    go_enter Tryd.func11, Tryd.ntmps11
    go_wp2_with fail
    rw [← HW1.out]
    refine (HWH.out _).mono ?_; rintro e w2 ⟨rfl, b2⟩
    rw [HV.out]
    have HB2 := Lib.hid (below_then HB.out b2); have HK2 := Lib.hid (HBK.out.below b2 hl1)
    have x0 := (show _ = some (Value.int .i64 p.e) from HK2.out.cell 0); have x1 := (show _ = some (Value.string ⟨p.r.toArray⟩) from HK2.out.cell 1); have x2 := (show _ = some (Value.string ⟨p.c.toArray⟩) from HK2.out.cell 2)
    clear b2
    go_wp2_with fail
    clear x0 x1 x2
    refine (HBD.out _).mono ?_; rintro e w3 ⟨rfl, b3⟩
    have HB3 := Lib.hid (below_then HB2.out b3)
    clear b3
    obtain ⟨bd, hbd⟩ : ∃ bd, bd = p.body := ⟨_, rfl⟩
    rw [← hbd] at HTX HLB ⊢
    have hbl := HLB.out
    have d1 : ¬ 9223372036854775807 < bd.length + 4 := by omega
    clear hbd hbl
    go_wp2_with fail
    refine (sHashMac_any key bd _ hk HLB.out).mono ?_; rintro e w4 ⟨rfl, b4⟩
    have HB4 := Lib.hid (below_then HB3.out b4)
    clear b4
    obtain ⟨mc, hmc⟩ : ∃ mc, mc = macT key bd := ⟨_, rfl⟩
    have hml := macT_len key bd
    rw [← hmc] at HTX hml ⊢
    have hbl := HLB.out
    have d2 : ¬ 9223372036854775807 < bd.length + 4 + mc.length := by omega
    have d3 : ¬ 9223372036854775807 < bd.length + 4 + mc.length + 1 := by omega
    clear hmc hml hbl
    go_wp2
    go_ret
    exact ⟨by rw [HTX.out]; congr 2 <;> (apply ByteArray.ext; simp), HB4.out⟩
  · have HV := Lib.hid (wholeB_no hw); have HTX := Lib.hid (show T = [] by rw [HTT.out, written_no hw])
    clear hw
    go_enter Tryd.func11, Tryd.ntmps11
    go_wp2_with fail
    rw [← HW1.out]
    refine (HWH.out _).mono ?_; rintro e w2 ⟨rfl, b2⟩
    rw [HV.out]
    have HB2 := Lib.hid (below_then HB.out b2)
    clear b2
    go_wp2
    go_ret
    exact ⟨by rw [HTX.out]; rfl, HB2.out⟩
end Go.Proofs.YtlodcjpoamaemaaDoor
