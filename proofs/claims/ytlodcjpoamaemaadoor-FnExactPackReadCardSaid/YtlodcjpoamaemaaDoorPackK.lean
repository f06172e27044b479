/- The program's readPack: a pack whose text it is, or a fault. -/
import Derived.Test.YtlodcjpoamaemaaDoorPackJ
import Derived.Test.YtlodcjpoamaemaaDoorPackH
import Derived.Test.YtlodcjpoamaemaaDoorPackI4
namespace Go.Proofs.YtlodcjpoamaemaaDoor
open Go.RowKit
set_option linter.unusedSimpArgs false
set_option linter.unusedVariables false

def RdPackPost (key text : List UInt8) (w : World) (e : Ending) (w' : World) : Prop :=
  Below w.heap.size w w' ∧ ((∃ p : Pk, isPack key text p ∧ e = .returned (.tuple #[.agg #[.int .i64 p.e, .string ⟨p.r.toArray⟩, .string ⟨p.c.toArray⟩], .nilIface])) ∨
    ((¬ ∃ p : Pk, isPack key text p) ∧ ∃ a : Addr, e = .returned (.tuple #[.agg #[.int .i64 0, .string ⟨#[]⟩, .string ⟨#[]⟩], .iface 43 (.pointer (some a))])))
theorem split_len {text : List UInt8} {p : Pk} (h : SplitTo text p) : p.r.length ≤ text.length ∧ p.c.length ≤ text.length := by
  obtain ⟨A, B, C, D, E, F, n, m, f0, f1, f2, f3, f4, f5⟩ := h
  have a := numAt_len f1
  have b := numAt_len f2
  have c := numAt_len f3
  have d := f4.1
  have e := f5.1
  rw [f0]
  rw [d, e] at c
  simp only [List.length_append, List.length_cons, List.length_nil] at a b c ⊢
  omega
theorem PackWrite_any (key : List UInt8) (p : Pk) (w : World) (hpw : Pow w) (hkw : Kww w) (hk : key.length ≤ 8388608) (hr : p.r.length ≤ 4194304) (hc : p.c.length ≤ 4194304) :
    Calls Tryd.prog 18 #[.string ⟨key.toArray⟩, .agg #[.int .i64 p.e, .string ⟨p.r.toArray⟩, .string ⟨p.c.toArray⟩]] w fun e w' => e = .returned (.string ⟨(p.written key).toArray⟩) ∧ Below w.heap.size w w' := by
  by_cases h : p.whole
  · rw [written_yes h]; exact PackWrite_yes HashMac_any key p w hpw hkw hk h
  · rw [written_no h]; exact PackWrite_no key p w hr hc h

set_option maxHeartbeats 4000000 in
theorem readPack_any (key text : List UInt8) (w : World) (hpw : Pow w) (hkw : Kww w) (hk : key.length ≤ 1048576) (ht : text.length ≤ 1048576) :
    Calls Tryd.prog 12 #[.string ⟨key.toArray⟩, .string ⟨text.toArray⟩] w (RdPackPost key text w) := by
  obtain ⟨W1, hW1⟩ : ∃ W, W = w.alloc (.cells #[.int .i64 0, .string ⟨#[]⟩, .string ⟨#[]⟩] 23) := ⟨_, rfl⟩
  have B1 : Hid (Blk W1 w.heap.size 23 #[.int .i64 0, .string ⟨#[]⟩, .string ⟨#[]⟩]) := by rw [hW1]; exact Lib.hid (Blk.new _ _ _)
  have b1 : Hid (Below w.heap.size w W1) := by rw [hW1]; exact Lib.hid (by go_grown)
  have HW1 := Lib.hid hW1; have HPW := Lib.hid hpw; have HKW := Lib.hid hkw
  clear hW1 hpw hkw
  go_enter Tryd.func12, Tryd.ntmps12
  go_wp2_with fail
  rw [← HW1.out]
  refine (splitPack_any text _ ht).mono ?_
  rintro e w2 ⟨b2, hsp⟩
  have HB2 := Lib.hid (below_then b1.out b2); have HK2 := Lib.hid (B1.out.below b2 B1.out.lt)
  have hl2 : w.heap.size < w2.heap.size := HK2.out.lt
  clear b2 b1 B1 HW1
  rcases hsp with ⟨p, hsp, rfl⟩ | ⟨hno, a, rfl⟩
  · have hll := split_len hsp
    have HSP := Lib.hid hsp
    obtain ⟨W3, hW3⟩ : ∃ W, W = w2.alloc (.cells #[.int .i64 p.e, .string ⟨p.r.toArray⟩, .string ⟨p.c.toArray⟩] 23) := ⟨_, rfl⟩
    have B3 : Hid (Blk W3 w2.heap.size 23 #[.int .i64 p.e, .string ⟨p.r.toArray⟩, .string ⟨p.c.toArray⟩]) := by rw [hW3]; exact Lib.hid (Blk.new _ _ _)
    have HB3 := Lib.hid (show Below w.heap.size w W3 by rw [hW3]; exact HB2.out.alloc HB2.out.size _)
    have HK3 := Lib.hid (show Blk W3 w.heap.size 23 #[.int .i64 0, .string ⟨#[]⟩, .string ⟨#[]⟩] by rw [hW3]; exact HK2.out.alloc _)
    have HW3 := Lib.hid hW3
    have HLL := Lib.hid hll
    clear hsp hll hW3
    go_wp2_with fail
    rw [← HW3.out]
    refine (PackWrite_any key p _ (HPW.out.below HB3.out) (HKW.out.below HB3.out (Nat.le_refl _)) (by omega) (by have := HLL.out; omega) (by have := HLL.out; omega)).mono ?_; rintro e w4 ⟨rfl, b4⟩
    have HB4 := Lib.hid (below_then HB3.out b4); have HK4 := Lib.hid (HK3.out.below b4 HK3.out.lt); have HP4 := Lib.hid (B3.out.below b4 B3.out.lt)
    have hl4 : w.heap.size < w4.heap.size := HK4.out.lt
    have hne1 : ¬ w.heap.size = w2.heap.size := by omega
    have hne2 : ¬ w2.heap.size = w.heap.size := by omega
    obtain ⟨T, hT⟩ : ∃ T, T = p.written key := ⟨_, rfl⟩
    rw [← hT]
    have HTT := Lib.hid hT
    clear hT b4 HW3 HB3 HK3 B3
    have x0 := (show _ = some (Value.int .i64 0) from HK4.out.cell 0); have x1 := (show _ = some (Value.string ⟨#[]⟩) from HK4.out.cell 1); have x2 := (show _ = some (Value.string ⟨#[]⟩) from HK4.out.cell 2); have f0 := HK4.out.frozen 0; have f1 := HK4.out.frozen 1; have f2 := HK4.out.frozen 2
    by_cases hTe : T = text
    · have HIS := Lib.hid (isPack_of (by rw [← HTT.out]; exact hTe) (split_ne HSP.out) : isPack key text p)
      have t1 : (T == text) = true := by simpa using hTe
      have t2 : (T != text) = false := by simpa using hTe
      have y0 := (show _ = some (Value.int .i64 p.e) from HP4.out.cell 0); have y1 := (show _ = some (Value.string ⟨p.r.toArray⟩) from HP4.out.cell 1); have y2 := (show _ = some (Value.string ⟨p.c.toArray⟩) from HP4.out.cell 2)
      clear hTe
      go_wp2
      refine bodyPost_ret (v := .tuple #[.agg #[.int .i64 p.e, .string ⟨p.r.toArray⟩, .string ⟨p.c.toArray⟩], .nilIface]) (by simp [results, Tryd.results12, go_sem, x0, x1, x2, hne1, hne2]) rfl ⟨?_, .inl ⟨p, HIS.out, rfl⟩⟩
      exact (((HB4.out.setCell (p := ⟨w.heap.size, 0, none⟩) (Nat.le_refl _) _).setCell (p := ⟨w.heap.size, 1, none⟩) (Nat.le_refl _) _).setCell (p := ⟨w.heap.size, 2, none⟩) (Nat.le_refl _) _)
    · have HNO := Lib.hid (show ¬ ∃ p, isPack key text p from fun ⟨q, h⟩ => hTe (by
        have hq := h.split.unique HSP.out
        rw [HTT.out, ← hq, written_yes h.1]
        exact h.2.symm))
      have t1 : (T == text) = false := by simpa using hTe
      have t2 : (T != text) = true := by simpa using hTe
      clear hTe
      go_wp2
      refine bodyPost_ret (v := .tuple #[.agg #[.int .i64 0, .string ⟨#[]⟩, .string ⟨#[]⟩], .iface 43 (.pointer (some ⟨w4.heap.size, 0, none⟩))]) (by simp [results, Tryd.results12, go_sem, x0, x1, x2, hl4, hne1, hne2]) rfl ⟨?_, .inr ⟨HNO.out, _, rfl⟩⟩
      ((repeat' (first | exact HB4.out | (refine Below.setCell ?_ ?_ _) | (refine Below.alloc ?_ ?_ _))) <;> (first | exact Nat.le_refl _ | (have := HB4.out.size; simp; omega)))
  · have HNO := Lib.hid (show ¬ ∃ p, isPack key text p from fun ⟨p, h⟩ => hno ⟨p, h.split⟩)
    have x0 := (show _ = some (Value.int .i64 0) from HK2.out.cell 0); have x1 := (show _ = some (Value.string ⟨#[]⟩) from HK2.out.cell 1); have x2 := (show _ = some (Value.string ⟨#[]⟩) from HK2.out.cell 2); have f0 := HK2.out.frozen 0; have f1 := HK2.out.frozen 1; have f2 := HK2.out.frozen 2
    have hne1 : ¬ w.heap.size = w2.heap.size := by omega
    have hne2 : ¬ w2.heap.size = w.heap.size := by omega
    clear hno
    go_wp2
    refine bodyPost_ret (v := .tuple #[.agg #[.int .i64 0, .string ⟨#[]⟩, .string ⟨#[]⟩], .iface 43 (.pointer (some a))]) (by simp [results, Tryd.results12, go_sem, x0, x1, x2, hl2, hne1, hne2]) rfl ⟨?_, .inr ⟨HNO.out, _, rfl⟩⟩
    ((repeat' (first | exact HB2.out | (refine Below.setCell ?_ ?_ _) | (refine Below.alloc ?_ ?_ _))) <;> (first | exact Nat.le_refl _ | (have := HB2.out.size; simp; omega)))
end Go.Proofs.YtlodcjpoamaemaaDoor
