/- The program's PackRead: the pack whose text it is, or none. -/
import Derived.Test.YtcomdkmglihdbaaGreatDoorPackKA
import Derived.Test.YtcomdkmglihdbaaGreatDoorErrAs
import Derived.Test.YtcomdkmglihdbaaGreatDoorPackS5
import Derived.Deep.RegionHeld3
namespace Go.Proofs.YtcomdkmglihdbaaGreatDoor
open Go.RowKit
set_option linter.unusedSimpArgs false
set_option linter.unusedVariables false

/-- The variable errors.errorType holds what its initialiser lays. -/
def EtIs (w : World) : Prop := w.cell? ⟨1, 0, none⟩ = some (.iface 141 (.agg #[.pointer (some ⟨6, 45, none⟩)]))
theorem EtIs.lt {w : World} (h : EtIs w) : 1 < w.heap.size := by
  rcases Nat.lt_or_ge 1 w.heap.size with h0 | h0
  · exact h0
  · unfold EtIs at h; simp [World.cell?, Array.getElem?_eq_none h0] at h
theorem EtIs.below {w w' : World} (h : EtIs w) (hb : Below w.heap.size w w') : EtIs w' := (hb.cell (p := ⟨1, 0, none⟩) h.lt).trans h
theorem EtIs.below2 {w w' : World} {B : Nat} (h : EtIs w) (hb : Below B w w') (hB : w.heap.size ≤ B) : EtIs w' := (hb.cell (p := ⟨1, 0, none⟩) (Nat.lt_of_lt_of_le h.lt hB)).trans h

set_option maxHeartbeats 1000000 in
theorem packFaulty_nil (w : World) :
    Calls Tryz.prog 22 #[.nilIface] w fun e w' => e = .returned (.bool false) ∧ Below w.heap.size w w' := by
  go_enter Tryz.func22, Tryz.ntmps22
  go_wp2_with fail
  refine (as_nil _ _).mono ?_; rintro e w' ⟨rfl, rfl⟩
  go_wp2
  go_ret
  exact ⟨rfl, by go_grown⟩
set_option maxHeartbeats 1000000 in
theorem packFaulty_hit (a : Addr) (w : World) (he : EtIs w) :
    Calls Tryz.prog 22 #[.iface 68 (.pointer (some a))] w fun e w' => e = .returned (.bool true) ∧ Below w.heap.size w w' := by
  obtain ⟨W1, hW1⟩ : ∃ W, W = w.alloc (.cells #[.pointer none] 68) := ⟨_, rfl⟩
  have B1 : Hid (Blk W1 w.heap.size 68 #[.pointer none]) := by rw [hW1]; exact Lib.hid (Blk.new _ _ _)
  have b1 : Hid (Below w.heap.size w W1) := by rw [hW1]; exact Lib.hid (by go_grown)
  have HE := Lib.hid (he.below2 b1.out (Nat.le_refl _))
  have HW1 := Lib.hid hW1
  clear hW1 he
  go_enter Tryz.func22, Tryz.ntmps22
  go_wp2_with fail
  rw [← HW1.out]
  refine (as_hit a ⟨w.heap.size, 0, none⟩ (.pointer none) W1 HE.out (B1.out.cell 0) (B1.out.frozen 0)).mono ?_; rintro e w' ⟨rfl, hw'⟩
  have HB : Hid (Below w.heap.size w w') := by
    rw [hw']
    have hs := b1.out.size
    exact Lib.hid (((((b1.out.alloc hs _).alloc (by simp; omega) _).alloc (by simp; omega) _).alloc (by simp; omega) _).setCell (p := ⟨w.heap.size, 0, none⟩) (Nat.le_refl _) _)
  clear hw'
  go_wp2
  go_ret
  exact ⟨rfl, HB.out⟩

set_option maxHeartbeats 4000000 in
theorem PackRead_any (key text : List UInt8) (w : World) (hpw : Pow w) (hkw : Kww w) (het : EtIs w) (hk : key.length ≤ 1048576) (ht : text.length ≤ 1048576) :
    Calls Tryz.prog 8 #[.string ⟨key.toArray⟩, .string ⟨text.toArray⟩] w (PackPost key text w) := by
  obtain ⟨W1, hW1⟩ : ∃ W, W = w.alloc (.cells #[.int .i64 0, .string ⟨#[]⟩, .string ⟨#[]⟩] 24) := ⟨_, rfl⟩
  have B1 : Hid (Blk W1 w.heap.size 24 #[.int .i64 0, .string ⟨#[]⟩, .string ⟨#[]⟩]) := by rw [hW1]; exact Lib.hid (Blk.new _ _ _)
  have b1 : Hid (Below w.heap.size w W1) := by rw [hW1]; exact Lib.hid (by go_grown)
  have HW1 := Lib.hid hW1; have HPW := Lib.hid hpw; have HKW := Lib.hid hkw; have HET := Lib.hid het
  clear hW1 hpw hkw het
  go_enter Tryz.func8, Tryz.ntmps8
  go_wp2_with fail
  rw [← HW1.out]
  refine (readPack_any key text _ (HPW.out.below b1.out) (HKW.out.below b1.out (Nat.le_refl _)) hk ht).mono ?_
  rintro e w2 ⟨b2, hrp⟩
  have HB2 := Lib.hid (below_then b1.out b2); have HK2 := Lib.hid (B1.out.below b2 B1.out.lt)
  have HN2 := Lib.hid (show w.heap.size ≠ w2.heap.size by have := HK2.out.lt; omega)
  clear b2 b1 B1 HW1
  rcases hrp with ⟨p, hp, rfl⟩ | ⟨hno, a, rfl⟩
  · have HP := Lib.hid hp
    obtain ⟨W3, hW3⟩ : ∃ W, W = w2.alloc (.cells #[.int .i64 p.e, .string ⟨p.r.toArray⟩, .string ⟨p.c.toArray⟩] 24) := ⟨_, rfl⟩
    obtain ⟨g2, hg2⟩ : ∃ g, g = w2.heap.size := ⟨_, rfl⟩
    have B3 : Hid (Blk W3 g2 24 #[.int .i64 p.e, .string ⟨p.r.toArray⟩, .string ⟨p.c.toArray⟩]) := by rw [hW3, hg2]; exact Lib.hid (Blk.new _ _ _)
    have HB3 := Lib.hid (show Below w.heap.size w W3 by rw [hW3]; exact HB2.out.alloc HB2.out.size _)
    have HK3 := Lib.hid (show Blk W3 w.heap.size 24 #[.int .i64 0, .string ⟨#[]⟩, .string ⟨#[]⟩] by rw [hW3]; exact HK2.out.alloc _)
    have HW3 := Lib.hid hW3; have HG2 := Lib.hid hg2
    have hne : g2 ≠ w.heap.size := by have := HN2.out; omega
    have HNE := Lib.hid hne
    clear hp hW3 hg2 hne
    go_wp2_with fail
    rw [← HW3.out, ← HG2.out]
    have q0 := (show _ = some (Value.int .i64 p.e) from B3.out.cell 0); have q1 := (show _ = some (Value.string ⟨p.r.toArray⟩) from B3.out.cell 1); have q2 := (show _ = some (Value.string ⟨p.c.toArray⟩) from B3.out.cell 2)
    have x0 := (show _ = some (Value.int .i64 0) from HK3.out.cell 0); have x1 := (show _ = some (Value.string ⟨#[]⟩) from HK3.out.cell 1); have x2 := (show _ = some (Value.string ⟨#[]⟩) from HK3.out.cell 2); have f0 := HK3.out.frozen 0; have f1 := HK3.out.frozen 1; have f2 := HK3.out.frozen 2
    have hne := HNE.out
    go_region_held3 (fun w' => w'.cell? ⟨g2, 0, none⟩ = some (.int .i64 p.e) ∧ w'.cell? ⟨g2, 1, none⟩ = some (.string ⟨p.r.toArray⟩) ∧ w'.cell? ⟨g2, 2, none⟩ = some (.string ⟨p.c.toArray⟩)) (first | exact ⟨q0, q1, q2⟩ | exact ⟨r0, r1, r2⟩ | exact ⟨s0, s1, s2⟩ | go_keep) ((go_at_call 22; refine (packFaulty_nil _).mono ?_; rintro e9 w9 ⟨rfl, b9⟩; have H9 := Lib.hid (show Below W3.heap.size W3 w9 from below_then (Below.refl W3.heap.size W3).drew b9); have K9 := Lib.hid (HK3.out.below H9.out HK3.out.lt); have P9 := Lib.hid (B3.out.below H9.out B3.out.lt); clear b9; have r0 := (show _ = some (Value.int .i64 p.e) from P9.out.cell 0); have r1 := (show _ = some (Value.string ⟨p.r.toArray⟩) from P9.out.cell 1); have r2 := (show _ = some (Value.string ⟨p.c.toArray⟩) from P9.out.cell 2); have y0 := (show _ = some (Value.int .i64 0) from K9.out.cell 0); have y1 := (show _ = some (Value.string ⟨#[]⟩) from K9.out.cell 1); have y2 := (show _ = some (Value.string ⟨#[]⟩) from K9.out.cell 2); have k0 := K9.out.frozen 0; have k1 := K9.out.frozen 1; have k2 := K9.out.frozen 2; have P10 := Lib.hid (((P9.out.far (p := ⟨w.heap.size, 0, none⟩) HNE.out (.int .i64 p.e)).far (p := ⟨w.heap.size, 1, none⟩) HNE.out (.string ⟨p.r.toArray⟩)).far (p := ⟨w.heap.size, 2, none⟩) HNE.out (.string ⟨p.c.toArray⟩)); have s0 := (show _ = some (Value.int .i64 p.e) from P10.out.cell 0); have s1 := (show _ = some (Value.string ⟨p.r.toArray⟩) from P10.out.cell 1); have s2 := (show _ = some (Value.string ⟨p.c.toArray⟩) from P10.out.cell 2)))
    all_goals
      clear s0 s1 s2
      have HB9 := Lib.hid (below_then HB3.out H9.out)
      go_wp2
      refine bodyPost_ret (v := .tuple #[.agg #[.int .i64 p.e, .string ⟨p.r.toArray⟩, .string ⟨p.c.toArray⟩], .bool true]) (by simp [results, Tryz.results8, go_sem, y0, y1, y2]) rfl ⟨?_, .inl ⟨p, HP.out, rfl⟩⟩
      ((repeat' (first | exact HB9.out | (refine Below.setCell ?_ ?_ _) | (refine Below.alloc ?_ ?_ _) | (refine Below.drew ?_))) <;> (first | exact Nat.le_refl _ | (have := HB9.out.size; simp; omega)))
  · have HNO := Lib.hid hno
    obtain ⟨W3, hW3⟩ : ∃ W, W = w2.alloc (.cells #[.int .i64 0, .string ⟨#[]⟩, .string ⟨#[]⟩] 24) := ⟨_, rfl⟩
    obtain ⟨g2, hg2⟩ : ∃ g, g = w2.heap.size := ⟨_, rfl⟩
    have B3 : Hid (Blk W3 g2 24 #[.int .i64 0, .string ⟨#[]⟩, .string ⟨#[]⟩]) := by rw [hW3, hg2]; exact Lib.hid (Blk.new _ _ _)
    have HB3 := Lib.hid (show Below w.heap.size w W3 by rw [hW3]; exact HB2.out.alloc HB2.out.size _)
    have HK3 := Lib.hid (show Blk W3 w.heap.size 24 #[.int .i64 0, .string ⟨#[]⟩, .string ⟨#[]⟩] by rw [hW3]; exact HK2.out.alloc _)
    have HW3 := Lib.hid hW3; have HG2 := Lib.hid hg2
    have hne : g2 ≠ w.heap.size := by have := HN2.out; omega
    have HNE := Lib.hid hne
    clear hno hW3 hg2 hne
    go_wp2_with fail
    rw [← HW3.out, ← HG2.out]
    have q0 := (show _ = some (Value.int .i64 0) from B3.out.cell 0); have q1 := (show _ = some (Value.string ⟨#[]⟩) from B3.out.cell 1); have q2 := (show _ = some (Value.string ⟨#[]⟩) from B3.out.cell 2)
    have x0 := (show _ = some (Value.int .i64 0) from HK3.out.cell 0); have x1 := (show _ = some (Value.string ⟨#[]⟩) from HK3.out.cell 1); have x2 := (show _ = some (Value.string ⟨#[]⟩) from HK3.out.cell 2); have f0 := HK3.out.frozen 0; have f1 := HK3.out.frozen 1; have f2 := HK3.out.frozen 2
    have hne := HNE.out
    have HE3 := Lib.hid (HET.out.below2 HB3.out (Nat.le_refl _))
    go_region_held3 (fun w' => w'.cell? ⟨g2, 0, none⟩ = some (.int .i64 0) ∧ w'.cell? ⟨g2, 1, none⟩ = some (.string ⟨#[]⟩) ∧ w'.cell? ⟨g2, 2, none⟩ = some (.string ⟨#[]⟩)) (first | exact ⟨q0, q1, q2⟩ | exact ⟨r0, r1, r2⟩ | exact ⟨s0, s1, s2⟩ | go_keep) ((go_at_call 22; refine (packFaulty_hit a _ (by exact HE3.out)).mono ?_; rintro e9 w9 ⟨rfl, b9⟩; have H9 := Lib.hid (show Below W3.heap.size W3 w9 from below_then (Below.refl W3.heap.size W3).drew b9); have K9 := Lib.hid (HK3.out.below H9.out HK3.out.lt); have P9 := Lib.hid (B3.out.below H9.out B3.out.lt); clear b9; have r0 := (show _ = some (Value.int .i64 0) from P9.out.cell 0); have r1 := (show _ = some (Value.string ⟨#[]⟩) from P9.out.cell 1); have r2 := (show _ = some (Value.string ⟨#[]⟩) from P9.out.cell 2); have y0 := (show _ = some (Value.int .i64 0) from K9.out.cell 0); have y1 := (show _ = some (Value.string ⟨#[]⟩) from K9.out.cell 1); have y2 := (show _ = some (Value.string ⟨#[]⟩) from K9.out.cell 2); have k0 := K9.out.frozen 0; have k1 := K9.out.frozen 1; have k2 := K9.out.frozen 2; have P10 := Lib.hid (((P9.out.far (p := ⟨w.heap.size, 0, none⟩) HNE.out (.int .i64 0)).far (p := ⟨w.heap.size, 1, none⟩) HNE.out (.string ⟨#[]⟩)).far (p := ⟨w.heap.size, 2, none⟩) HNE.out (.string ⟨#[]⟩)); have s0 := (show _ = some (Value.int .i64 0) from P10.out.cell 0); have s1 := (show _ = some (Value.string ⟨#[]⟩) from P10.out.cell 1); have s2 := (show _ = some (Value.string ⟨#[]⟩) from P10.out.cell 2)))
    all_goals
      clear s0 s1 s2
      have HB9 := Lib.hid (below_then HB3.out H9.out)
      go_wp2
      refine bodyPost_ret (v := .tuple #[.agg #[.int .i64 0, .string ⟨#[]⟩, .string ⟨#[]⟩], .bool false]) (by simp [results, Tryz.results8, go_sem, y0, y1, y2]) rfl ⟨?_, .inr ⟨HNO.out, rfl⟩⟩
      ((repeat' (first | exact HB9.out | (refine Below.setCell ?_ ?_ _) | (refine Below.alloc ?_ ?_ _) | (refine Below.drew ?_))) <;> (first | exact Nat.le_refl _ | (have := HB9.out.size; simp; omega)))
end Go.Proofs.YtcomdkmglihdbaaGreatDoor
