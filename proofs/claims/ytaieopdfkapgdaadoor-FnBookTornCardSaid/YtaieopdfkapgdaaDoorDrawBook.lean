/- How the laws draw tellings and books: l16Told, l16Book. -/
import Derived.Test.YtaieopdfkapgdaaDoorMarkA
import Derived.Test.YtaieopdfkapgdaaDoorDrawAny2
namespace Go.Proofs.YtaieopdfkapgdaaDoor
open Go.RowKit
set_option linter.unusedSimpArgs false
set_option linter.unusedVariables false

/-- A telling as it is drawn. -/
def smallT (t : Tl) : Prop := (0 ≤ t.gate ∧ t.gate ≤ 10) ∧ (0 ≤ t.epoch ∧ t.epoch ≤ 10) ∧ (0 ≤ t.verdict ∧ t.verdict ≤ 10)
theorem smallT.ok {t : Tl} (h : smallT t) : t.ok := by
  obtain ⟨h1, h2, h3⟩ := h
  exact ⟨⟨by omega, by omega⟩, ⟨by omega, by omega⟩, ⟨by omega, by omega⟩⟩
theorem own_grownR {w w' : World} {base g n : Nat} {e : TypeId} {size : Nat} {v : Value} {xs : List Value} (h : w.ownsRow base e size v n xs) (hg : w.grownBy w' (some g)) (hlt : g < base) : w'.ownsRow base e size v n xs := h.kept hg (by
  rcases ho : v.ownBlock with _ | b
  · exact .inl rfl
  · exact .inr (by have := (h.lt b ho).1; intro e; cases e; omega))
theorem OwnBk.grown {w w' : World} {lo hi g : Nat} {v : Value} {b : List Ln} (h : OwnBk w lo hi v b) (hg : w.grownBy w' (some g)) (hlt : g < lo) : OwnBk w' lo hi v b := by
  obtain ⟨avs, h1, h2, h3⟩ := h
  exact ⟨avs, h1.imp fun q n av xs hq ho => own_grownR ho hg (by omega), own_grownR h2 hg hlt, h3⟩
theorem OwnBk.up {w : World} {lo hi hi' : Nat} {v : Value} {b : List Ln} (h : OwnBk w lo hi v b) (hh : hi ≤ hi') : OwnBk w lo hi' v b := by
  obtain ⟨avs, h1, h2, h3⟩ := h
  exact ⟨avs, h1.up hh, h2, fun g e => Nat.lt_of_lt_of_le (h3 g e) hh⟩

set_option maxRecDepth 100000 in
set_option maxHeartbeats 4000000 in
theorem l16Told_any (g p : Nat) (w : World) (h : Rd w g p) (hp : p ≤ 700000000) :
    Calls Tryd.prog 39 #[.pointer (some ⟨g, 0, none⟩)] w fun e w' =>
      ∃ (t : Tl) (av : Value) (q : Nat), e = .returned (.agg #[.int .i64 t.gate, .int .i64 t.epoch, .int .i64 t.num, av, .int .i64 t.verdict]) ∧ smallT t ∧ callOk t.num t.args ∧ w'.ownsRow w.heap.size 3 1 av 4 (ints t.args).flatten ∧ w.grownBy w' (some g) ∧ Rd w' g q ∧ q ≤ p + 25 := by
  have hlt := h.lt
  obtain ⟨W0, hW0⟩ : ∃ W0, W0 = w.alloc (.cells #[.int .i64 0, .int .i64 0, .int .i64 0, .slice none 0 0, .int .i64 0] 30) := ⟨_, rfl⟩
  have hb0 : Below w.heap.size w W0 := by rw [hW0]; go_grown
  have B0 : Blk W0 w.heap.size 30 #[.int .i64 0, .int .i64 0, .int .i64 0, .slice none 0 0, .int .i64 0] := by rw [hW0]; exact Blk.new _ _ _
  have HW0 := Lib.hid hW0; have HR := Lib.hid (h.next hb0); have HB := Lib.hid B0; have HB0 := Lib.hid hb0
  have hl0 : w.heap.size < W0.heap.size := B0.lt
  have hgne : some w.heap.size ≠ some g := by intro e; cases e; omega
  have HGN := Lib.hid hgne
  clear h hW0 hb0 B0 hgne
  go_enter Tryd.func39, Tryd.ntmps39
  go_wp2_with fail
  rw [← HW0.out]
  refine (pick_any g p 3 _ HR.out (by omega)).mono ?_; rintro e w1 ⟨k1, rfl, a1, a1', g1, r1⟩
  have a1'' := a1' (by omega)
  have HG1 := Lib.hid g1; have HR1 := Lib.hid r1
  clear g1 r1 a1'
  go_wp2_with fail
  refine (pick_any g (p + 1) 4 _ HR1.out (by omega)).mono ?_; rintro e w2 ⟨k2, rfl, a2, a2', g2, r2⟩
  have a2'' := a2' (by omega)
  have HG2 := Lib.hid (HG1.out.trans g2); have HR2 := Lib.hid r2
  clear g2 r2 a2'
  go_wp2_with fail
  refine (l11Call_any g (p + 2) _ HR2.out (by omega)).mono ?_; rintro e w3 ⟨n, v, xs, q, rfl, hco, o3, g3, r3, hq⟩
  obtain ⟨A3, n3, c3, rfl, -⟩ := SlA.of_own o3 ((ints_len xs).trans hco.2.1) (ints_rows xs)
  have HG3 := Lib.hid (HG2.out.trans g3); have HR3 := Lib.hid r3; have HO3 := Lib.hid o3; have HCO := Lib.hid hco
  have hz2 : w.heap.size < w2.heap.size := Nat.lt_of_lt_of_le hl0 HG2.out.size
  clear g3 r3 o3 hco
  go_wp2_with fail
  refine (pick_any g q 4 _ HR3.out (by omega)).mono ?_; rintro e w4 ⟨k4, rfl, a4, a4', g4, r4⟩
  have a4'' := a4' (by omega)
  have HG4 := Lib.hid (HG3.out.trans g4); have HR4 := Lib.hid r4
  have HO4 := Lib.hid (own_grownR HO3.out g4 (by omega))
  have B4 := HB.out.grown HG4.out HGN.out
  have c0 := (show _ = some (Value.int .i64 0) from B4.cell 0); have c1 := (show _ = some (Value.int .i64 0) from B4.cell 1); have c2 := (show _ = some (Value.int .i64 0) from B4.cell 2); have c3' := (show _ = some (Value.slice none 0 0) from B4.cell 3); have c4 := (show _ = some (Value.int .i64 0) from B4.cell 4)
  have f0 := B4.frozen 0; have f1 := B4.frozen 1; have f2 := B4.frozen 2; have f3 := B4.frozen 3; have f4 := B4.frozen 4
  clear g4 r4 a4' B4
  go_wp2
  have hgw : w.grownBy w4 (some g) := (grown_of_below HB0.out _).trans HG4.out
  refine bodyPost_ret (v := .agg #[.int .i64 (1 + k1), .int .i64 k2, .int .i64 n, .slice A3 n3 c3, .int .i64 (1 + k4)]) (by simp [results, Tryd.results39, go_sem, c0, c1, c2, c3', c4]) rfl ⟨⟨1 + k1, k2, n, xs, 1 + k4⟩, _, q + 1, rfl, ⟨⟨by show (0 : Int) ≤ 1 + k1; omega, by show (1 : Int) + k1 ≤ 10; omega⟩, ⟨a2, by show k2 ≤ 10; omega⟩, ⟨by show (0 : Int) ≤ 1 + k4; omega, by show (1 : Int) + k4 ≤ 10; omega⟩⟩, HCO.out, ?_, ?_, ?_, by omega⟩
  · exact own_base (ownsRow_setCell_below (ownsRow_setCell_below (ownsRow_setCell_below (ownsRow_setCell_below (ownsRow_setCell_below HO4.out hz2 _) hz2 _) hz2 _) hz2 _) hz2 _) (Nat.le_of_lt hz2)
  · exact grown_new (grown_new (grown_new (grown_new (grown_new hgw (Nat.le_refl _) _) (Nat.le_refl _) _) (Nat.le_refl _) _) (Nat.le_refl _) _) (Nat.le_refl _) _
  · exact HR4.out.below (((((((Below.refl w.heap.size w4).setCell (p := ⟨w.heap.size, 0, none⟩) (Nat.le_refl _) _).setCell (p := ⟨w.heap.size, 1, none⟩) (Nat.le_refl _) _).setCell (p := ⟨w.heap.size, 2, none⟩) (Nat.le_refl _) _).setCell (p := ⟨w.heap.size, 3, none⟩) (Nat.le_refl _) _).setCell (p := ⟨w.heap.size, 4, none⟩) (Nat.le_refl _) _)) hlt

set_option maxRecDepth 100000 in
set_option maxHeartbeats 4000000 in
theorem l16Book_any (g p : Nat) (w : World) (h : Rd w g p) (hp : p ≤ 100000000) :
    Calls Tryd.prog 54 #[.pointer (some ⟨g, 0, none⟩)] w fun e w' =>
      ∃ (u : Value) (b : List Ln) (q : Nat), e = .returned u ∧ OwnBk w' w.heap.size w'.heap.size u b ∧ (∀ ln ∈ b, smallT ln.told) ∧ (∀ ln ∈ b, ln.told.args.length = 4) ∧ b.length ≤ 41 ∧ w.grownBy w' (some g) ∧ Rd w' g q ∧ q ≤ p + 2000 := by
  have hlt := h.lt
  obtain ⟨W0, hW0⟩ : ∃ W0, W0 = w.alloc (.cells #[] 32) := ⟨_, rfl⟩
  have hb0 : Below w.heap.size w W0 := by rw [hW0]; go_grown
  have HO0 : Hid (OwnBk W0 w.heap.size W0.heap.size (.slice (some ⟨w.heap.size, 0, none⟩) 0 0) []) := by rw [hW0]; exact OwnBk.fresh (Nat.le_refl _)
  have HW0 := Lib.hid hW0; have HR := Lib.hid (h.next hb0); have HB0 := Lib.hid hb0
  clear h hW0 hb0
  go_enter Tryd.func54, Tryd.ntmps54
  go_wp2_with fail
  rw [← HW0.out]
  refine (pick_any g p 7 _ HR.out (by omega)).mono ?_; rintro e w1 ⟨k1, rfl, a1, a1', g1, r1⟩
  have a1'' := a1' (by omega)
  have HG1 := Lib.hid g1; have HR1 := Lib.hid r1
  clear g1 r1 a1'
  go_wp2_with fail
  refine (pick_any g (p + 1) 16 _ HR1.out (by omega)).mono ?_; rintro e w2 ⟨k2, rfl, a2, a2', g2, r2⟩
  have HG2 := Lib.hid (HG1.out.trans g2); have HR2 := Lib.hid r2
  have HO2 := Lib.hid ((HO0.out.grown HG2.out hlt).up HG2.out.size)
  have HGW := Lib.hid ((grown_of_below HB0.out (some g)).trans HG2.out)
  clear g2 r2 a2'
  by_cases hk2 : k2 = 0
  · subst hk2
    go_wp2
    go_loopw [3, 4] (fun out i wr => ∃ k q : Nat, i = .int .i64 k ∧ k ≤ 40 ∧ q + 25 * k ≤ p + 1500 ∧ Hid (∃ b, OwnBk wr w.heap.size wr.heap.size out b ∧ (∀ ln ∈ b, smallT ln.told) ∧ (∀ ln ∈ b, ln.told.args.length = 4) ∧ b.length ≤ 41) ∧ Hid (Rd wr g q) ∧ Hid (w.grownBy wr (some g))) (fun _ i _ => (intOf i).toNat)
    case atStart => exact ⟨40, p + 1 + 1, rfl, by omega, by omega, Lib.hid ⟨[], HO2.out, (fun ln h => by cases h), (fun ln h => by cases h), by simp⟩, HR2, HGW⟩
    case round =>
      obtain ⟨k, q, rfl, hk, hq, HB, HRR, HGG⟩ := hrel
      by_cases hk0 : 0 < k
      · obtain ⟨b, hO, hS, h4, hl⟩ := HB.out
        have HO := Lib.hid hO; have HS := Lib.hid hS; have H4 := Lib.hid h4; have HL := Lib.hid hl
        have hki : (0 : Int) < k := by omega
        have hlw : w.heap.size ≤ wr.heap.size := HGG.out.size
        clear hO hS h4 hl HB
        go_wp2_with fail
        refine (l16Told_any g q wr HRR.out (by omega)).mono ?_; rintro e w5 ⟨t, av, q2, rfl, hts, hco, o5, g5, r5, hq2⟩
        obtain ⟨A5, n5, c5, rfl, -⟩ := SlA.of_own o5 ((ints_len t.args).trans hco.2.1) (ints_rows _)
        have HTS := Lib.hid hts; have HCO := Lib.hid hco
        have HO5 := Lib.hid ((HO.out.grown g5 hlt).up g5.size)
        have HS5 := Lib.hid (SlA.of_own o5 ((ints_len t.args).trans hco.2.1) (ints_rows _)); have HR5 := Lib.hid r5; have HG5 := Lib.hid (HGG.out.trans g5)
        clear hts hco o5 g5 r5
        go_wp2_with fail
        refine (sBookAdd_any _ b t _ w5 (HO5.out.is fun ln h => (HS.out ln h).ok) HTS.out.ok HS5.out).mono ?_; rintro e w6 hA
        obtain ⟨b6, u6, rfl, hO6⟩ := hA.res rfl rfl
        have HO6 := Lib.hid hO6; have HB6 := Lib.hid b6
        have HF := Lib.hid (addRes_four (b := b) (t := t) rfl)
        clear hA hO6 b6
        go_wp2
        have hz : w.heap.size ≤ w5.heap.size := HG5.out.size
        refine ⟨⟨k - 1, q2, ret_v (by omega), by omega, by omega, Lib.hid ⟨_, HO6.out.low hz, ?_, HF.out.2, HF.out.1⟩, Lib.hid (HR5.out.next HB6.out), Lib.hid (grown_then HG5.out HB6.out hz)⟩, by simp [intOf]; omega⟩
        intro ln h
        rcases addRes_yes (b := b) (t := t) rfl with ⟨_, e⟩ | e
        · rw [e] at h
          rcases List.mem_append.1 h with h | h
          · exact HS.out ln h
          · simp at h; subst h; exact HTS.out
        · rw [e] at h; cases h
      · obtain rfl : k = 0 := by omega
        obtain ⟨b, hO, hS, h4, hl⟩ := HB.out
        have HO := Lib.hid hO; have HS := Lib.hid hS; have H4 := Lib.hid h4; have HL := Lib.hid hl
        clear hO hS h4 hl HB
        go_wp2
        go_ret
        exact ⟨_, b, q, rfl, HO.out, HS.out, H4.out, HL.out, HGG.out, HRR.out, by omega⟩
  · have hk2' : (k2 == 0) = false := by simpa using hk2
    obtain ⟨m, rfl⟩ := Int.eq_ofNat_of_zero_le a1
    go_wp2
    go_loopw [3, 4] (fun out i wr => ∃ k q : Nat, i = .int .i64 k ∧ k ≤ 40 ∧ q + 25 * k ≤ p + 1500 ∧ Hid (∃ b, OwnBk wr w.heap.size wr.heap.size out b ∧ (∀ ln ∈ b, smallT ln.told) ∧ (∀ ln ∈ b, ln.told.args.length = 4) ∧ b.length ≤ 41) ∧ Hid (Rd wr g q) ∧ Hid (w.grownBy wr (some g))) (fun _ i _ => (intOf i).toNat)
    case atStart => exact ⟨m, p + 1 + 1, rfl, by omega, by omega, Lib.hid ⟨[], HO2.out, (fun ln h => by cases h), (fun ln h => by cases h), by simp⟩, HR2, HGW⟩
    case round =>
      obtain ⟨k, q, rfl, hk, hq, HB, HRR, HGG⟩ := hrel
      by_cases hk0 : 0 < k
      · obtain ⟨b, hO, hS, h4, hl⟩ := HB.out
        have HO := Lib.hid hO; have HS := Lib.hid hS; have H4 := Lib.hid h4; have HL := Lib.hid hl
        have hki : (0 : Int) < k := by omega
        have hlw : w.heap.size ≤ wr.heap.size := HGG.out.size
        clear hO hS h4 hl HB
        go_wp2_with fail
        refine (l16Told_any g q wr HRR.out (by omega)).mono ?_; rintro e w5 ⟨t, av, q2, rfl, hts, hco, o5, g5, r5, hq2⟩
        obtain ⟨A5, n5, c5, rfl, -⟩ := SlA.of_own o5 ((ints_len t.args).trans hco.2.1) (ints_rows _)
        have HTS := Lib.hid hts; have HCO := Lib.hid hco
        have HO5 := Lib.hid ((HO.out.grown g5 hlt).up g5.size)
        have HS5 := Lib.hid (SlA.of_own o5 ((ints_len t.args).trans hco.2.1) (ints_rows _)); have HR5 := Lib.hid r5; have HG5 := Lib.hid (HGG.out.trans g5)
        clear hts hco o5 g5 r5
        go_wp2_with fail
        refine (sBookAdd_any _ b t _ w5 (HO5.out.is fun ln h => (HS.out ln h).ok) HTS.out.ok HS5.out).mono ?_; rintro e w6 hA
        obtain ⟨b6, u6, rfl, hO6⟩ := hA.res rfl rfl
        have HO6 := Lib.hid hO6; have HB6 := Lib.hid b6
        have HF := Lib.hid (addRes_four (b := b) (t := t) rfl)
        clear hA hO6 b6
        go_wp2
        have hz : w.heap.size ≤ w5.heap.size := HG5.out.size
        refine ⟨⟨k - 1, q2, ret_v (by omega), by omega, by omega, Lib.hid ⟨_, HO6.out.low hz, ?_, HF.out.2, HF.out.1⟩, Lib.hid (HR5.out.next HB6.out), Lib.hid (grown_then HG5.out HB6.out hz)⟩, by simp [intOf]; omega⟩
        intro ln h
        rcases addRes_yes (b := b) (t := t) rfl with ⟨_, e⟩ | e
        · rw [e] at h
          rcases List.mem_append.1 h with h | h
          · exact HS.out ln h
          · simp at h; subst h; exact HTS.out
        · rw [e] at h; cases h
      · obtain rfl : k = 0 := by omega
        obtain ⟨b, hO, hS, h4, hl⟩ := HB.out
        have HO := Lib.hid hO; have HS := Lib.hid hS; have H4 := Lib.hid h4; have HL := Lib.hid hl
        clear hO hS h4 hl HB
        go_wp2
        go_ret
        exact ⟨_, b, q, rfl, HO.out, HS.out, H4.out, HL.out, HGG.out, HRR.out, by omega⟩
end Go.Proofs.YtaieopdfkapgdaaDoor
