/- The laws' helpers on books: toTold, toLine. -/
import Derived.Test.YtaieopdfkapgdaaDoorLawLine
import Derived.Deep.MidRow
import Derived.Deep.CutBlock
namespace Go.Proofs.YtaieopdfkapgdaaDoor
open Go.RowKit
set_option linter.unusedSimpArgs false
set_option linter.unusedVariables false

set_option maxHeartbeats 2000000 in
theorem toTold_any (gt ep m vd : Int) (u : Value) (g : List Int) (w : World) (hu : Sl w 1 u (ints g)) (hn : g.length ≤ 1048576) :
    Calls Tryd.prog 23 #[.agg #[.int .i64 gt, .int .i64 ep, .int .i64 m, u, .int .i64 vd]] w fun e w' => ∃ v, e = .returned (.agg #[.int .i64 gt, .int .i64 ep, .int .i64 m, v, .int .i64 vd]) ∧ w'.ownsRow w.heap.size 3 1 v g.length (ints g).flatten ∧ Below w.heap.size w w' := by
  have hu0 := hu
  obtain ⟨A, n, c, rfl, hA⟩ := hu
  clear hA
  go_enter Tryd.func23, Tryd.ntmps23
  go_wp2_with fail
  refine (toCall_any m _ g _ (hu0.below (by go_grown)) hn).mono ?_; rintro e1 w1 ⟨v1, rfl, o1, b1⟩
  obtain ⟨A1, n1, k1, rfl, -⟩ := SlA.of_own o1 (ints_len g) (ints_rows g)
  have p0 : w1.cell? ⟨w.heap.size, 0, none⟩ = some (.int .i64 gt) := (b1.cell (p := ⟨w.heap.size, 0, none⟩) (by simp <;> omega)).trans (by simp [go_sem])
  have p1 : w1.cell? ⟨w.heap.size, 1, none⟩ = some (.int .i64 ep) := (b1.cell (p := ⟨w.heap.size, 1, none⟩) (by simp <;> omega)).trans (by simp [go_sem])
  have p2 : w1.cell? ⟨w.heap.size, 2, none⟩ = some (.int .i64 m) := (b1.cell (p := ⟨w.heap.size, 2, none⟩) (by simp <;> omega)).trans (by simp [go_sem])
  have p3 : w1.cell? ⟨w.heap.size, 3, none⟩ = some (.slice A n c) := (b1.cell (p := ⟨w.heap.size, 3, none⟩) (by simp <;> omega)).trans (by simp [go_sem])
  have p4 : w1.cell? ⟨w.heap.size, 4, none⟩ = some (.int .i64 vd) := (b1.cell (p := ⟨w.heap.size, 4, none⟩) (by simp <;> omega)).trans (by simp [go_sem])
  have q0 : w1.cell? ⟨w.heap.size + 1, 0, none⟩ = some (.int .i64 0) := (b1.cell (p := ⟨w.heap.size + 1, 0, none⟩) (by simp <;> omega)).trans (by simp [go_sem])
  have fq0 : w1.frozen? ⟨w.heap.size + 1, 0, none⟩ = false := (b1.frozen (p := ⟨w.heap.size + 1, 0, none⟩) (by simp <;> omega)).trans (by simp [go_sem])
  have q1 : w1.cell? ⟨w.heap.size + 1, 1, none⟩ = some (.int .i64 0) := (b1.cell (p := ⟨w.heap.size + 1, 1, none⟩) (by simp <;> omega)).trans (by simp [go_sem])
  have fq1 : w1.frozen? ⟨w.heap.size + 1, 1, none⟩ = false := (b1.frozen (p := ⟨w.heap.size + 1, 1, none⟩) (by simp <;> omega)).trans (by simp [go_sem])
  have q2 : w1.cell? ⟨w.heap.size + 1, 2, none⟩ = some (.int .i64 0) := (b1.cell (p := ⟨w.heap.size + 1, 2, none⟩) (by simp <;> omega)).trans (by simp [go_sem])
  have fq2 : w1.frozen? ⟨w.heap.size + 1, 2, none⟩ = false := (b1.frozen (p := ⟨w.heap.size + 1, 2, none⟩) (by simp <;> omega)).trans (by simp [go_sem])
  have q3 : w1.cell? ⟨w.heap.size + 1, 3, none⟩ = some (.slice none 0 0) := (b1.cell (p := ⟨w.heap.size + 1, 3, none⟩) (by simp <;> omega)).trans (by simp [go_sem])
  have fq3 : w1.frozen? ⟨w.heap.size + 1, 3, none⟩ = false := (b1.frozen (p := ⟨w.heap.size + 1, 3, none⟩) (by simp <;> omega)).trans (by simp [go_sem])
  have q4 : w1.cell? ⟨w.heap.size + 1, 4, none⟩ = some (.int .i64 0) := (b1.cell (p := ⟨w.heap.size + 1, 4, none⟩) (by simp <;> omega)).trans (by simp [go_sem])
  have fq4 : w1.frozen? ⟨w.heap.size + 1, 4, none⟩ = false := (b1.frozen (p := ⟨w.heap.size + 1, 4, none⟩) (by simp <;> omega)).trans (by simp [go_sem])
  have r0 : w1.cell? ⟨w.heap.size + 1 + 1, 0, none⟩ = some (.int .i64 gt) := (b1.cell (p := ⟨w.heap.size + 1 + 1, 0, none⟩) (by simp <;> omega)).trans (by simp [go_sem])
  have fr0 : w1.frozen? ⟨w.heap.size + 1 + 1, 0, none⟩ = false := (b1.frozen (p := ⟨w.heap.size + 1 + 1, 0, none⟩) (by simp <;> omega)).trans (by simp [go_sem])
  have r1 : w1.cell? ⟨w.heap.size + 1 + 1, 1, none⟩ = some (.int .i64 ep) := (b1.cell (p := ⟨w.heap.size + 1 + 1, 1, none⟩) (by simp <;> omega)).trans (by simp [go_sem])
  have fr1 : w1.frozen? ⟨w.heap.size + 1 + 1, 1, none⟩ = false := (b1.frozen (p := ⟨w.heap.size + 1 + 1, 1, none⟩) (by simp <;> omega)).trans (by simp [go_sem])
  have r2 : w1.cell? ⟨w.heap.size + 1 + 1, 2, none⟩ = some (.int .i64 0) := (b1.cell (p := ⟨w.heap.size + 1 + 1, 2, none⟩) (by simp <;> omega)).trans (by simp [go_sem])
  have fr2 : w1.frozen? ⟨w.heap.size + 1 + 1, 2, none⟩ = false := (b1.frozen (p := ⟨w.heap.size + 1 + 1, 2, none⟩) (by simp <;> omega)).trans (by simp [go_sem])
  have r3 : w1.cell? ⟨w.heap.size + 1 + 1, 3, none⟩ = some (.slice none 0 0) := (b1.cell (p := ⟨w.heap.size + 1 + 1, 3, none⟩) (by simp <;> omega)).trans (by simp [go_sem])
  have fr3 : w1.frozen? ⟨w.heap.size + 1 + 1, 3, none⟩ = false := (b1.frozen (p := ⟨w.heap.size + 1 + 1, 3, none⟩) (by simp <;> omega)).trans (by simp [go_sem])
  have r4 : w1.cell? ⟨w.heap.size + 1 + 1, 4, none⟩ = some (.int .i64 0) := (b1.cell (p := ⟨w.heap.size + 1 + 1, 4, none⟩) (by simp <;> omega)).trans (by simp [go_sem])
  have fr4 : w1.frozen? ⟨w.heap.size + 1 + 1, 4, none⟩ = false := (b1.frozen (p := ⟨w.heap.size + 1 + 1, 4, none⟩) (by simp <;> omega)).trans (by simp [go_sem])
  have hb : Below w.heap.size w w1 := below_then (by go_grown) b1
  have O1 := Lib.hid o1; have HB := Lib.hid hb; have HB1 := Lib.hid b1
  clear o1 hb b1
  go_wp2
  have o1 := O1.out; have hb := HB.out
  refine bodyPost_ret (v := .agg #[.int .i64 gt, .int .i64 ep, .int .i64 m, .slice A1 n1 k1, .int .i64 vd]) (by simp [results, Tryd.results23, go_sem, p4, r0, r1, r2, r3, r4, q0, q1, q2, q3, q4]) rfl ⟨_, rfl, own_base (ownsRow_setCell_below (ownsRow_setCell_below (ownsRow_setCell_below (ownsRow_setCell_below (ownsRow_setCell_below (ownsRow_setCell_below (ownsRow_setCell_below (ownsRow_setCell_below o1 (by first | (show w.heap.size + 1 < _; simp; done) | (simp; done) | (simp; omega)) _) (by first | (show w.heap.size + 1 < _; simp; done) | (simp; done) | (simp; omega)) _) (by first | (show w.heap.size + 1 < _; simp; done) | (simp; done) | (simp; omega)) _) (by first | (show w.heap.size + 1 < _; simp; done) | (simp; done) | (simp; omega)) _) (by first | (show w.heap.size + 1 < _; simp; done) | (simp; done) | (simp; omega)) _) (by first | (show w.heap.size + 1 < _; simp; done) | (simp; done) | (simp; omega)) _) (by first | (show w.heap.size + 1 < _; simp; done) | (simp; done) | (simp; omega)) _) (by first | (show w.heap.size + 1 < _; simp; done) | (simp; done) | (simp; omega)) _) (by simp; omega), ?_⟩
  exact ((((((((hb.setCell (by first | (show w.heap.size ≤ w.heap.size + 1; omega) | (show w.heap.size ≤ w.heap.size + 1 + 1; omega)) _).setCell (by first | (show w.heap.size ≤ w.heap.size + 1; omega) | (show w.heap.size ≤ w.heap.size + 1 + 1; omega)) _).setCell (by first | (show w.heap.size ≤ w.heap.size + 1; omega) | (show w.heap.size ≤ w.heap.size + 1 + 1; omega)) _).setCell (by first | (show w.heap.size ≤ w.heap.size + 1; omega) | (show w.heap.size ≤ w.heap.size + 1 + 1; omega)) _).setCell (by first | (show w.heap.size ≤ w.heap.size + 1; omega) | (show w.heap.size ≤ w.heap.size + 1 + 1; omega)) _).setCell (by first | (show w.heap.size ≤ w.heap.size + 1; omega) | (show w.heap.size ≤ w.heap.size + 1 + 1; omega)) _).setCell (by first | (show w.heap.size ≤ w.heap.size + 1; omega) | (show w.heap.size ≤ w.heap.size + 1 + 1; omega)) _).setCell (by first | (show w.heap.size ≤ w.heap.size + 1; omega) | (show w.heap.size ≤ w.heap.size + 1 + 1; omega)) _)

theorem setCells_run (g : Nat) : ∀ (vs : List Value) (w : World) (o : Nat), w.setCells g o vs = setRun w g o vs
  | [], _, _ => rfl
  | v :: vs, w, o => setCells_run g vs _ _

theorem own_setRow {w : World} {base n g : Nat} {e : TypeId} {size : Nat} {v : Value} {xs : List Value} (h : w.ownsRow base e size v n xs) (hg : g < base) (cs : Array Value) : (w.setRow g cs).ownsRow base e size v n xs := by
  refine ⟨h.1, ?_⟩
  rcases h.2 with hn | ⟨g', cap, cur, rfl, hb, hh, rest⟩
  · exact .inl hn
  · refine .inr ⟨g', cap, cur, rfl, hb, ?_, rest⟩
    unfold World.setRow
    show (w.heap.modify g _)[g']? = _
    rw [Array.getElem?_modify, if_neg (by omega)]
    exact hh
theorem setRun_block (g : Nat) : ∀ (vs : List Value) (w : World) (o k : Nat), k ≠ g → (setRun w g o vs).heap[k]? = w.heap[k]?
  | [], _, _, _, _ => rfl
  | v :: vs, w, o, k, h => (setRun_block g vs _ _ k h).trans (Below.heap_setCell w ⟨g, o, none⟩ v k h)
theorem own_run {base : Nat} {e : TypeId} {size n : Nat} {v : Value} {xs : List Value} {g : Nat} (hg : g < base) : ∀ (vs : List Value) (w : World) (o : Nat), w.ownsRow base e size v n xs → (setRun w g o vs).ownsRow base e size v n xs
  | [], _, _, h => h
  | u :: vs, w, o, h => own_run hg vs _ _ (ownsRow_setCell_below h (a := ⟨g, o, none⟩) hg u)
set_option maxRecDepth 100000 in
set_option maxHeartbeats 2000000 in
theorem toLine_any (gt ep m vd : Int) (u : Value) (g : List Int) (sm : List UInt8) (w : World) (hu : Sl w 1 u (ints g)) (hn : g.length ≤ 1048576) :
    Calls Tryd.prog 37 #[.agg #[.int .i64 gt, .int .i64 ep, .int .i64 m, u, .int .i64 vd, .string ⟨sm.toArray⟩]] w fun e w' => ∃ v, e = .returned (.agg #[.int .i64 gt, .int .i64 ep, .int .i64 m, v, .int .i64 vd, .string ⟨sm.toArray⟩]) ∧ w'.ownsRow w.heap.size 3 1 v g.length (ints g).flatten ∧ Below w.heap.size w w' := by
  have hu0 := hu
  obtain ⟨A, n, c, rfl, hA⟩ := hu
  clear hA
  obtain ⟨w0, hw0⟩ : ∃ w0, w0 = ((w.alloc (.cells #[.int .i64 gt, .int .i64 ep, .int .i64 m, .slice A n c, .int .i64 vd, .string ⟨sm.toArray⟩] 70)).alloc (.cells #[.int .i64 0, .int .i64 0, .int .i64 0, .slice none 0 0, .int .i64 0, .string ⟨#[]⟩] 32)).alloc (.cells #[.int .i64 0, .int .i64 0, .int .i64 0, .slice none 0 0, .int .i64 0, .string ⟨#[]⟩] 32) := ⟨_, rfl⟩
  have b0 : Below w.heap.size w w0 := by rw [hw0]; go_grown
  have z0 : w0.heap.size = w.heap.size + 1 + 1 + 1 := by rw [hw0]; simp
  have P0 : Blk w0 w.heap.size 70 #[.int .i64 gt, .int .i64 ep, .int .i64 m, .slice A n c, .int .i64 vd, .string ⟨sm.toArray⟩] := by rw [hw0]; exact ((Blk.new _ _ _).alloc _).alloc _
  have Q0 : Blk w0 (w.heap.size + 1) 32 #[.int .i64 0, .int .i64 0, .int .i64 0, .slice none 0 0, .int .i64 0, .string ⟨#[]⟩] := by
    rw [hw0]
    have := Blk.new (w.alloc (.cells #[.int .i64 gt, .int .i64 ep, .int .i64 m, .slice A n c, .int .i64 vd, .string ⟨sm.toArray⟩] 70)) 32 #[.int .i64 0, .int .i64 0, .int .i64 0, .slice none 0 0, .int .i64 0, .string ⟨#[]⟩]
    rw [World.size_alloc] at this
    exact this.alloc _
  have R0 : Blk w0 (w.heap.size + 1 + 1) 32 #[.int .i64 0, .int .i64 0, .int .i64 0, .slice none 0 0, .int .i64 0, .string ⟨#[]⟩] := by
    rw [hw0]
    have := Blk.new ((w.alloc (.cells #[.int .i64 gt, .int .i64 ep, .int .i64 m, .slice A n c, .int .i64 vd, .string ⟨sm.toArray⟩] 70)).alloc (.cells #[.int .i64 0, .int .i64 0, .int .i64 0, .slice none 0 0, .int .i64 0, .string ⟨#[]⟩] 32)) 32 #[.int .i64 0, .int .i64 0, .int .i64 0, .slice none 0 0, .int .i64 0, .string ⟨#[]⟩]
    rw [World.size_alloc, World.size_alloc] at this
    exact this
  have HS := Lib.hid (hu0.below b0); have HW0 := Lib.hid hw0; have HB0 := Lib.hid b0; have HZ0 := Lib.hid z0
  have HP0 := Lib.hid P0; have HQ0 := Lib.hid Q0; have HR0 := Lib.hid R0
  clear hu0 hw0 b0 z0 P0 Q0 R0
  go_enter Tryd.func37, Tryd.ntmps37
  go_wp2_with fail
  rw [← HW0.out]
  refine (toTold_any gt ep m vd _ g _ HS.out hn).mono ?_; rintro e1 w1 ⟨v1, rfl, o1, b1⟩
  obtain ⟨A1, n1, k1, rfl, -⟩ := SlA.of_own o1 (ints_len g) (ints_rows g)
  have R1 := HR0.out.below b1 HR0.out.lt
  have HTH : Hid (w1.there (w.heap.size + 1 + 1) 0 5) := fun j hj => by
    rw [Nat.zero_add]
    obtain ⟨v, hv⟩ := R1.some_ (i := j) (by simp; omega)
    exact ⟨by rw [hv]; rfl, R1.frozen j⟩
  have hi5 : (Tryd.prog.info? 30).map (·.size) = some 5 := by kernel_rfl
  have hi6 : (Tryd.prog.info? 32).map (·.size) = some 6 := by kernel_rfl
  have HI5 := Lib.hid hi5; have HI6 := Lib.hid hi6; have HR1 := Lib.hid R1; have HB1 := Lib.hid b1; have HO1 := Lib.hid o1
  clear hi5 hi6 R1 b1 o1
  go_upto_region 3 with (refine wpList_store_mid rfl 30 (.tmp 7) (.tmp 6) rfl (w.heap.size + 1 + 1) 0 #[.int .i64 gt, .int .i64 ep, .int .i64 m, .slice A1 n1 k1, .int .i64 vd] rfl rfl HTH.out HI5.out (by simp [Value.oneCell']) ?_)
  obtain ⟨w2, hw2⟩ : ∃ w2, w2 = w1.setCells (w.heap.size + 1 + 1) 0 [.int .i64 gt, .int .i64 ep, .int .i64 m, .slice A1 n1 k1, .int .i64 vd] := ⟨_, rfl⟩
  have l1 : w.heap.size + 1 + 1 < w0.heap.size := HR0.out.lt
  have R2 : Blk w2 (w.heap.size + 1 + 1) 32 #[.int .i64 gt, .int .i64 ep, .int .i64 m, .slice A1 n1 k1, .int .i64 vd, .string ⟨#[]⟩] := by
    rw [hw2, setCells_run]
    exact Blk.run _ _ _ _ HR1.out
  have O2 : w2.ownsRow w0.heap.size 3 1 (.slice A1 n1 k1) g.length (ints g).flatten := by
    rw [hw2, setCells_run]
    exact own_run l1 _ _ _ HO1.out
  have B2 : Below w.heap.size w w2 := by
    rw [hw2, setCells_run]
    exact below_run (by omega) _ _ _ (HB0.out.trans (HB1.out.mono HB0.out.size))
  have P2 : Blk w2 w.heap.size 70 #[.int .i64 gt, .int .i64 ep, .int .i64 m, .slice A n c, .int .i64 vd, .string ⟨sm.toArray⟩] := by
    rw [hw2, setCells_run]
    exact (setRun_block _ _ _ _ _ (by omega)).trans (HP0.out.below HB1.out HP0.out.lt)
  have Q2 : Blk w2 (w.heap.size + 1) 32 #[.int .i64 0, .int .i64 0, .int .i64 0, .slice none 0 0, .int .i64 0, .string ⟨#[]⟩] := by
    rw [hw2, setCells_run]
    exact (setRun_block _ _ _ _ _ (by omega)).trans (HQ0.out.below HB1.out HQ0.out.lt)
  rw [← hw2]
  have p5 := (show _ = some (Value.string ⟨sm.toArray⟩) from P2.cell 5)
  have r5 := (show _ = some (Value.string ⟨#[]⟩) from R2.cell 5)
  have f5 := R2.frozen 5
  have HR3 : Hid (Blk (w2.setCell ⟨w.heap.size + 1 + 1, 5, none⟩ (.string ⟨sm.toArray⟩)) (w.heap.size + 1 + 1) 32 #[.int .i64 gt, .int .i64 ep, .int .i64 m, .slice A1 n1 k1, .int .i64 vd, .string ⟨sm.toArray⟩]) := R2.set_ 5 (.string ⟨sm.toArray⟩)
  have HQ3 := Lib.hid (Q2.far (p := ⟨w.heap.size + 1 + 1, 5, none⟩) (by simp) (.string ⟨sm.toArray⟩))
  have HO2 := Lib.hid O2; have HB2 := Lib.hid B2
  clear hw2 R2 O2 B2 P2 Q2
  go_upto_region 4 with (fail)
  obtain ⟨w3, hw3⟩ : ∃ w3, w3 = w2.setCell ⟨w.heap.size + 1 + 1, 5, none⟩ (.string ⟨sm.toArray⟩) := ⟨_, rfl⟩
  rw [← hw3]
  rw [← hw3] at HR3 HQ3
  have HO3 := Lib.hid (show w3.ownsRow w0.heap.size 3 1 (.slice A1 n1 k1) g.length (ints g).flatten by rw [hw3]; exact ownsRow_setCell_below HO2.out l1 _)
  have HB3 := Lib.hid (show Below w.heap.size w w3 by rw [hw3]; exact HB2.out.setCell (by show w.heap.size ≤ w.heap.size + 1 + 1; omega) _)
  clear hw3 p5 r5 f5
  go_wp2_with (first
    | (refine wpList_load_row rfl 32 (.tmp 3) rfl (w.heap.size + 1 + 1) rfl _ _ _ _ HR3.out Tryd.underlying32 rfl HI6.out ?_)
    | (refine wpList_store_row rfl 32 (.tmp 2) (.tmp 11) rfl (w.heap.size + 1) _ rfl rfl _ _ HQ3.out HI6.out rfl (by simp [Value.oneCell']) ?_))
  have hE := Blk.setRow_ HQ3.out #[.int .i64 gt, .int .i64 ep, .int .i64 m, .slice A1 n1 k1, .int .i64 vd, .string ⟨sm.toArray⟩]
  refine bodyPost_ret (v := .agg #[.int .i64 gt, .int .i64 ep, .int .i64 m, .slice A1 n1 k1, .int .i64 vd, .string ⟨sm.toArray⟩]) (results_cell_row rfl _ _ (w.heap.size + 1) _ _ _ _ rfl hE Tryd.underlying32 rfl HI6.out) rfl ⟨_, rfl, own_base (own_setRow HO3.out (by omega) _) HB0.out.size, below_setRow HB3.out (by omega) _⟩
end Go.Proofs.YtaieopdfkapgdaaDoor
