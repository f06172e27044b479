/- spec's draws of policies: l11AnyPolicy, DrawPolicyWrite, DrawMakeCode, DrawGraphMake. -/
import Derived.Test.YtgdelnpielfhkaaGreatDoorSpoil
import Derived.Test.YtgdelnpielfhkaaGreatDoorRdOpen
namespace Go.Proofs.YtgdelnpielfhkaaGreatDoor
open Go.RowKit
set_option linter.unusedSimpArgs false
set_option linter.unusedVariables false

theorem PolOwn.set_blk {w : World} {B k i : Nat} {p : Pol} {v u : Value} {cs : Array Value} (h : PolOwn w B p v) (hk : Blk w k 25 cs) : PolOwn (w.setCell ⟨k, i, none⟩ u) B p v := by
  obtain ⟨rv, css, rfl, ho, hr⟩ := h
  exact ⟨rv, css, rfl, ownsRow_setCell_other ho (own_blk_ne ho hk (by decide)) u, hr.imp fun tv n xs ht => ownsRow_setCell_other ht (own_blk_ne ht hk (by decide)) u⟩
theorem PolOwn.form {w : World} {B : Nat} {p : Pol} {v : Value} (h : PolOwn w B p v) : ∃ A n c, v = .agg #[.slice A n c, .int .i64 p.els] := by
  obtain ⟨rv, css, rfl, ho, hr⟩ := h
  obtain ⟨A, n, c, rfl, _⟩ := SlA.of_own ho rfl hr.are.rows
  exact ⟨A, n, c, rfl⟩
/-- What a drawn policy is. -/
def AnyPost (w : World) (g p : Nat) (e : Ending) (w' : World) : Prop := ∃ (po : Pol) (v : Value) (q B : Nat), e = .returned v ∧ PolOwn w' B po v ∧ w.heap.size ≤ B ∧ w.grownBy w' (some g) ∧ Rd w' g q ∧ q ≤ p + 2000 ∧ (po.rules.length ≤ 9 ∧ ∀ r ∈ po.rules, r.tests.length ≤ 11)
theorem AnyPost.mk {w w' : World} {g p q B : Nat} {po : Pol} {v : Value} (h1 : PolOwn w' B po v) (hB : w.heap.size ≤ B) (h2 : w.grownBy w' (some g)) (h3 : Rd w' g q) (h4 : q ≤ p + 2000) (h5 : po.rules.length ≤ 9 ∧ ∀ r ∈ po.rules, r.tests.length ≤ 11) : AnyPost w g p (.returned v) w' := ⟨po, v, q, B, rfl, h1, hB, h2, h3, h4, h5⟩

set_option maxHeartbeats 4000000 in
theorem l11AnyPolicy_any (g p : Nat) (w : World) (h : Rd w g p) (hp : p ≤ 600000000) :
    Calls Tryz.prog 30 #[.pointer (some ⟨g, 0, none⟩)] w (AnyPost w g p) := by
  obtain ⟨W1, hW1⟩ : ∃ W, W = w.alloc (.cells #[.slice none 0 0, .int .i64 0] 25) := ⟨_, rfl⟩
  have B1 : Hid (Blk W1 w.heap.size 25 #[.slice none 0 0, .int .i64 0]) := by rw [hW1]; exact Lib.hid (Blk.new _ _ _)
  have D1 : Hid (Dq w W1 g p) := by rw [hW1]; exact Lib.hid ((Dq.start h).next (by go_grown))
  have HW1 := Lib.hid hW1
  clear hW1 h
  go_enter Tryz.func30, Tryz.ntmps30
  go_wp2_with fail
  rw [← HW1.out]
  refine (l11Policy_small g p 4 3 W1 D1.out.rd (by omega) (by omega) (by omega)).mono ?_; rintro e w2 ⟨po, v, q, rfl, ⟨B, hB, hpo⟩, hg, hr, hq, hsm⟩
  obtain ⟨A, n, c, rfl⟩ := hpo.form
  have D2 := Lib.hid (D1.out.step hg hr)
  have B2 := Lib.hid (D1.out.blk B1.out (Nat.le_refl _) hg)
  have HPO := Lib.hid hpo; have HSM := Lib.hid hsm
  have hBW : w.heap.size < B := Nat.lt_of_lt_of_le B1.out.lt hB
  have HBW := Lib.hid hBW
  clear hpo hg hr hsm HW1 B1 D1 hB
  obtain ⟨W3, hW3⟩ : ∃ W, W = w2.alloc (.cells #[.slice A n c, .int .i64 po.els] 25) := ⟨_, rfl⟩
  have D3 : Hid (Dq w W3 g q) := by rw [hW3]; exact Lib.hid (D2.out.next (by go_grown))
  have B3 : Hid (Blk W3 w.heap.size 25 #[.slice none 0 0, .int .i64 0]) := by rw [hW3]; exact Lib.hid (B2.out.alloc _)
  have C3 : Hid (Blk W3 w2.heap.size 25 #[.slice A n c, .int .i64 po.els]) := by rw [hW3]; exact Lib.hid (Blk.new _ _ _)
  have P3 : Hid (PolOwn W3 B po (.agg #[.slice A n c, .int .i64 po.els])) := by rw [hW3]; exact Lib.hid (HPO.out.below (by go_grown))
  have HNE := Lib.hid (show w.heap.size ≠ w2.heap.size by have := B2.out.lt; omega)
  have HLE := Lib.hid (show w.heap.size ≤ w2.heap.size by have := B2.out.lt; omega)
  have HW3 := Lib.hid hW3
  clear hW3
  go_wp2_with fail
  rw [← HW3.out]
  refine (pick_any g q 12 _ D3.out.rd (by omega)).mono ?_; rintro e w4 ⟨k4, rfl, a4, b4, g4, r4⟩
  have D4 := Lib.hid (D3.out.step g4 r4)
  have B4 := Lib.hid (D3.out.blk B3.out (Nat.le_refl _) g4)
  have C4 := Lib.hid (D3.out.blk C3.out HLE.out g4)
  have P4 := Lib.hid (P3.out.grown g4 (by have := D3.out.lt; have := HBW.out; omega))
  clear g4 r4 b4 D3 B3 C3 P3 HW3 HPO
  have y0 := (show _ = some (Value.slice A n c) from C4.out.cell 0); have y1 := (show _ = some (Value.int .i64 po.els) from C4.out.cell 1)
  by_cases hk : k4 = 0
  · subst hk
    go_wp2_with fail
    refine (l11SpoilPolicy_any g (q + 1) B po _ w4 D4.out.rd (by omega) P4.out HSM.out.1 HSM.out.2).mono ?_; rintro e w5 ⟨po', v', q', rfl, hpo', hg', hr', hq', hsm'⟩
    obtain ⟨A', n', c', rfl⟩ := hpo'.form
    have D5 := Lib.hid (D4.out.step hg' hr')
    have B5 := Lib.hid (D4.out.blk B4.out (Nat.le_refl _) hg')
    have P5 := Lib.hid hpo'; have HS5 := Lib.hid hsm'
    have HL5 := Lib.hid (show w.heap.size ≤ w4.heap.size from D4.out.size)
    clear hpo' hg' hr' hsm' y0 y1
    have x0 := (show _ = some (Value.slice none 0 0) from B5.out.cell 0); have x1 := (show _ = some (Value.int .i64 0) from B5.out.cell 1); have f0 := B5.out.frozen 0; have f1 := B5.out.frozen 1
    go_wp2
    refine bodyPost_ret (v := .agg #[.slice A' n' c', .int .i64 po'.els]) (by simp [results, Tryz.results30, go_sem, x0, x1]) rfl (AnyPost.mk (po := po') (q := q') (B := w4.heap.size) ?_ HL5.out ?_ ?_ (by omega) HS5.out)
    · exact (P5.out.set_blk B5.out).set_blk (B5.out.set_ 0 _)
    · exact ((D5.out.set (a := w.heap.size) (i := 0) (Nat.le_refl _) _).set (a := w.heap.size) (i := 1) (Nat.le_refl _) _).grown
    · exact ((D5.out.set (a := w.heap.size) (i := 0) (Nat.le_refl _) _).set (a := w.heap.size) (i := 1) (Nat.le_refl _) _).rd
  · have hkd : (k4 == 0) = false := by simpa using hk
    have x0 := (show _ = some (Value.slice none 0 0) from B4.out.cell 0); have x1 := (show _ = some (Value.int .i64 0) from B4.out.cell 1); have f0 := B4.out.frozen 0; have f1 := B4.out.frozen 1
    have hne := HNE.out
    have hne' := Ne.symm hne
    have hs9 := HSM.out
    go_wp2
    refine bodyPost_ret (v := .agg #[.slice A n c, .int .i64 po.els]) (by simp [results, Tryz.results30, go_sem, x0, x1, hne, hne']) rfl (AnyPost.mk (po := po) (q := q + 1) (B := B) ?_ (by have := HBW.out; omega) ?_ ?_ (by omega) ⟨by have := HSM.out.1; omega, fun r hr => by have := HSM.out.2 r hr; omega⟩)
    · exact (P4.out.set_blk B4.out).set_blk (B4.out.set_ 0 _)
    · exact ((D4.out.set (a := w.heap.size) (i := 0) (Nat.le_refl _) _).set (a := w.heap.size) (i := 1) (Nat.le_refl _) _).grown
    · exact ((D4.out.set (a := w.heap.size) (i := 0) (Nat.le_refl _) _).set (a := w.heap.size) (i := 1) (Nat.le_refl _) _).rd

/-- What a law's draw gives. -/
def PolPost (w : World) (e : Ending) (w' : World) : Prop := ∃ (po : Pol) (v : Value) (B : Nat), e = .returned v ∧ PolOwn w' B po v ∧ w.heap.size ≤ B ∧ Below w.heap.size w w' ∧ (po.rules.length ≤ 9 ∧ ∀ r ∈ po.rules, r.tests.length ≤ 11)
theorem PolPost.mk {w w' : World} {B : Nat} {po : Pol} {v : Value} (h1 : PolOwn w' B po v) (hB : w.heap.size ≤ B) (h2 : Below w.heap.size w w') (h5 : po.rules.length ≤ 9 ∧ ∀ r ∈ po.rules, r.tests.length ≤ 11) : PolPost w (.returned v) w' := ⟨po, v, B, rfl, h1, hB, h2, h5⟩

set_option maxHeartbeats 4000000 in
theorem DrawPolicyWrite_any (v : Value) (ys : List Int) (w : World) (hs : Sl w 1 v (u8s ys)) (hb : ∀ y ∈ ys, 0 ≤ y ∧ y ≤ 255) :
    Calls Tryz.prog 11 #[v] w (PolPost w) := by
  obtain ⟨W1, hW1⟩ : ∃ W, W = w.alloc (.cells #[.slice none 0 0, .int .i64 0] 25) := ⟨_, rfl⟩
  have B1 : Hid (Blk W1 w.heap.size 25 #[.slice none 0 0, .int .i64 0]) := by rw [hW1]; exact Lib.hid (Blk.new _ _ _)
  have b1 : Hid (Below w.heap.size w W1) := by rw [hW1]; exact Lib.hid (by go_grown)
  have HS1 : Hid (Sl W1 1 v (u8s ys)) := Lib.hid (hs.below b1.out)
  have HB := Lib.hid hb
  have HW1 := Lib.hid hW1
  clear hW1 hs hb
  go_enter Tryz.func11, Tryz.ntmps11
  go_wp2_with fail
  rw [← HW1.out]
  refine (l1Open_any v ys _ HS1.out HB.out).mono ?_; rintro e w2 ⟨rfl, r2, b2⟩
  have D2 := Lib.hid (Dq.start r2)
  have HB2 := Lib.hid (below_then b1.out b2)
  have K2 := Lib.hid (B1.out.below b2 B1.out.lt)
  have hlt1 := B1.out.lt
  have HLT := Lib.hid hlt1
  obtain ⟨g, hg⟩ : ∃ g, g = W1.heap.size := ⟨_, rfl⟩
  rw [← hg] at D2 HLT ⊢
  clear r2 b2 HW1 hlt1 hg B1 b1 HS1
  go_wp2_with fail
  refine (pick_any g 0 3 _ D2.out.rd (by omega)).mono ?_; rintro e w3 ⟨k3, rfl, a3, b3, g3, r3⟩
  have D3 := Lib.hid (D2.out.step g3 r3)
  have K3 := Lib.hid (K2.out.grown g3 (fun e => by have := HLT.out; injection e with e; omega))
  have HB3 := Lib.hid (show Below w.heap.size w w3 from HB2.out.grown g3 HB2.out.size (fun k hk => by have := HLT.out; injection hk with hk; omega))
  have HL3 := Lib.hid (show w.heap.size ≤ w3.heap.size from HB3.out.size)
  clear g3 r3 b3 D2
  have finish : Hid (∀ (w5 : World) (po : Pol) (v : Value) (B q : Nat) (A : Option Addr) (n c : Nat), v = .agg #[.slice A n c, .int .i64 po.els] → PolOwn w5 B po v → w3.heap.size ≤ B → w3.grownBy w5 (some g) → (po.rules.length ≤ 9 ∧ ∀ r ∈ po.rules, r.tests.length ≤ 11) →
      Blk w5 w.heap.size 25 #[.slice none 0 0, .int .i64 0] ∧ PolPost w (.returned v) ((w5.setCell ⟨w.heap.size, 0, none⟩ (.slice A n c)).setCell ⟨w.heap.size, 1, none⟩ (.int .i64 po.els))) := Lib.hid (fun w5 po v B q A n c hv hp hB hg hs => by
    have K5 := K3.out.grown hg (fun e => by have := HLT.out; injection e with e; omega)
    refine ⟨K5, PolPost.mk ((hp.set_blk K5).set_blk (K5.set_ 0 _)) (by have := HL3.out; omega) ?_ hs⟩
    exact ((HB3.out.grown hg HB3.out.size (fun k hk => by have := HLT.out; injection hk with hk; omega)).setCell (p := ⟨w.heap.size, 0, none⟩) (Nat.le_refl _) _).setCell (p := ⟨w.heap.size, 1, none⟩) (Nat.le_refl _) _)
  by_cases hk : k3 = 0
  · subst hk
    go_wp2_with fail
    refine (l11Policy_small g 1 8 4 w3 D3.out.rd (by omega) (by omega) (by omega)).mono ?_; rintro e w5 ⟨po, v', q, rfl, ⟨B, hB, hpo⟩, hg, hr, hq, hsm⟩
    obtain ⟨A, n, c, rfl⟩ := hpo.form
    obtain ⟨K5, hf⟩ := finish.out w5 po _ B q A n c rfl hpo hB hg ⟨by have := hsm.1; omega, fun r hr => by have := hsm.2 r hr; omega⟩
    have HK5 := Lib.hid K5; have HF := Lib.hid hf
    have x0 := (show _ = some (Value.slice none 0 0) from HK5.out.cell 0); have x1 := (show _ = some (Value.int .i64 0) from HK5.out.cell 1); have f0 := HK5.out.frozen 0; have f1 := HK5.out.frozen 1
    clear hpo hg hr hsm K5 hf
    go_wp2
    exact bodyPost_ret (v := .agg #[.slice A n c, .int .i64 po.els]) (by simp [results, Tryz.results11, go_sem, x0, x1]) rfl HF.out
  · have hkd : (k3 == 0) = false := by simpa using hk
    go_wp2_with fail
    refine (l11AnyPolicy_any g 1 w3 D3.out.rd (by omega)).mono ?_; rintro e w5 ⟨po, v', q, B, rfl, hpo, hB, hg, hr, hq, hsm⟩
    obtain ⟨A, n, c, rfl⟩ := hpo.form
    obtain ⟨K5, hf⟩ := finish.out w5 po _ B q A n c rfl hpo hB hg hsm
    have HK5 := Lib.hid K5; have HF := Lib.hid hf
    have x0 := (show _ = some (Value.slice none 0 0) from HK5.out.cell 0); have x1 := (show _ = some (Value.int .i64 0) from HK5.out.cell 1); have f0 := HK5.out.frozen 0; have f1 := HK5.out.frozen 1
    clear hpo hg hr hsm K5 hf
    go_wp2
    exact bodyPost_ret (v := .agg #[.slice A n c, .int .i64 po.els]) (by simp [results, Tryz.results11, go_sem, x0, x1]) rfl HF.out

theorem DrawMakeCode_any (v : Value) (ys : List Int) (w : World) (hs : Sl w 1 v (u8s ys)) (hb : ∀ y ∈ ys, 0 ≤ y ∧ y ≤ 255) :
    Calls Tryz.prog 4 #[v] w (PolPost w) := by
  obtain ⟨W1, hW1⟩ : ∃ W, W = w.alloc (.cells #[.slice none 0 0, .int .i64 0] 25) := ⟨_, rfl⟩
  have B1 : Hid (Blk W1 w.heap.size 25 #[.slice none 0 0, .int .i64 0]) := by rw [hW1]; exact Lib.hid (Blk.new _ _ _)
  have b1 : Hid (Below w.heap.size w W1) := by rw [hW1]; exact Lib.hid (by go_grown)
  have HS1 : Hid (Sl W1 1 v (u8s ys)) := Lib.hid (hs.below b1.out)
  have HB := Lib.hid hb
  have HW1 := Lib.hid hW1
  clear hW1 hs hb
  go_enter Tryz.func4, Tryz.ntmps4
  go_wp2_with fail
  rw [← HW1.out]
  refine (DrawPolicyWrite_any v ys W1 HS1.out HB.out).mono ?_; rintro e w5 ⟨po, v', B, rfl, hpo, hB, hbl, hsm⟩
  obtain ⟨A, n, c, rfl⟩ := hpo.form
  have HK5 := Lib.hid (B1.out.below hbl B1.out.lt)
  have HF : Hid (PolPost w (.returned (.agg #[.slice A n c, .int .i64 po.els])) ((w5.setCell ⟨w.heap.size, 0, none⟩ (.slice A n c)).setCell ⟨w.heap.size, 1, none⟩ (.int .i64 po.els))) :=
    Lib.hid (PolPost.mk ((hpo.set_blk HK5.out).set_blk (HK5.out.set_ 0 _)) (Nat.le_trans b1.out.size hB) (((below_then b1.out hbl).setCell (p := ⟨w.heap.size, 0, none⟩) (Nat.le_refl _) _).setCell (p := ⟨w.heap.size, 1, none⟩) (Nat.le_refl _) _) hsm)
  have x0 := (show _ = some (Value.slice none 0 0) from HK5.out.cell 0); have x1 := (show _ = some (Value.int .i64 0) from HK5.out.cell 1); have f0 := HK5.out.frozen 0; have f1 := HK5.out.frozen 1
  clear hpo hbl hsm HW1 HB HS1 b1
  go_wp2
  exact bodyPost_ret (v := .agg #[.slice A n c, .int .i64 po.els]) (by simp [results, Tryz.results4, go_sem, x0, x1]) rfl HF.out
end Go.Proofs.YtgdelnpielfhkaaGreatDoor
