/- impl.CodeRun and spec.CodeRun: both run a program that is ok on a call that is. -/
import Derived.Test.YtbbhilhckbdgjaaDoorRunI2
import Derived.Test.YtbbhilhckbdgjaaDoorCodeWI
import Derived.Test.YtbbhilhckbdgjaaDoorCallW
namespace Go.Proofs.YtbbhilhckbdgjaaDoor
open Go.RowKit
set_option linter.unusedSimpArgs false
set_option linter.unusedVariables false

set_option maxHeartbeats 4000000 in
theorem runCode_ok (A : Option Addr) (m c : Nat) (g : List In4) (n : Int) (A1 : Option Addr) (c1 : Nat) (xs : List Int) (w : World) (hA : SlA w 4 A m c (insR g)) (hg : waysOk g) (hA1 : SlA w 1 A1 4 c1 (ints xs)) :
    Calls Tryd.prog 20 #[.slice A m c, .agg #[.int .i64 n, .slice A1 4 c1]] w (RunEnd g n xs w) := by
  have hl : g.length = m := by have := hA.len; rwa [insR_len] at this
  have hc := hA.cap
  have hm := hA.max
  unfold maxLen at hm
  have h1 : 1 ≤ m := by rw [← hl]; exact hg.1
  have h2 : m ≤ 160 := by rw [← hl]; exact hg.2.1
  have HL := Lib.hid hl; have HG := Lib.hid hg; have HA := Lib.hid hA; have HA1 := Lib.hid hA1; clear hl hg hA hA1
  go_enter Tryd.func20, Tryd.ntmps20
  go_wp2
  go_loopw [8, 9] (fun i cn wr => ∃ (j at_ : Nat) (hand : Int), i = .int .i64 at_ ∧ cn = .int .i64 ((j : Int) + 1) ∧ runSt g n xs j = (at_, hand) ∧ at_ < m ∧ j ≤ at_ ∧ Going g n xs j ∧ Blk wr w.heap.size 32 #[.int .i64 n, .slice A1 4 c1] ∧ Blk wr (w.heap.size + 1) 3 #[.int .i64 hand] ∧ Below w.heap.size w wr) (fun i _ _ => m - (intOf i).toNat)
  case atStart =>
    refine ⟨0, 0, 0, rfl, rfl, rfl, by omega, Nat.le_refl _, fun _ _ h => absurd h (by omega), (Blk.new w _ _).alloc _, ?_, by go_grown⟩
    have h3 := Blk.new (w.alloc (.cells #[.int .i64 n, .slice A1 4 c1] 32)) 3 #[.int .i64 0]
    rwa [World.size_alloc] at h3
  case round =>
    obtain ⟨j, at_, hand, rfl, rfl, hr, hat, hja, hgo, hbox, hhb, hbw⟩ := hrel
    have hsz := hbw.size
    have hbl := hbox.lt
    have hhl := hhb.lt
    have hati : (at_ : Int) < m := by omega
    obtain ⟨b, off, x, rfl, hab, hgx, hcell⟩ := ins_get HA.out hat
    obtain ⟨c0, c1', c2, c3⟩ := hcell wr _ hbw hab
    have hin := leftOf_in HG.out hgx
    have ho := HG.out.2.2 at_ x (by rw [HL.out]; exact hat) hgx
    have hnx := run_next hr hgx
    have hgn : x.op ≠ 6 → Going g n xs (j + 1) := hgo.next hr hgx
    have hen : x.op = 6 → EndsAt g n xs j x := fun h6 => ⟨by rw [hr]; exact hgx, h6, hgo⟩
    have hdo := fun h6 : x.op ≠ 6 => do1_any x _ hand n A1 c1 xs (w.heap.size + 1) w.heap.size wr ho h6 hhb hbox (by omega) (HA1.out.below hbw)
    obtain ⟨op, k, yes, no⟩ := x
    simp only at c0 c1' c2 c3 hgn hen hdo
    have HN := Lib.hid hnx; have HI := Lib.hid hin; have HGN := Lib.hid hgn; have HEN := Lib.hid hen; have HB := Lib.hid hbox; have HDO := Lib.hid hdo
    clear hnx hin hgn hen hcell hgx hr hgo hbox hdo ho hhb
    by_cases h6 : op = 6
    · have hd : (op != 6) = false := by simp [h6]
      have H6 := Lib.hid h6; clear h6
      go_wp2
      go_ret2
      exact ⟨j, _, HEN.out H6.out, rfl, hbw⟩
    · have hd : (op != 6) = true := by simp [h6]
      have HG6 := HGN.out h6
      have hlt := HI.out h6 hand
      rw [HL.out] at hlt
      obtain ⟨lf, hlf⟩ := Int.eq_ofNat_of_zero_le hlt.1
      have hdo := HDO.out h6
      have hnx := HN.out
      rw [hlf] at hdo hnx hlt
      rw [Int.toNat_natCast] at hnx hlt
      have hlt2 := hlt.2
      have HD2 := Lib.hid hdo; have HN2 := Lib.hid hnx; clear hdo hnx hlf hlt HDO HN HI HEN
      go_wp2_with fail
      refine (HD2.out).mono ?_; rintro e w3 ⟨rfl, hh3, g3⟩
      have hB3 := HB.out.grown g3 (by intro e; simp at e)
      have hb3 : Below w.heap.size wr w3 := below_of_grown g3 (by omega) hhl
      have H3 := Lib.hid hB3; have HH3 := Lib.hid hh3; clear hB3 hh3
      go_wp2
      exact ⟨⟨j + 1, at_ + 1 + lf, _, by go_num, by go_num, HN2.out, hlt2, by omega, HG6, H3.out, HH3.out, hbw.trans hb3⟩, by simp [intOf]; try omega⟩

def RunPost (g : List In4) (n : Int) (xs : List Int) (w : World) (e : Ending) (w' : World) : Prop := e = .returned (.tuple #[.int .i64 (runBoth g n xs).1, .int .i64 (runBoth g n xs).2]) ∧ Below w.heap.size w w'
theorem RunEnd.both {g : List In4} {n : Int} {xs : List Int} {w w' : World} {e : Ending} (hg : codeOk g) (hc : callOk n xs) (h : RunEnd g n xs w e w') : RunPost g n xs w e w' := by
  obtain ⟨j, x, he, rfl, hb⟩ := h
  refine ⟨?_, hb⟩
  have : runBoth g n xs = (x.k, (j : Int) + 1) := by unfold runBoth; rw [codeOkB_iff.2 hg, callOkB_iff.2 hc]; exact runOf_eq he
  rw [this]
theorem runBoth_no {g : List In4} {n : Int} {xs : List Int} (h : ¬ (codeOk g ∧ callOk n xs)) : runBoth g n xs = (4, 0) := by
  unfold runBoth
  rw [if_neg]
  rw [Bool.and_eq_true, codeOkB_iff, callOkB_iff]
  exact h
set_option maxHeartbeats 2000000 in
theorem sCodeRun_any (u : Value) (g : List In4) (n : Int) (cv : Value) (xs : List Int) (w : World) (hu : Sl w 4 u (insR g)) (hv : Sl w 1 cv (ints xs)) :
    Calls Tryd.prog 6 #[u, .agg #[.int .i64 n, cv]] w (RunPost g n xs w) := by
  have hv0 := hv
  have hu0 := hu
  obtain ⟨A, m, c, rfl, hA⟩ := hu
  obtain ⟨A1, n1, c1, rfl, hA1⟩ := hv
  have hl1 : xs.length = n1 := by have := hA1.len; rwa [ints_len] at this
  have hb0 : Below w.heap.size w (w.alloc (.cells #[.int .i64 n, .slice A1 n1 c1] 32)) := by go_grown
  have hbx := Blk.new w 32 #[.int .i64 n, .slice A1 n1 c1]
  have HL1 := Lib.hid hl1; have HA := Lib.hid hA; have HA1 := Lib.hid hA1; have HBX := Lib.hid hbx; clear hl1 hA hA1 hbx
  by_cases hg : codeOk g
  · have hgb : codeOkB g = true := codeOkB_iff.2 hg
    by_cases hc : callOk n xs
    · have hcb : callOkB n xs = true := callOkB_iff.2 hc
      have h4 : n1 = 4 := by rw [← HL1.out]; exact hc.2.1
      subst h4
      have HG := Lib.hid hg; have HC := Lib.hid hc; clear hg hc
      go_enter Tryd.func6, Tryd.ntmps6
      go_wp2_with fail
      refine (sCodeOk_any _ g _ (hu0.below hb0)).mono ?_; rintro e w1 ⟨rfl, hb1⟩
      rw [hgb]
      have hb01 := below_then hb0 hb1
      have p0 : w1.cell? ⟨w.heap.size, 0, none⟩ = some (.int .i64 n) := (hb1.cell (p := ⟨w.heap.size, 0, none⟩) (by simp)).trans (HBX.out.cell 0)
      have p1 : w1.cell? ⟨w.heap.size, 1, none⟩ = some (.slice A1 4 c1) := (hb1.cell (p := ⟨w.heap.size, 1, none⟩) (by simp)).trans (HBX.out.cell 1)
      have hz1 : w.heap.size < w1.heap.size := by have := hb1.size; simp at this; omega
      go_wp2_with fail
      refine (sCallOk_any n _ xs _ (hv0.below hb01)).mono ?_; rintro e w2 ⟨rfl, hb2⟩
      rw [hcb]
      have hb02 := below_then hb01 hb2
      replace p0 := (hb2.cell (p := ⟨w.heap.size, 0, none⟩) hz1).trans p0
      replace p1 := (hb2.cell (p := ⟨w.heap.size, 1, none⟩) hz1).trans p1
      go_wp2_with fail
      refine (l3Run_ok A m c g n A1 c1 xs _ (HA.out.below hb02) HG.out.1 (HA1.out.below hb02)).mono ?_; intro e w3 hp3
      obtain ⟨j, x, he, rfl, hb3⟩ := hp3
      have hrun : RunPost g n xs w (.returned (.tuple #[.int .i64 x.k, .int .i64 ((j : Int) + 1)])) w3 := RunEnd.both HG.out HC.out ⟨j, x, he, rfl, below_then hb02 hb3⟩
      have HR := Lib.hid hrun; clear hrun he
      go_wp2
      go_ret2
      exact HR.out
    · have hcb : callOkB n xs = false := by rw [← Bool.not_eq_true, callOkB_iff]; exact hc
      have hno := runBoth_no (g := g) (fun h => hc h.2)
      have HNO := Lib.hid hno; clear hno hc hg
      go_enter Tryd.func6, Tryd.ntmps6
      go_wp2_with fail
      refine (sCodeOk_any _ g _ (hu0.below hb0)).mono ?_; rintro e w1 ⟨rfl, hb1⟩
      rw [hgb]
      have hb01 := below_then hb0 hb1
      have p0 : w1.cell? ⟨w.heap.size, 0, none⟩ = some (.int .i64 n) := (hb1.cell (p := ⟨w.heap.size, 0, none⟩) (by simp)).trans (HBX.out.cell 0)
      have p1 : w1.cell? ⟨w.heap.size, 1, none⟩ = some (.slice A1 n1 c1) := (hb1.cell (p := ⟨w.heap.size, 1, none⟩) (by simp)).trans (HBX.out.cell 1)
      go_wp2_with fail
      refine (sCallOk_any n _ xs _ (hv0.below hb01)).mono ?_; rintro e w2 ⟨rfl, hb2⟩
      rw [hcb]
      go_wp2
      go_ret2
      refine ⟨?_, below_then hb01 hb2⟩
      rw [HNO.out]
      rfl
  · have hgb := codeOkB_no hg
    have hno := runBoth_no (n := n) (xs := xs) (fun h => hg h.1)
    have HNO := Lib.hid hno; clear hno hg
    go_enter Tryd.func6, Tryd.ntmps6
    go_wp2_with fail
    refine (sCodeOk_any _ g _ (hu0.below hb0)).mono ?_; rintro e w1 ⟨rfl, hb1⟩
    rw [hgb]
    go_wp2
    go_ret2
    refine ⟨?_, below_then hb0 hb1⟩
    rw [HNO.out]
    rfl

set_option maxHeartbeats 2000000 in
theorem CodeRun_any (u : Value) (g : List In4) (n : Int) (cv : Value) (xs : List Int) (w : World) (hu : Sl w 4 u (insR g)) (hv : Sl w 1 cv (ints xs)) (hp : Pow w) :
    Calls Tryd.prog 9 #[u, .agg #[.int .i64 n, cv]] w (RunPost g n xs w) := by
  have hv0 := hv
  have hu0 := hu
  obtain ⟨A, m, c, rfl, hA⟩ := hu
  obtain ⟨A1, n1, c1, rfl, hA1⟩ := hv
  have hl1 : xs.length = n1 := by have := hA1.len; rwa [ints_len] at this
  have hb0 : Below w.heap.size w (w.alloc (.cells #[.int .i64 n, .slice A1 n1 c1] 32)) := by go_grown
  have hbx := Blk.new w 32 #[.int .i64 n, .slice A1 n1 c1]
  have HL1 := Lib.hid hl1; have HA := Lib.hid hA; have HA1 := Lib.hid hA1; have HBX := Lib.hid hbx; clear hl1 hA hA1 hbx
  by_cases hg : codeOk g
  · have hgb : codeOkB g = true := codeOkB_iff.2 hg
    by_cases hc : callOk n xs
    · have hcb : callOkB n xs = true := callOkB_iff.2 hc
      have h4 : n1 = 4 := by rw [← HL1.out]; exact hc.2.1
      subst h4
      have HG := Lib.hid hg; have HC := Lib.hid hc; clear hg hc
      go_enter Tryd.func9, Tryd.ntmps9
      go_wp2_with fail
      refine (CodeOk_any _ g _ (hu0.below hb0) (hp.below hb0)).mono ?_; rintro e w1 ⟨rfl, hb1⟩
      rw [hgb]
      have hb01 := below_then hb0 hb1
      have p0 : w1.cell? ⟨w.heap.size, 0, none⟩ = some (.int .i64 n) := (hb1.cell (p := ⟨w.heap.size, 0, none⟩) (by simp)).trans (HBX.out.cell 0)
      have p1 : w1.cell? ⟨w.heap.size, 1, none⟩ = some (.slice A1 4 c1) := (hb1.cell (p := ⟨w.heap.size, 1, none⟩) (by simp)).trans (HBX.out.cell 1)
      have hz1 : w.heap.size < w1.heap.size := by have := hb1.size; simp at this; omega
      go_wp2_with fail
      refine (CallOk_any n _ xs _ (hv0.below hb01)).mono ?_; rintro e w2 ⟨rfl, hb2⟩
      rw [hcb]
      have hb02 := below_then hb01 hb2
      replace p0 := (hb2.cell (p := ⟨w.heap.size, 0, none⟩) hz1).trans p0
      replace p1 := (hb2.cell (p := ⟨w.heap.size, 1, none⟩) hz1).trans p1
      go_wp2_with fail
      refine (runCode_ok A m c g n A1 c1 xs _ (HA.out.below hb02) HG.out.1 (HA1.out.below hb02)).mono ?_; intro e w3 hp3
      obtain ⟨j, x, he, rfl, hb3⟩ := hp3
      have hrun : RunPost g n xs w (.returned (.tuple #[.int .i64 x.k, .int .i64 ((j : Int) + 1)])) w3 := RunEnd.both HG.out HC.out ⟨j, x, he, rfl, below_then hb02 hb3⟩
      have HR := Lib.hid hrun; clear hrun he
      go_wp2
      go_ret2
      exact HR.out
    · have hcb : callOkB n xs = false := by rw [← Bool.not_eq_true, callOkB_iff]; exact hc
      have hno := runBoth_no (g := g) (fun h => hc h.2)
      have HNO := Lib.hid hno; clear hno hc hg
      go_enter Tryd.func9, Tryd.ntmps9
      go_wp2_with fail
      refine (CodeOk_any _ g _ (hu0.below hb0) (hp.below hb0)).mono ?_; rintro e w1 ⟨rfl, hb1⟩
      rw [hgb]
      have hb01 := below_then hb0 hb1
      have p0 : w1.cell? ⟨w.heap.size, 0, none⟩ = some (.int .i64 n) := (hb1.cell (p := ⟨w.heap.size, 0, none⟩) (by simp)).trans (HBX.out.cell 0)
      have p1 : w1.cell? ⟨w.heap.size, 1, none⟩ = some (.slice A1 n1 c1) := (hb1.cell (p := ⟨w.heap.size, 1, none⟩) (by simp)).trans (HBX.out.cell 1)
      go_wp2_with fail
      refine (CallOk_any n _ xs _ (hv0.below hb01)).mono ?_; rintro e w2 ⟨rfl, hb2⟩
      rw [hcb]
      go_wp2
      go_ret2
      refine ⟨?_, below_then hb01 hb2⟩
      rw [HNO.out]
      rfl
  · have hgb := codeOkB_no hg
    have hno := runBoth_no (n := n) (xs := xs) (fun h => hg h.1)
    have HNO := Lib.hid hno; clear hno hg
    go_enter Tryd.func9, Tryd.ntmps9
    go_wp2_with fail
    refine (CodeOk_any _ g _ (hu0.below hb0) (hp.below hb0)).mono ?_; rintro e w1 ⟨rfl, hb1⟩
    rw [hgb]
    go_wp2
    go_ret2
    refine ⟨?_, below_then hb0 hb1⟩
    rw [HNO.out]
    rfl

end Go.Proofs.YtbbhilhckbdgjaaDoor
