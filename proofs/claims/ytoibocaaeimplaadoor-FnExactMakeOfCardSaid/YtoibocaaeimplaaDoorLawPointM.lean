/- The laws' helpers on points that write: toPointS as a row of its own, markPointS. -/
import Derived.Test.YtoibocaaeimplaaDoorLawPoint
import Derived.Test.YtoibocaaeimplaaDoorLawIns
import Derived.Deep.OwnRows
namespace Go.Proofs.YtoibocaaeimplaaDoor
open Go.RowKit Go.Sort
set_option linter.unusedSimpArgs false
set_option linter.unusedVariables false

set_option maxHeartbeats 1000000 in
theorem toPointS_own (u : Value) (g : List Pt) (w : World) (hu : Sl w 7 u (g.map Pt.cells)) (hn : g.length ≤ 1048576) :
    Calls Tryd.prog 8 #[u] w fun e w' => ∃ v, e = .returned v ∧ w'.ownsRow w.heap.size 47 7 v g.length (g.map Pt.cells).flatten ∧ Below w.heap.size w w' := by
  obtain ⟨A, n, c, rfl, hA⟩ := hu
  have hl : g.length = n := by have := hA.len; simpa using this
  have hc := hA.cap
  have hm := hA.max
  unfold maxLen at hm
  rw [hl] at hn
  have hmk := fun W => run_make_rowN (P := Tryd.prog) 27 47 _ 7 56 Tryd.underlying27 info_Point .i64 n (by omega) (by omega) W
  have HL := Lib.hid hl; clear hl
  go_enter Tryd.func8, Tryd.ntmps8
  go_wp2
  go_loopw [4] (fun i wr => ∃ (k : Nat) (cur : Array Value), k ≤ n ∧ i = .int .i64 k ∧ Blk wr w.heap.size 47 cur ∧ cur.size = n * 7 ∧ FilledTo cur 7 (g.map Pt.cells) k ∧ Below w.heap.size w wr) (fun i _ => n - (intOf i).toNat)
  case atStart => exact ⟨0, _, Nat.zero_le _, rfl, Blk.new _ _ _, by simp [size_madeCells], FilledTo.zero _ _ _, by go_grown⟩
  case round =>
    obtain ⟨k, cur, hk, rfl, hbk, hcs, hf, hb⟩ := hrel
    have hsz := hb.size
    have hblt := hbk.lt
    by_cases hlt : k < n
    · obtain ⟨b, off, p, rfl, hab, hgp, hcell⟩ := pts_get hA hlt
      obtain ⟨c0, c1, c2, c3, c4, c5, c6⟩ := hcell wr _ hb hab
      have HP := Lib.hid hgp; have HB := Lib.hid hbk; clear hgp hcell hbk
      go_wp2_with (go_at_call 27; refine (toPoint_any p _).mono ?_; rintro e w1 ⟨rfl, hb1⟩; have hbk1 := HB.out.below hb1 hblt; obtain ⟨x0, e0⟩ := hbk1.some_ (i := k * 7) (by omega); obtain ⟨x1, e1⟩ := hbk1.some_ (i := k * 7 + 1) (by omega); obtain ⟨x2, e2⟩ := hbk1.some_ (i := k * 7 + 2) (by omega); obtain ⟨x3, e3⟩ := hbk1.some_ (i := k * 7 + 3) (by omega); obtain ⟨x4, e4⟩ := hbk1.some_ (i := k * 7 + 4) (by omega); obtain ⟨x5, e5⟩ := hbk1.some_ (i := k * 7 + 5) (by omega); obtain ⟨x6, e6⟩ := hbk1.some_ (i := k * 7 + 6) (by omega); have f0 := hbk1.frozen (k * 7); have f1 := hbk1.frozen (k * 7 + 1); have f2 := hbk1.frozen (k * 7 + 2); have f3 := hbk1.frozen (k * 7 + 3); have f4 := hbk1.frozen (k * 7 + 4); have f5 := hbk1.frozen (k * 7 + 5); have f6 := hbk1.frozen (k * 7 + 6); have HB1 := Lib.hid hbk1; clear hbk1)
      refine ⟨⟨k + 1, setArr cur (k * 7) p.cells, by omega, by go_num, HB1.out.run p.cells _ _ (k * 7), (setArr_size _ _ _).trans hcs, hf.next (by simp [HP.out]) (Pt.rows g) hcs hlt, ?_⟩, by simp [intOf]; omega⟩
      exact below_run (Nat.le_refl _) p.cells w1 _ (below_step hb hsz hb1)
    · obtain rfl : k = n := by omega
      go_wp2
      go_ret
      refine ⟨_, rfl, ?_, hb⟩
      rw [HL.out]
      exact own_of_filled hbk (Nat.le_refl _) (by simpa using HL.out) (Pt.rows g) hcs (by unfold maxLen; omega) hf

set_option maxHeartbeats 2000000 in
theorem markPointS_own (base : Nat) (v : Value) (ys : List Value) (n : Nat) (m : Int) (w : World) (h : w.ownsRow base 47 7 v n ys) (hn2 : n ≤ 1048576) (hm : 0 ≤ m) (hm2 : m ≤ 4611686018427387904) :
    Calls Tryd.prog 12 #[v, .int .i64 m] w fun e w' =>
      e = .returned (.int .i64 (m + (n * 7 : Nat))) ∧ w.grownBy w' v.ownBlock ∧ w'.ownsRow base 47 7 v n (marksV m (n * 7)) := by
  obtain ⟨A, c, rfl, hcn, hcm⟩ : ∃ A c, v = .slice A n c ∧ n ≤ c ∧ c ≤ maxLen := by
    rcases h.2 with ⟨rfl, h0⟩ | ⟨g, cap, cur, rfl, _, hg, hnc, hm, _, htake⟩
    · exact ⟨none, 0, by rw [h0], by omega, by simp⟩
    · exact ⟨_, _, rfl, hnc, hm⟩
  unfold maxLen at hcm
  have hy := h.1
  go_enter Tryd.func12, Tryd.ntmps12
  go_wp2
  go_loopw [1, 5] (fun j i wr => ∃ k : Nat, k ≤ n ∧ i = .int .i64 k ∧ j = .int .i64 (m + (k * 7 : Nat)) ∧ w.grownBy wr (Value.slice A n c).ownBlock ∧ wr.ownsRow base 47 7 (.slice A n c) n (marksV m (k * 7) ++ ys.drop (k * 7))) (fun _ i _ => n - natOf i)
  case atStart => exact ⟨0, Nat.zero_le _, rfl, by simp, World.grownBy.refl _ _, by simpa [marksV, marks] using h⟩
  case round =>
    obtain ⟨k, hk, rfl, rfl, hg, ho⟩ := hrel
    by_cases hlt : k < n
    · obtain ⟨g, cap, hform, _, _⟩ := ho.form (by omega)
      obtain ⟨rfl, rfl⟩ : A = some ⟨g, 0, none⟩ ∧ c = cap := by simpa using hform
      have hcl : ∀ j : Nat, j < n * 7 → ∃ u, wr.cell? ⟨g, j, none⟩ = some u := fun j hj => ⟨_, (ho.cellAt j hj).trans (List.getElem?_eq_getElem (by rw [ho.1]; omega))⟩
      obtain ⟨u0, e0⟩ := hcl (k * 7) (by omega)
      obtain ⟨u1, e1⟩ := hcl (k * 7 + 1) (by omega)
      obtain ⟨u2, e2⟩ := hcl (k * 7 + 2) (by omega)
      obtain ⟨u3, e3⟩ := hcl (k * 7 + 3) (by omega)
      obtain ⟨u4, e4⟩ := hcl (k * 7 + 4) (by omega)
      obtain ⟨u5, e5⟩ := hcl (k * 7 + 5) (by omega)
      obtain ⟨u6, e6⟩ := hcl (k * 7 + 6) (by omega)
      have f0 := ho.frozenAt (k * 7); have f1 := ho.frozenAt (k * 7 + 1); have f2 := ho.frozenAt (k * 7 + 2); have f3 := ho.frozenAt (k * 7 + 3); have f4 := ho.frozenAt (k * 7 + 4); have f5 := ho.frozenAt (k * 7 + 5); have f6 := ho.frozenAt (k * 7 + 6)
      obtain ⟨o1, g1⟩ := ho.stored (k * 7) (.int .i64 (m + (k * 7 : Nat)))
      rw [marksV_set (by omega) _ rfl] at o1
      obtain ⟨o2, g2⟩ := o1.stored (k * 7 + 1) (.int .i64 (m + (k * 7 : Nat) + 1))
      rw [marksV_set (by omega) _ (by omega)] at o2
      obtain ⟨o3, g3⟩ := o2.stored (k * 7 + 2) (.int .i64 (m + (k * 7 : Nat) + 1 + 1))
      rw [marksV_set (by omega) _ (by omega)] at o3
      obtain ⟨o4, g4⟩ := o3.stored (k * 7 + 3) (.int .i64 (m + (k * 7 : Nat) + 1 + 1 + 1))
      rw [marksV_set (by omega) _ (by omega)] at o4
      obtain ⟨o5, g5⟩ := o4.stored (k * 7 + 4) (.int .i64 (m + (k * 7 : Nat) + 1 + 1 + 1 + 1))
      rw [marksV_set (by omega) _ (by omega)] at o5
      obtain ⟨o6, g6⟩ := o5.stored (k * 7 + 5) (.int .i64 (m + (k * 7 : Nat) + 1 + 1 + 1 + 1 + 1))
      rw [marksV_set (by omega) _ (by omega)] at o6
      obtain ⟨o7, g7⟩ := o6.stored (k * 7 + 6) (.int .i64 (m + (k * 7 : Nat) + 1 + 1 + 1 + 1 + 1 + 1))
      rw [marksV_set (by omega) _ (by omega)] at o7
      have HO := Lib.hid o7; have HG := Lib.hid ((((((hg.trans g1).trans g2).trans g3).trans g4).trans g5).trans g6 |>.trans g7); clear ho o1 o2 o3 o4 o5 o6 o7 g1 g2 g3 g4 g5 g6 g7 hcl hg
      go_wp2
      exact ⟨⟨k + 1, by omega, by go_num, by go_num, HG.out, by rw [show (k + 1) * 7 = k * 7 + 1 + 1 + 1 + 1 + 1 + 1 + 1 by omega]; exact HO.out⟩, by simp [natOf]; omega⟩
    · obtain rfl : k = n := by omega
      go_wp2
      go_ret
      refine ⟨rfl, hg, ?_⟩
      rwa [List.drop_of_length_le (by omega), List.append_nil] at ho

end Go.Proofs.YtoibocaaeimplaaDoor
