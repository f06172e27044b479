/- How the points of a graph are laid: memory words; l5Size, l5Test. -/
import Derived.Test.YtoibocaaeimplaaDoorBRow
import Derived.Test.YtoibocaaeimplaaDoorLayP
import Derived.BigRegion
namespace Go.Proofs.YtoibocaaeimplaaDoor
open Go.RowKit
set_option linter.unusedSimpArgs false
set_option linter.unusedVariables false

/-- A lay of so many points. -/
structure Lay (w : World) (L yb nb ab n : Nat) (ys ns : List Bool) (ps : List Nat) : Prop where
  box : Blk w L 79 #[.slice (some ⟨yb, 0, none⟩) n n, .slice (some ⟨nb, 0, none⟩) n n, .slice (some ⟨ab, 0, none⟩) n n]
  yes : Blk w yb 4 (bRow ys)
  no : Blk w nb 4 (bRow ns)
  pl : Blk w ab 3 (nRow ps)
  yl : ys.length = n
  nl : ns.length = n
  al : ps.length = n
  ne : yb ≠ nb
theorem blk_apart {w : World} {h h' : Nat} {t t' : TypeId} {cs cs' : Array Value} (a : Blk w h t cs) (b : Blk w h' t' cs') (ht : t ≠ t') : h ≠ h' := fun e => by
  subst e
  have := (show w.heap[h]? = _ from a).symm.trans b
  exact ht (by injection this with h1; injection h1 with h2 h3)
theorem Lay.below {w w' : World} {L yb nb ab n : Nat} {ys ns : List Bool} {ps : List Nat} (h : Lay w L yb nb ab n ys ns ps) (hb : Below w.heap.size w w') : Lay w' L yb nb ab n ys ns ps :=
  ⟨h.box.below hb h.box.lt, h.yes.below hb h.yes.lt, h.no.below hb h.no.lt, h.pl.below hb h.pl.lt, h.yl, h.nl, h.al, h.ne⟩
theorem Lay.set_yes {w : World} {L yb nb ab n : Nat} {ys ns : List Bool} {ps : List Nat} (h : Lay w L yb nb ab n ys ns ps) (k : Nat) (b : Bool) : Lay (w.setCell ⟨yb, k, none⟩ (.bool b)) L yb nb ab n (ys.set k b) ns ps :=
  ⟨h.box.far (p := ⟨yb, k, none⟩) (blk_apart h.box h.yes (by decide)) _, by have := h.yes.set_ k (.bool b); rwa [bRow_set] at this, h.no.far (p := ⟨yb, k, none⟩) (Ne.symm h.ne) _, h.pl.far (p := ⟨yb, k, none⟩) (blk_apart h.pl h.yes (by decide)) _, by simp [h.yl], h.nl, h.al, h.ne⟩
theorem Lay.set_no {w : World} {L yb nb ab n : Nat} {ys ns : List Bool} {ps : List Nat} (h : Lay w L yb nb ab n ys ns ps) (k : Nat) (b : Bool) : Lay (w.setCell ⟨nb, k, none⟩ (.bool b)) L yb nb ab n ys (ns.set k b) ps :=
  ⟨h.box.far (p := ⟨nb, k, none⟩) (blk_apart h.box h.no (by decide)) _, h.yes.far (p := ⟨nb, k, none⟩) h.ne _, by have := h.no.set_ k (.bool b); rwa [bRow_set] at this, h.pl.far (p := ⟨nb, k, none⟩) (blk_apart h.pl h.no (by decide)) _, h.yl, by simp [h.nl], h.al, h.ne⟩
theorem Lay.set_pl {w : World} {L yb nb ab n : Nat} {ys ns : List Bool} {ps : List Nat} (h : Lay w L yb nb ab n ys ns ps) (k : Nat) (b : Nat) : Lay (w.setCell ⟨ab, k, none⟩ (.int .i64 (b : Int))) L yb nb ab n ys ns (ps.set k b) :=
  ⟨h.box.far (p := ⟨ab, k, none⟩) (blk_apart h.box h.pl (by decide)) _, h.yes.far (p := ⟨ab, k, none⟩) (blk_apart h.yes h.pl (by decide)) _, h.no.far (p := ⟨ab, k, none⟩) (blk_apart h.no h.pl (by decide)) _, by have := h.pl.set_ k (.int .i64 (b : Int)); rwa [nRow_set] at this, h.yl, h.nl, by simp [h.al], h.ne⟩

set_option maxHeartbeats 4000000 in
theorem l5Size_any (A : Option Addr) (n c L yb nb ab i : Nat) (g : List Pt) (ys ns : List Bool) (ps : List Nat) (w : World) (hA : SlA w 7 A n c (g.map Pt.cells)) (hL : Lay w L yb nb ab n ys ns ps) (hi : i < n) (hn : n ≤ 1000) :
    Calls Tryd.prog 67 #[.slice A n c, .pointer (some ⟨L, 0, none⟩), .int .i64 i] w fun e w' => e = .returned (.int .i64 (szAt g ys ns i : Nat)) ∧ w = w' := by
  obtain ⟨b, off, p, rfl, hab, hgp, hcell⟩ := pts_get hA hi
  obtain ⟨c0, c1, c2, c3, c4, c5, c6⟩ := hcell w _ (Below.refl _ _) hab
  have hii : (i : Int) < n := by omega
  obtain ⟨yv, hy⟩ := bRow_some hL.yl hi
  obtain ⟨nv, hnv⟩ := bRow_some hL.nl hi
  have d1 := bRow_cell hL.yes hy
  have d2 := bRow_cell hL.no hnv
  have b0 := (show _ = some (Value.slice (some ⟨yb, 0, none⟩) n n) from hL.box.cell 0)
  have b1 := (show _ = some (Value.slice (some ⟨nb, 0, none⟩) n n) from hL.box.cell 1)
  have hz : szAt g ys ns i = if p.op = 0 then 1 else 2 + (if p.mask = 4294967295 then 0 else 1) + yv.toNat + nv.toNat := by
    unfold szAt; rw [hgp, hy, hnv]; rfl
  have HZ := Lib.hid hz
  clear hA hL hcell hgp hy hnv hz
  by_cases h0 : p.op = 0
  · have hd : (p.op == 0) = true := by simp [h0]
    have H0 := Lib.hid h0
    go_enter Tryd.func67, Tryd.ntmps67
    go_wp2
    go_ret
    exact ⟨by rw [HZ.out, if_pos H0.out]; rfl, rfl⟩
  · have hd : (p.op == 0) = false := by simp [h0]
    have H0 := Lib.hid h0
    rcases Decidable.em (p.mask = 4294967295) with hm | hm
    · have hdm : (p.mask != 4294967295) = false := by simp [hm]
      have HM := Lib.hid hm
      cases yv <;> cases nv
      all_goals
        go_enter Tryd.func67, Tryd.ntmps67
        go_wp2
        go_ret
        exact ⟨by rw [HZ.out, if_neg H0.out, if_pos HM.out]; rfl, rfl⟩
    · have hdm : (p.mask != 4294967295) = true := by simp [hm]
      have HM := Lib.hid hm
      cases yv <;> cases nv
      all_goals
        go_enter Tryd.func67, Tryd.ntmps67
        go_wp2
        go_ret
        exact ⟨by rw [HZ.out, if_neg H0.out, if_neg HM.out]; rfl, rfl⟩

set_option maxHeartbeats 1000000 in
theorem l5Test_any (A : Option Addr) (n c i : Nat) (g : List Pt) (w : World) (hA : SlA w 7 A n c (g.map Pt.cells)) (hi : i < n) (hn : n ≤ 1000) :
    Calls Tryd.prog 68 #[.slice A n c, .int .i64 i] w fun e w' => e = .returned (.int .i64 (testAt g i : Nat)) ∧ w = w' := by
  obtain ⟨b, off, p, rfl, hab, hgp, hcell⟩ := pts_get hA hi
  obtain ⟨c0, c1, c2, c3, c4, c5, c6⟩ := hcell w _ (Below.refl _ _) hab
  have hii : (i : Int) < n := by omega
  have HT := Lib.hid (show testAt g i = if p.mask = 4294967295 then 2 else 3 by unfold testAt; rw [hgp])
  clear hA hcell hgp
  rcases Decidable.em (p.mask = 4294967295) with hm | hm
  · have hdm : (p.mask != 4294967295) = false := by simp [hm]
    have HM := Lib.hid hm
    go_enter Tryd.func68, Tryd.ntmps68
    go_wp2
    go_ret
    exact ⟨by rw [HT.out, if_pos HM.out]; rfl, rfl⟩
  · have hdm : (p.mask != 4294967295) = true := by simp [hm]
    have HM := Lib.hid hm
    go_enter Tryd.func68, Tryd.ntmps68
    go_wp2
    go_ret
    exact ⟨by rw [HT.out, if_neg HM.out]; rfl, rfl⟩
end Go.Proofs.YtoibocaaeimplaaDoor
