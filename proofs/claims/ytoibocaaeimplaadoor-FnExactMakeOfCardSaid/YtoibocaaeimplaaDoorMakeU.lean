/- spec's graphs of policies: l4Used: to which points something comes. -/
import Derived.Test.YtoibocaaeimplaaDoorMakeR
import Derived.Test.YtoibocaaeimplaaDoorBRow
namespace Go.Proofs.YtoibocaaeimplaaDoor
open Go.RowKit
set_option linter.unusedSimpArgs false
set_option linter.unusedVariables false

/-- Marked: a place, and whatever a marked look from a place on leads to. -/
def UsedFrom (g : List Pt) (at_ k : Nat) (us : List Bool) : Prop :=
  us.length = g.length ∧ us[at_]? = some true ∧ ∀ (i : Nat) (p : Pt), k ≤ i → i ≤ at_ → us[i]? = some true → g[i]? = some p → p.op > 0 → ∃ y n : Nat, p.yes = y ∧ p.no = n ∧ y < i ∧ n < i ∧ us[y]? = some true ∧ us[n]? = some true
theorem UsedFrom.start {g : List Pt} {at_ n : Nat} (hl : g.length = n) (h : at_ < n) : UsedFrom g at_ (at_ + 1) ((List.replicate n false).set at_ true) :=
  ⟨by simp [hl], by simp [List.getElem?_set, h], fun i p h1 h2 => by omega⟩
theorem UsedFrom.skip {g : List Pt} {at_ k : Nat} {us : List Bool} {p : Pt} (h : UsedFrom g at_ (k + 1) us) (hg : g[k]? = some p) (hs : us[k]? = some false ∨ ¬ p.op > 0) : UsedFrom g at_ k us := by
  refine ⟨h.1, h.2.1, fun i q h1 h2 h3 h4 h5 => ?_⟩
  by_cases e : i = k
  · subst e
    rw [hg] at h4
    cases h4
    rcases hs with hs | hs
    · rw [hs] at h3; cases h3
    · exact absurd h5 hs
  · exact h.2.2 i q (by omega) h2 h3 h4 h5
theorem UsedFrom.mark {g : List Pt} {at_ k y n : Nat} {us : List Bool} {p : Pt} (h : UsedFrom g at_ (k + 1) us) (hg : g[k]? = some p) (hy : p.yes = y) (hn : p.no = n) (hyk : y < k) (hnk : n < k) : UsedFrom g at_ k ((us.set y true).set n true) := by
  have hk := (List.getElem?_eq_some_iff.1 hg).1
  have hl := h.1
  have key : ∀ j : Nat, k ≤ j → ((us.set y true).set n true)[j]? = us[j]? := fun j hj => by
    rw [List.getElem?_set_ne (by omega), List.getElem?_set_ne (by omega)]
  have ky : ((us.set y true).set n true)[y]? = some true := set_true_keep (by rw [List.getElem?_set_self (by omega)])
  have kn : ((us.set y true).set n true)[n]? = some true := by rw [List.getElem?_set_self (by simp; omega)]
  refine ⟨by simp [hl], set_true_keep (set_true_keep h.2.1), fun i q h1 h2 h3 h4 h5 => ?_⟩
  rw [key i h1] at h3
  by_cases e : i = k
  · subst e
    rw [hg] at h4
    cases h4
    exact ⟨y, n, hy, hn, hyk, hnk, ky, kn⟩
  · obtain ⟨y', n', a, b, c, d, e1, e2⟩ := h.2.2 i q (by omega) h2 h3 h4 h5
    exact ⟨y', n', a, b, c, d, set_true_keep (set_true_keep e1), set_true_keep (set_true_keep e2)⟩

set_option maxHeartbeats 4000000 in
theorem l4Used_any (A : Option Addr) (n c : Nat) (g : List Pt) (at_ : Nat) (w : World) (hA : SlA w 7 A n c (g.map Pt.cells)) (hAh : Ahead g) (hat : at_ < n) (hn : n ≤ 1000) :
    Calls Tryd.prog 87 #[.slice A n c, .int .i64 at_] w fun e w' => ∃ us, UsedFrom g at_ 0 us ∧ e = .returned (.slice (some ⟨w.heap.size, 0, none⟩) n n) ∧ Blk w' w.heap.size 4 (bRow us) ∧ Below w.heap.size w w' := by
  have hl : g.length = n := by have := hA.len; simpa using this
  have hc := hA.cap
  have hm := hA.max
  unfold maxLen at hm
  have hmk := fun W => run_make_row' (P := Tryd.prog) 76 4 (.bool false) 1 Tryd.underlying76 info_boolR rfl .i64 .i64 n (by omega) (by omega) W
  have B0 : Blk (w.alloc (.cells (madeCells #[.bool false] n) 4)) w.heap.size 4 (bRow (List.replicate n false)) := by rw [bRow_zero]; exact Blk.new _ _ _
  have d0 := bRow_cell (k := at_) (b := false) B0 (by simp [List.getElem?_replicate, hat])
  have f0 := B0.frozen at_
  have h0n : (at_ : Int) < n := by omega
  have HL := Lib.hid hl; have HG := Lib.hid hAh; have HA := Lib.hid hA; clear hl hAh B0 hA
  go_enter Tryd.func87, Tryd.ntmps87
  go_wp2
  go_loopw [6] (fun i wr => ∃ (k : Nat) (z : Int) (us : List Bool), k ≤ at_ + 1 ∧ z + 1 = k ∧ i = .int .i64 z ∧ UsedFrom g at_ k us ∧ Blk wr w.heap.size 4 (bRow us) ∧ Below w.heap.size w wr) (fun i _ => (intOf i + 1).toNat)
  case atStart =>
    refine ⟨at_ + 1, at_, (List.replicate n false).set at_ true, by omega, by omega, rfl, UsedFrom.start HL.out hat, ?_, by go_grown⟩
    rw [← bRow_set, ← bRow_zero]; exact Blk.new _ _ _
  case round =>
    obtain ⟨k, z, us, hk, hz, rfl, hR, hbk, hbw⟩ := hrel
    have hsz := hbw.size
    have hblt := hbk.lt
    have hrl : us.length = n := hR.1.trans HL.out
    by_cases hge : 0 ≤ z
    · obtain ⟨m, rfl⟩ : ∃ m : Nat, z = m := ⟨z.toNat, by omega⟩
      obtain rfl : k = m + 1 := by omega
      have hmn : m < n := by omega
      have hmni : (m : Int) < n := by omega
      obtain ⟨b, off, p, rfl, hab, hgp, hcell⟩ := pts_get HA.out hmn
      obtain ⟨c0, c1, c2, c3, c4, c5, c6⟩ := hcell wr _ hbw hab
      obtain ⟨rb, hrb⟩ := bRow_some hrl hmn
      have dk := bRow_cell hbk hrb
      have hbne : ¬ b = w.heap.size := by omega
      have HR := Lib.hid hR; have HRB := Lib.hid hrb; have HP := Lib.hid hgp; clear hR hrb hgp
      cases rb with
      | false =>
        clear hcell c0 c1 c2 c3 c4 c5 c6
        go_wp2
        exact ⟨⟨m, (m : Int) - 1, us, by omega, by omega, by go_num, HR.out.skip HP.out (.inl HRB.out), hbk, hbw⟩, by simp [intOf]⟩
      | true =>
        by_cases hop : 0 < p.op
        · obtain ⟨y, nn, hy, hnn, hyk, hnk⟩ := HG.out m p HP.out hop
          have HY := Lib.hid hy; have HN := Lib.hid hnn
          rw [hy] at c5
          rw [hnn] at c6
          clear hy hnn
          obtain ⟨by_, hby⟩ := bRow_some hrl (k := y) (by omega)
          have dy := bRow_cell hbk hby
          have fy := hbk.frozen y
          have BY := hbk.set_ y (.bool true)
          rw [bRow_set] at BY
          obtain ⟨bn, hbn⟩ := bRow_some (rs := us.set y true) (n := n) (by simp [hrl]) (k := nn) (by omega)
          have dn := bRow_cell BY hbn
          have fn := BY.frozen nn
          have hyi : (y : Int) < n := by omega
          have hni : (nn : Int) < n := by omega
          have HB := Lib.hid BY
          clear hcell c0 c1 c2 c4 hby hbn BY
          go_wp2
          exact ⟨⟨m, (m : Int) - 1, (us.set y true).set nn true, by omega, by omega, by go_num, HR.out.mark HP.out HY.out HN.out hyk hnk, by have := HB.out.set_ nn (.bool true); rwa [bRow_set] at this, (hbw.setCell (by simp) _).setCell (by simp) _⟩, by simp [intOf]⟩
        · clear hcell c0 c1 c2 c4 c5 c6
          go_wp2
          exact ⟨⟨m, (m : Int) - 1, us, by omega, by omega, by go_num, HR.out.skip HP.out (.inr (by omega)), hbk, hbw⟩, by simp [intOf]⟩
    · obtain rfl : k = 0 := by omega
      go_wp2
      go_ret
      exact ⟨us, hR, rfl, hbk, hbw⟩
end Go.Proofs.YtoibocaaeimplaaDoor
