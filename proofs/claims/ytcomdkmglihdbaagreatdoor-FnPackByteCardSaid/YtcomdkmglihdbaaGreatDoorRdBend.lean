/- How the laws bend a text that they draw. -/
import Derived.Test.YtcomdkmglihdbaaGreatDoorTxt
import Derived.Test.YtcomdkmglihdbaaGreatDoorRdOpen
namespace Go.Proofs.YtcomdkmglihdbaaGreatDoor
open Go.RowKit
set_option linter.unusedSimpArgs false
set_option linter.unusedVariables false

theorem of_any (g p : Nat) (A : Option Addr) (n c : Nat) (ls : List (List UInt8)) (w : World) (h : Rd w g p) (hp : p ≤ 900000000) (hA : SlA w 1 A n c (strs ls)) (hn : 1 ≤ n) (hg : ∀ b off, A = some ⟨b, off, none⟩ → b ≠ g) :
    Calls Tryz.prog 13 #[.pointer (some ⟨g, 0, none⟩), .slice A n c] w fun e w' =>
      ∃ l, l ∈ ls ∧ e = .returned (.string ⟨l.toArray⟩) ∧ w.grownBy w' (some g) ∧ Rd w' g (p + 1) := by
  have hc := hA.cap
  have hm := hA.max
  unfold maxLen at hm
  go_enter Tryz.func13, Tryz.ntmps13
  go_wp2_with fail
  refine (pick_any g p n _ h (by omega)).mono ?_; rintro e w1 ⟨k1, rfl, a1, a1', g1, r1⟩
  have a2 := a1' (by omega)
  obtain ⟨k, rfl⟩ := Int.eq_ofNat_of_zero_le a1
  have hk : k < n := by omega
  obtain ⟨b, off, l, rfl, hb, hl, hcell⟩ := strs_get hA hk
  have c0 := hcell w _ (Below.refl _ _) hb
  have c1 := g1.cell (a := ⟨b, off + k, none⟩) c0 (by intro e; exact hg b off rfl (by cases e; rfl))
  have HL := Lib.hid (List.mem_of_getElem? hl); clear hl hcell c0
  go_wp2
  go_ret
  exact ⟨l, HL.out, rfl, g1, r1⟩

set_option maxHeartbeats 1000000 in
theorem l11Bend_any (g p : Nat) (s : ByteArray) (A : Option Addr) (n c : Nat) (ls : List (List UInt8)) (cases_ : Int) (w : World) (h : Rd w g p) (hp : p ≤ 800000000) (hs : s.size ≤ 1000000) (hA : SlA w 1 A n c (strs ls)) (hn : 1 ≤ n) (hg : ∀ b off, A = some ⟨b, off, none⟩ → b ≠ g) (hls : ∀ l ∈ ls, l.length ≤ 1000) :
    Calls Tryz.prog 27 #[.pointer (some ⟨g, 0, none⟩), .string s, .slice A n c, .int .i64 cases_] w fun e w' =>
      ∃ (t : ByteArray) (q : Nat), e = .returned (.string t) ∧ t.size ≤ s.size + 1000 ∧ w.grownBy w' (some g) ∧ Rd w' g q ∧ q ≤ p + 3 := by
  go_enter Tryz.func27, Tryz.ntmps27
  go_wp2_with fail
  refine (pick_any g p cases_ _ h (by omega)).mono ?_; rintro e w1 ⟨k1, rfl, a1, a1', g1, r1⟩
  by_cases hk1 : 0 < k1
  · clear a1'
    go_wp2
    go_ret
    exact ⟨s, p + 1, rfl, by omega, g1, r1, by omega⟩
  · clear a1'
    go_wp2_with fail
    refine (pick_any g (p + 1) _ _ r1 (by omega)).mono ?_; rintro e w2 ⟨k2, rfl, a2, a2', g2, r2⟩
    have a3 := a2' (by omega)
    obtain ⟨k, rfl⟩ := Int.eq_ofNat_of_zero_le a2
    have hk : k ≤ s.size := by omega
    clear a2'
    have hA2 := (hA.grown g1 hg).grown g2 hg
    have HA := Lib.hid hA2; have HG := Lib.hid hg; clear hA2 hA hg
    have hki : (k : Int) ≤ s.size := by omega
    have HM := Lib.hid (show ∀ l ∈ ls, (¬ 9223372036854775807 < k + l.length) ∧ ¬ 9223372036854775807 < k + l.length + (s.size - k) from fun l hl => by have := hls l hl; exact ⟨by omega, by omega⟩)
    go_wp2
    go_region_law (go_simp; go_at_call 13; refine (of_any g (p + 2) A n c ls _ (r2.next ((Below.refl _ _).drew)) (by omega) (HA.out.below ((Below.refl _ _).drew)) hn HG.out).mono ?_; rintro e w3 ⟨l, hl, rfl, g3, r3⟩; have hll := hls l hl; obtain ⟨m1, m2⟩ := HM.out l hl)
    all_goals go_wp2
    all_goals
      go_ret
      have hsz : (s.extract 0 k ++ (⟨l.toArray⟩ : ByteArray) ++ s.extract k s.size).size ≤ s.size + 1000 := by
        have e1 : (⟨l.toArray⟩ : ByteArray).size = l.length := by simp [ByteArray.size]
        simp only [ByteArray.size_append, ByteArray.size_extract]
        omega
      exact ⟨_, p + 3, rfl, hsz, ((g1.trans g2).trans (grown_drew _ _)).trans g3, r3, by omega⟩
end Go.Proofs.YtcomdkmglihdbaaGreatDoor
