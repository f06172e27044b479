/- spec's programs: CodeOk, CodeWrite, l3Line, CodeRead. -/
import Derived.Test.YtbbhilhckbdgjaaDoorCodeS
namespace Go.Proofs.YtbbhilhckbdgjaaDoor
open Go.RowKit
set_option linter.unusedSimpArgs false
set_option linter.unusedVariables false

theorem not_ways {g : List In4} {k : Nat} {x : In4} (hx : g[k]? = some x) (h : ¬ insOk x ((g.length : Int) - k - 2)) : ¬ codeOk g := fun ho =>
  h (ho.1.2.2 k x (List.getElem?_eq_some_iff.1 hx).1 hx)

set_option maxHeartbeats 1000000 in
theorem sCodeOk_any (v : Value) (g : List In4) (w : World) (hs : Sl w 4 v (insR g)) :
    Calls Tryd.prog 13 #[v] w fun e w' => e = .returned (.bool (codeOkB g)) ∧ Below w.heap.size w w' := by
  have hs0 := hs
  obtain ⟨A, n, c, rfl, hA⟩ := hs
  have hn : g.length = n := by have := hA.len; rwa [insR_len] at this
  have hc := hA.cap
  have hm := hA.max
  unfold maxLen at hm
  have HL := Lib.hid hn; clear hn
  go_enter Tryd.func13, Tryd.ntmps13
  go_wp2
  go_loopw [3] (fun i wr => ∃ k : Nat, k ≤ n ∧ i = .int .i64 k ∧ waysTo g k ∧ Below w.heap.size w wr) (fun i _ => n - (intOf i).toNat)
  case atStart => exact ⟨0, by omega, rfl, waysTo_zero g, Below.refl _ _⟩
  case round =>
    obtain ⟨k, hk, rfl, hto, hb⟩ := hrel
    by_cases hlt : k < n
    · obtain ⟨b, off, x, rfl, hab, hgp, hcell⟩ := ins_get hA hlt
      obtain ⟨c0, c1, c2, c3⟩ := hcell wr _ hb hab
      have HP := Lib.hid hgp; clear hcell hgp
      by_cases hok : insOk x ((n : Int) - k - 2)
      · have hokb : insOkB x ((n : Int) - k - 2) = true := insOkB_iff.2 hok
        have HO := Lib.hid hok; clear hok
        go_wp2_with (go_at_call 23; refine (l3InsOk_any x k n _ (by omega) (by omega) (by omega)).mono ?_; rintro e w1 ⟨rfl, hb1⟩; rw [hokb])
        exact ⟨⟨k + 1, by omega, by go_num, waysTo_succ hto HP.out (by rw [HL.out]; exact HO.out), below_then hb hb1⟩, by simp [intOf]; omega⟩
      · have hokb : insOkB x ((n : Int) - k - 2) = false := by rw [← Bool.not_eq_true, insOkB_iff]; exact hok
        have HO := Lib.hid (not_ways HP.out (by rw [HL.out]; exact hok)); clear hok
        go_wp2_with (go_at_call 23; refine (l3InsOk_any x k n _ (by omega) (by omega) (by omega)).mono ?_; rintro e w1 ⟨rfl, hb1⟩; rw [hokb])
        go_ret
        exact ⟨ret_bool (codeOkB_no HO.out).symm, below_then hb hb1⟩
    · obtain rfl : k = n := by omega
      by_cases hr : 1 ≤ k ∧ k ≤ 160
      · have hin : inB (k : Int) 1 160 = true := inB_iff.2 (by omega)
        have HW := Lib.hid (show waysOk g from ⟨by rw [HL.out]; omega, by rw [HL.out]; omega, by rw [HL.out]; exact hto⟩)
        have hlen := codeText_len g HW.out.words
        rw [HL.out] at hlen
        go_wp2_with (first
          | (go_at_call 24; refine (l1In_any _ _ _ _).mono ?_; rintro e w' ⟨rfl, rfl⟩)
          | (go_at_call 25; refine (l3Write_any _ g _ (hs0.below hb) HW.out.words (by rw [HL.out]; omega)).mono ?_; rintro e w2 ⟨rfl, hb2⟩))
        all_goals
          go_ret
          refine ⟨ret_bool (codeOkB_of ?_), below_then hb hb2⟩
          have := HW.out
          simp [codeOk, this]
          omega
      · have hin : inB (k : Int) 1 160 = false := inB_not.2 (by omega)
        go_wp2_with (go_at_call 24; refine (l1In_any _ _ _ _).mono ?_; rintro e w' ⟨rfl, rfl⟩)
        go_ret
        exact ⟨ret_bool (codeOkB_no (fun h => hr ⟨by have := h.1.1; rw [HL.out] at this; exact this, by have := h.1.2.1; rw [HL.out] at this; exact this⟩)).symm, hb⟩

/-- Of the names below a place the last that is this one. -/
def opUp (nm : List UInt8) : Nat → Int
  | 0 => 0
  | 1 => 0
  | j + 2 => if opNm ((j + 1 : Nat) : Int) = nm then ((j + 1 : Nat) : Int) else opUp nm (j + 1)
theorem opUp_yes {nm : List UInt8} {j : Nat} (h1 : 1 ≤ j) (h : opNm (j : Int) = nm) : opUp nm (j + 1) = j := by
  obtain ⟨i, rfl⟩ : ∃ i, j = i + 1 := ⟨j - 1, by omega⟩
  rw [opUp, if_pos h]
theorem opUp_no {nm : List UInt8} {j : Nat} (h1 : 1 ≤ j) (h : ¬ opNm (j : Int) = nm) : opUp nm (j + 1) = opUp nm j := by
  obtain ⟨i, rfl⟩ : ∃ i, j = i + 1 := ⟨j - 1, by omega⟩
  rw [opUp, if_neg h]
theorem opUp_all (nm : List UInt8) : opUp nm 7 = opOf nm := by
  unfold opOf
  by_cases h1 : nm = [108, 111, 97, 100]
  · subst h1; rfl
  by_cases h2 : nm = [97, 110, 100]
  · subst h2; rfl
  by_cases h3 : nm = [101, 113]
  · subst h3; rfl
  by_cases h4 : nm = [103, 116]
  · subst h4; rfl
  by_cases h5 : nm = [106, 117, 109, 112]
  · subst h5; rfl
  by_cases h6 : nm = [101, 110, 100]
  · subst h6; rfl
  rw [if_neg h1, if_neg h2, if_neg h3, if_neg h4, if_neg h5, if_neg h6]
  rw [opUp_no (by omega) (fun e => h6 (by rw [← e]; rfl)), opUp_no (by omega) (fun e => h5 (by rw [← e]; rfl)), opUp_no (by omega) (fun e => h4 (by rw [← e]; rfl)), opUp_no (by omega) (fun e => h3 (by rw [← e]; rfl)), opUp_no (by omega) (fun e => h2 (by rw [← e]; rfl)), opUp_no (by omega) (fun e => h1 (by rw [← e]; rfl))]
  rfl

end Go.Proofs.YtbbhilhckbdgjaaDoor
