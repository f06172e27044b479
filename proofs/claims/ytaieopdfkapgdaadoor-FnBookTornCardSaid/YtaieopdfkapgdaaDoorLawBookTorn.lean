/- laws.FnBookTorn returns true whatever the letters. -/
import Derived.Test.YtaieopdfkapgdaaDoorTornB
import Derived.Test.YtaieopdfkapgdaaDoorMarkA
namespace Go.Proofs.YtaieopdfkapgdaaDoor
open Go.RowKit
set_option linter.unusedSimpArgs false
set_option linter.unusedVariables false

namespace bookTorn
set_option maxRecDepth 100000 in
set_option maxHeartbeats 16000000 in
theorem walk (v v2 : Value) (ys zs : List Int) (w : World) (hp : Pow w) (hkw : Kww w) (hs : Sl w 1 v (u8s ys)) (hb : ∀ y ∈ ys, 0 ≤ y ∧ y ≤ 255) (hs2 : Sl w 1 v2 (u8s zs)) :
    Calls Tryd.prog 3 #[v, v2] w fun e w' => e = .returned (.bool true) ∧ Below w.heap.size w w' := by
  have HS := Lib.hid hs; have HP := Lib.hid hp; have HK := Lib.hid hkw; have HY := Lib.hid hb
  obtain ⟨A, n, c, rfl, hA⟩ := hs
  obtain ⟨A0, n0, c0, rfl, hA0⟩ := hs2
  have hnc : n ≤ c := hA.cap
  have hcm : c ≤ 9223372036854775807 := by have := hA.max; unfold maxLen at this; omega
  have hnc0 : n0 ≤ c0 := hA0.cap
  have hcm0 : c0 ≤ 9223372036854775807 := by have := hA0.max; unfold maxLen at this; omega
  clear hA hA0 hp hkw hb
  by_cases hn : n ≤ 1048576
  case neg =>
    go_enter Tryd.func3, Tryd.ntmps3
    have hgt : (1048576 : Int) < n := by omega
    go_wp2
    go_ret
    exact ⟨rfl, Below.refl _ _⟩
  have hn1 : ¬ (1048576 : Int) < n := by omega
  by_cases hn0 : n0 ≤ 1048576
  case neg =>
    go_enter Tryd.func3, Tryd.ntmps3
    have hgt : (1048576 : Int) < n0 := by omega
    go_wp2
    go_ret
    exact ⟨rfl, Below.refl _ _⟩
  have hn2 : ¬ (1048576 : Int) < n0 := by omega
  go_enter Tryd.func3, Tryd.ntmps3
  go_wp2_with fail
  refine (DrawBookOk_any _ ys _ HS.out HY.out).mono ?_; rintro e w1 ⟨u, b, rfl, hF, hM, hl, b1⟩
  have hok := fun ln h => (hM ln h).ok
  have hbi := hF.is hok
  obtain ⟨css, ho, hpr⟩ := hF.pairs hok
  obtain ⟨AB, N, cb, rfl, hNb, hNc, hcb⟩ := hbi.slice
  unfold maxLen at hcb
  have HM := Lib.hid hM; have HPR1 := Lib.hid hpr; have HO1 := Lib.hid ho; have HB1 := Lib.hid b1; have HBI1 := Lib.hid hbi; have HNB := Lib.hid hNb; have HL := Lib.hid hl
  have HP1 := Lib.hid (HP.out.below b1); have HK1 := Lib.hid (HK.out.below b1 (Nat.le_refl _))
  clear hM hpr ho b1 hbi hNb hF hok
  obtain ⟨ok, hokb⟩ : ∃ ok, ok = bookOkB b := ⟨_, rfl⟩
  have HOK := Lib.hid hokb
  clear hokb
  go_wp2_with fail
  refine (BookOk_any _ b _ HP1.out HK1.out HBI1.out).mono ?_; rintro e w2 ⟨rfl, b2⟩
  rw [← HOK.out]
  have HB2 := Lib.hid b2; have HBI2 := Lib.hid (HBI1.out.below b2)
  clear b2
  go_wp2_with fail
  refine (sBookOk_any _ b _ HBI2.out).mono ?_; rintro e w3 ⟨rfl, b3⟩
  rw [← HOK.out]
  have HB3 := Lib.hid (HB2.out.trans (b3.mono HB2.out.size)); have HBI3 := Lib.hid (HBI2.out.below b3)
  clear b3
  have q0 : (ok != ok) = false := by simp
  have q1 : (ok == ok) = true := by simp
  cases ok with
  | false =>
    go_wp2_with fail
    refine (sBookOk_any _ b _ HBI3.out).mono ?_; rintro e w4 ⟨rfl, b4⟩
    rw [← HOK.out]
    have HB4 := Lib.hid (HB1.out.trans ((HB3.out.trans (b4.mono HB3.out.size)).mono HB1.out.size))
    clear b4
    go_wp2
    go_ret
    exact ⟨rfl, HB4.out⟩
  | true =>
    by_cases hN0 : N = 0
    · subst hN0
      go_wp2_with fail
      refine (sBookOk_any _ b _ HBI3.out).mono ?_; rintro e w4 ⟨rfl, b4⟩
      rw [← HOK.out]
      have HB4 := Lib.hid (HB1.out.trans ((HB3.out.trans (b4.mono HB3.out.size)).mono HB1.out.size))
      clear b4
      go_wp2
      go_ret
      exact ⟨rfl, HB4.out⟩
    · have hNp : 0 < N := by omega
      have hNi : ¬ (N : Int) = 0 := by omega
      have hNe : ((N : Int) == 0) = false := by simpa using hNi
      obtain ⟨k, hk⟩ : ∃ k, k = n0 % N := ⟨_, rfl⟩
      have hkN : k < N := by rw [hk]; exact Nat.mod_lt _ hNp
      have hmod : (n0 : Int) % (N : Int) = (k : Int) := by rw [hk]; rfl
      obtain ⟨gb, cap, hform, hge, hgl⟩ := HO1.out.form (by have := HNB.out; omega)
      obtain ⟨rfl, rfl⟩ : AB = some ⟨gb, 0, none⟩ ∧ cb = cap := by simp at hform; exact ⟨hform.1, hform.2.2⟩
      clear hform hk
      have hbb := HBI1.out
      obtain ⟨ln, hln⟩ : ∃ ln, b[k]? = some ln := ⟨_, List.getElem?_eq_getElem (by rw [← HNB.out]; exact hkN)⟩
      obtain ⟨cs, hcs⟩ : ∃ cs, css[k]? = some cs := ⟨_, List.getElem?_eq_getElem (by rw [HPR1.out.1, ← HNB.out]; exact hkN)⟩
      obtain ⟨av, rfl, hsa, hlo⟩ := HPR1.out.2 k ln cs hln hcs
      have HLN := Lib.hid hln; have HAT := Lib.hid hcs; have HSA := Lib.hid hsa
      have hmd := HM.out ln (List.mem_of_getElem? hln)
      have HMD := Lib.hid hmd
      have HUx := Lib.hid (show ln.told.upV.ok from ⟨⟨by have := hmd.1; show -9223372036854775808 ≤ ln.told.gate; omega, by have := hmd.1; show ln.told.gate ≤ 9223372036854775807; omega⟩, ⟨by have := hmd.2.1; show -9223372036854775808 ≤ ln.told.epoch; omega, by have := hmd.2.1; show ln.told.epoch ≤ 9223372036854775807; omega⟩, ⟨by have := hmd.2.2; show -9223372036854775808 ≤ ln.told.verdict + 1; omega, by have := hmd.2.2; show ln.told.verdict + 1 ≤ 9223372036854775807; omega⟩⟩)
      have HUy := Lib.hid (show ln.told.upG.ok from ⟨⟨by have := hmd.1; show -9223372036854775808 ≤ ln.told.gate + 1; omega, by have := hmd.1; show ln.told.gate + 1 ≤ 9223372036854775807; omega⟩, ⟨by have := hmd.2.1; show -9223372036854775808 ≤ ln.told.epoch; omega, by have := hmd.2.1; show ln.told.epoch ≤ 9223372036854775807; omega⟩, ⟨by have := hmd.2.2; show -9223372036854775808 ≤ ln.told.verdict; omega, by have := hmd.2.2; show ln.told.verdict ≤ 9223372036854775807; omega⟩⟩)
      have HUz := Lib.hid (show ln.told.upE.ok from ⟨⟨by have := hmd.1; show -9223372036854775808 ≤ ln.told.gate; omega, by have := hmd.1; show ln.told.gate ≤ 9223372036854775807; omega⟩, ⟨by have := hmd.2.1; show -9223372036854775808 ≤ ln.told.epoch + 1; omega, by have := hmd.2.1; show ln.told.epoch + 1 ≤ 9223372036854775807; omega⟩, ⟨by have := hmd.2.2; show -9223372036854775808 ≤ ln.told.verdict; omega, by have := hmd.2.2; show ln.told.verdict ≤ 9223372036854775807; omega⟩⟩)
      have hv0 : 0 ≤ ln.told.verdict := hmd.2.2.1
      have hv1 : ln.told.verdict ≤ 20 := hmd.2.2.2
      have hg0 : 0 ≤ ln.told.gate := hmd.1.1
      have hg1 : ln.told.gate ≤ 20 := hmd.1.2
      have he0 : 0 ≤ ln.told.epoch := hmd.2.1.1
      have he1 : ln.told.epoch ≤ 20 := hmd.2.1.2
      have hkI : (k : Int) < N := by omega
      have hN41 : N ≤ 41 := by rw [HNB.out]; exact HL.out
      have HONE := Lib.hid HPR1.out.one
      have HFL := Lib.hid (show css.flatten.length = N * 6 by rw [flat_len _ HPR1.out.rows, HPR1.out.1, ← HNB.out])
      obtain ⟨i0, hi0, hz0, hz1, hz2⟩ := info_parts info_LineM
      have HI0 := Lib.hid hi0; have HZ0 := Lib.hid hz0; have HZ1 := Lib.hid hz1; have HZ2 := Lib.hid hz2
      have HOB := Lib.hid (show w1.ownsRow w.heap.size 32 6 (.slice (some ⟨gb, 0, none⟩) N cb) N css.flatten by rw [HNB.out]; rw [← HNB.out]; have := HO1.out; rwa [← HNB.out] at this)
      have HSNB := Lib.hid (show ∀ (W : World), Below w1.heap.size w1 W → ∀ (j : Nat) (u : Value), css.flatten[j]? = some u → W.cell? ((⟨gb, 0, none⟩ : Addr).add j) = some u from fun W hW j u hj => by
        have hjl := (List.getElem?_eq_some_iff.1 hj).1
        rw [HFL.out] at hjl
        have h1 := (HOB.out.cellAt j hjl).trans hj
        have h2 := (hW.cell (p := ⟨gb, j, none⟩) hgl).trans h1
        rw [Addr.add_mid]
        simpa using h2)
      have HBw3 := Lib.hid HB3.out
      clear hln hcs hsa hlo hmd hi0 hz0 hz1 hz2 hbb
      obtain ⟨Ex, hEx⟩ : ∃ X, X = w3.alloc (.cells #[] 32) := ⟨_, rfl⟩
      have bEx : Below w3.heap.size w3 Ex := by rw [hEx]; go_grown
      have hzEx : w3.heap.size ≤ Ex.heap.size := by rw [hEx]; simp
      have HEMx := Lib.hid (show Ex.ownsRow w3.heap.size 32 6 (.slice (some ⟨w3.heap.size, 0, none⟩) 0 0) 0 [] by rw [hEx]; exact own_emptyB (Blk.new _ _ _) (Nat.le_refl _))
      have HSNx := Lib.hid (show ∀ (j : Nat) (u : Value), css.flatten[j]? = some u → Ex.cell? ((⟨gb, 0, none⟩ : Addr).add j) = some u from fun j u hj => HSNB.out _ (below_then HBw3.out bEx) j u hj)
      have HEx := Lib.hid hEx; have HBEx := Lib.hid bEx
      clear hEx bEx
      go_wp2_with (at_builtin; rw [← HEx.out]; go_must (refine wpList_append_own _ rfl (.tmp 50) (.tmp 51) _ rfl w3.heap.size 32 i0 _ 6 72 Tryd.underlying23 HI0.out HZ0.out HZ1.out HZ2.out rfl (by omega) _ 0 [] rfl HEMx.out ⟨gb, 0, none⟩ N cb css.flatten rfl HFL.out HSNx.out HONE.out (by unfold maxLen; omega) (by omega) hzEx ?_))
      intro v7 w7x hown7 hg7 _
      try simp only []
      try rw [Nat.zero_add, List.nil_append] at hown7
      obtain ⟨gx, cx, rfl, hgex, hglx⟩ := hown7.form hNp
      have b7 : Below w3.heap.size w3 w7x := HBEx.out.grown hg7 hzEx (fun k hk => by cases hk; exact Nat.le_refl _)
      have dx := (hown7.cellAt (k * 6 + 4) (by omega)).trans (flat_get css HPR1.out.rows k _ HAT.out 4 _ rfl)
      have fx := hown7.frozenAt (k * 6 + 4)
      obtain ⟨o8, g8⟩ := hown7.stored (k * 6 + 4) (.int .i64 (ln.told.verdict + 1))
      rw [flat_set _ k 4 _ _ HPR1.out.rows HAT.out (by omega)] at o8
      obtain ⟨Xx, hXx⟩ : ∃ X, X = w7x.setCell ⟨gx, k * 6 + 4, none⟩ (.int .i64 (ln.told.verdict + 1)) := ⟨_, rfl⟩
      have b8 : Below w3.heap.size w3 Xx := by rw [hXx]; exact b7.setCell (p := ⟨gx, k * 6 + 4, none⟩) hgex _
      rw [← hXx] at o8
      have HBXx := Lib.hid (below_then HBw3.out b8)
      have HBkx := Lib.hid ((((HPR1.out.next HBXx.out).set (ln := ⟨ln.told.upV, ln.sum⟩) ⟨av, rfl, HSA.out.below HBXx.out, HUx.out⟩).is (by rw [List.length_set]; exact HNB.out.symm) o8).below (Below.refl _ _))
      have HXx := Lib.hid hXx; have HSQx := Lib.hid (show Xx.heap.size = w7x.heap.size by rw [hXx]; simp)
      have hzXx : w3.heap.size ≤ Xx.heap.size := b8.size
      have HCx := Lib.hid b8
      clear hown7 hg7 b7 o8 g8 hXx b8
      obtain ⟨Ey, hEy⟩ : ∃ X, X = Xx.alloc (.cells #[] 32) := ⟨_, rfl⟩
      have bEy : Below Xx.heap.size Xx Ey := by rw [hEy]; go_grown
      have hzEy : Xx.heap.size ≤ Ey.heap.size := by rw [hEy]; simp
      have HEMy := Lib.hid (show Ey.ownsRow Xx.heap.size 32 6 (.slice (some ⟨w7x.heap.size, 0, none⟩) 0 0) 0 [] by rw [hEy, ← HSQx.out]; exact own_emptyB (Blk.new _ _ _) (Nat.le_refl _))
      have HSNy := Lib.hid (show ∀ (j : Nat) (u : Value), css.flatten[j]? = some u → Ey.cell? ((⟨gb, 0, none⟩ : Addr).add j) = some u from fun j u hj => HSNB.out _ (below_then HBXx.out bEy) j u hj)
      have HEy := Lib.hid hEy; have HBEy := Lib.hid bEy
      clear hEy bEy
      go_wp2_with (at_builtin; rw [← HXx.out, ← HEy.out]; go_must (refine wpList_append_own _ rfl (.tmp 65) (.tmp 66) _ rfl Xx.heap.size 32 i0 _ 6 72 Tryd.underlying23 HI0.out HZ0.out HZ1.out HZ2.out rfl (by omega) _ 0 [] rfl HEMy.out ⟨gb, 0, none⟩ N cb css.flatten rfl HFL.out HSNy.out HONE.out (by unfold maxLen; omega) (by omega) hzEy ?_))
      intro v7 w7y hown7 hg7 _
      try simp only []
      try rw [Nat.zero_add, List.nil_append] at hown7
      obtain ⟨gy, cy, rfl, hgey, hgly⟩ := hown7.form hNp
      have b7 : Below Xx.heap.size Xx w7y := HBEy.out.grown hg7 hzEy (fun k hk => by cases hk; exact Nat.le_of_eq HSQx.out)
      have dy := (hown7.cellAt (k * 6) (by omega)).trans (flat_get css HPR1.out.rows k _ HAT.out 0 _ rfl)
      have fy := hown7.frozenAt (k * 6)
      obtain ⟨o8, g8⟩ := hown7.stored (k * 6) (.int .i64 (ln.told.gate + 1))
      have ef := flat_set css k 0 _ (.int .i64 (ln.told.gate + 1)) HPR1.out.rows HAT.out (by omega)
      rw [Nat.add_zero] at ef
      rw [ef] at o8
      obtain ⟨Xy, hXy⟩ : ∃ X, X = w7y.setCell ⟨gy, k * 6, none⟩ (.int .i64 (ln.told.gate + 1)) := ⟨_, rfl⟩
      have b8 : Below Xx.heap.size Xx Xy := by rw [hXy]; exact b7.setCell (p := ⟨gy, k * 6, none⟩) hgey _
      rw [← hXy] at o8
      have HBXy := Lib.hid (below_then HBXx.out b8)
      have HBky := Lib.hid ((((HPR1.out.next HBXy.out).set (ln := ⟨ln.told.upG, ln.sum⟩) ⟨av, rfl, HSA.out.below HBXy.out, HUy.out⟩).is (by rw [List.length_set]; exact HNB.out.symm) o8).below (Below.refl _ _))
      have HXy := Lib.hid hXy; have HSQy := Lib.hid (show Xy.heap.size = w7y.heap.size by rw [hXy]; simp)
      have hzXy : Xx.heap.size ≤ Xy.heap.size := b8.size
      have HCy := Lib.hid b8
      clear hown7 hg7 b7 o8 g8 hXy b8
      obtain ⟨Ez, hEz⟩ : ∃ X, X = Xy.alloc (.cells #[] 32) := ⟨_, rfl⟩
      have bEz : Below Xy.heap.size Xy Ez := by rw [hEz]; go_grown
      have hzEz : Xy.heap.size ≤ Ez.heap.size := by rw [hEz]; simp
      have HEMz := Lib.hid (show Ez.ownsRow Xy.heap.size 32 6 (.slice (some ⟨w7y.heap.size, 0, none⟩) 0 0) 0 [] by rw [hEz, ← HSQy.out]; exact own_emptyB (Blk.new _ _ _) (Nat.le_refl _))
      have HSNz := Lib.hid (show ∀ (j : Nat) (u : Value), css.flatten[j]? = some u → Ez.cell? ((⟨gb, 0, none⟩ : Addr).add j) = some u from fun j u hj => HSNB.out _ (below_then HBXy.out bEz) j u hj)
      have HEz := Lib.hid hEz; have HBEz := Lib.hid bEz
      clear hEz bEz
      go_wp2_with (at_builtin; rw [← HXy.out, ← HEz.out]; go_must (refine wpList_append_own _ rfl (.tmp 80) (.tmp 81) _ rfl Xy.heap.size 32 i0 _ 6 72 Tryd.underlying23 HI0.out HZ0.out HZ1.out HZ2.out rfl (by omega) _ 0 [] rfl HEMz.out ⟨gb, 0, none⟩ N cb css.flatten rfl HFL.out HSNz.out HONE.out (by unfold maxLen; omega) (by omega) hzEz ?_))
      intro v7 w7z hown7 hg7 _
      try simp only []
      try rw [Nat.zero_add, List.nil_append] at hown7
      obtain ⟨gz, cz, rfl, hgez, hglz⟩ := hown7.form hNp
      have b7 : Below Xy.heap.size Xy w7z := HBEz.out.grown hg7 hzEz (fun k hk => by cases hk; exact Nat.le_of_eq HSQy.out)
      have dz := (hown7.cellAt (k * 6 + 1) (by omega)).trans (flat_get css HPR1.out.rows k _ HAT.out 1 _ rfl)
      have fz := hown7.frozenAt (k * 6 + 1)
      obtain ⟨o8, g8⟩ := hown7.stored (k * 6 + 1) (.int .i64 (ln.told.epoch + 1))
      rw [flat_set _ k 1 _ _ HPR1.out.rows HAT.out (by omega)] at o8
      obtain ⟨Xz, hXz⟩ : ∃ X, X = w7z.setCell ⟨gz, k * 6 + 1, none⟩ (.int .i64 (ln.told.epoch + 1)) := ⟨_, rfl⟩
      have b8 : Below Xy.heap.size Xy Xz := by rw [hXz]; exact b7.setCell (p := ⟨gz, k * 6 + 1, none⟩) hgez _
      rw [← hXz] at o8
      have HBXz := Lib.hid (below_then HBXy.out b8)
      have HBkz := Lib.hid ((((HPR1.out.next HBXz.out).set (ln := ⟨ln.told.upE, ln.sum⟩) ⟨av, rfl, HSA.out.below HBXz.out, HUz.out⟩).is (by rw [List.length_set]; exact HNB.out.symm) o8).below (Below.refl _ _))
      have HXz := Lib.hid hXz; have HSQz := Lib.hid (show Xz.heap.size = w7z.heap.size by rw [hXz]; simp)
      have hzXz : Xy.heap.size ≤ Xz.heap.size := b8.size
      have HCz := Lib.hid b8
      clear hown7 hg7 b7 o8 g8 hXz b8
      obtain ⟨L, hL⟩ : ∃ L, L = lastOf [] (b.take k) := ⟨_, rfl⟩
      have HLT := Lib.hid hL
      have hbk := bookOkB_iff.1 HOK.out.symm
      have HBOK := Lib.hid hbk
      have HLL := Lib.hid (show L.length ≤ 64 by rw [hL]; exact last_len hbk)
      have HSL := Lib.hid (sum_len hbk HLN.out)
      have hkc : (k : Int) ≤ cb := by omega
      have hk1n : ((k + 1 : Nat) : Int) ≤ N := by omega
      have hHT := HSNB.out
      have HR6 := Lib.hid HPR1.out.rows
      have hsrcX : ∃ src : Value, (∀ W : World, (Instr.slice 23 (.slice (some ⟨gb, 0, none⟩) N cb) (some (.int .i64 ((k : Int) + 1))) none none).run Tryd.prog W = .ok src W) ∧ ∃ (sa : Addr) (sc : Nat), src = .slice (some sa) (N - (k + 1)) sc ∧ ∀ (W : World), Below w1.heap.size w1 W → ∀ (j : Nat) (x : Value), (css.drop (k + 1)).flatten[j]? = some x → W.cell? (sa.add j) = some x := by
        by_cases hc : cb = k + 1
        · refine ⟨_, fun W => by rw [hc]; exact run_slEL gb N (k + 1) hk1n W, ⟨gb, 0, none⟩, _, rfl, fun W hW j x hx => ?_⟩
          have h1 := (List.getElem?_eq_some_iff.1 hx).1
          rw [flat_len _ (fun r hr => HR6.out r (List.mem_of_mem_drop hr)), List.length_drop, HPR1.out.1, ← HNB.out] at h1
          omega
        · refine ⟨_, fun W => run_slLL gb N cb (k + 1) hk1n hc W, ⟨gb, (k + 1) * 6, none⟩, _, rfl, fun W hW j x hx => ?_⟩
          rw [flat_drop _ _ HR6.out, List.getElem?_drop] at hx
          have h2 := hHT W hW _ x hx
          rw [Addr.add_mid] at h2 ⊢
          simpa using h2
      obtain ⟨src, hsrc, sa, sc, rfl, hsn⟩ := hsrcX
      have hslH := run_slHL gb N cb k hkc
      have HSND := Lib.hid hsn
      have HSNT := Lib.hid (show ∀ (W : World), Below w1.heap.size w1 W → ∀ (j : Nat) (x : Value), (css.take k).flatten[j]? = some x → W.cell? ((⟨gb, 0, none⟩ : Addr).add j) = some x from fun W hW j x hx => by
        rw [flat_take _ _ HR6.out, List.getElem?_take] at hx
        split at hx
        · exact hHT W hW j x hx
        · cases hx)
      have HLD := Lib.hid (show (css.drop (k + 1)).flatten.length = (N - (k + 1)) * 6 by rw [flat_len _ (fun r hr => HR6.out r (List.mem_of_mem_drop hr)), List.length_drop, HPR1.out.1, ← HNB.out])
      have HLTK := Lib.hid (show (css.take k).flatten.length = k * 6 by rw [flat_len _ (fun r hr => HR6.out r (List.mem_of_mem_take hr)), List.length_take, HPR1.out.1, ← HNB.out, Nat.min_eq_left (Nat.le_of_lt hkN)])
      have HONT := Lib.hid (show ∀ u ∈ (css.take k).flatten, u.oneCell' = true from (HPR1.out.take k).one)
      have HOND := Lib.hid (show ∀ u ∈ (css.drop (k + 1)).flatten, u.oneCell' = true from (HPR1.out.drop (k + 1)).one)
      clear hL hbk hHT hsn
      go_wp2
      rw [← HXz.out]
      have hZ1 : Below w1.heap.size w1 Xz := HBXz.out
      have HZW := Lib.hid hZ1
      clear hZ1 dx fx dy fy dz fz
      refine wp_region_rel (lessT Xz.heap.size N k gb cb sa sc css) lessC (lessI Xz) lessR (by kernel_rfl) (by kernel_rfl) ⟨fun _ => rfl, fun h => (Bool.false_ne_true h).elim, fun h => (Bool.false_ne_true h).elim, (Below.refl _ _).drew⟩ ?_ ?_
      · intro i j wa wb u hji hcj hwj hR hT
        rcases hR with hR | rfl
        · match j, hji, hcj, hwj, hT with
          | 0, _, _, _, h => exact h
          | 1, _, _, _, h => exact h
          | 2, _, _, _, h => exact h
          | 3, _, _, _, h => exact h
          | 4, h1, h2, h3, _ =>
            rcases hR with rfl | rfl | rfl
            · exact (Bool.false_ne_true (h3.symm.trans (by kernel_rfl))).elim
            · exact absurd rfl h1
            · exact absurd rfl h2
          | 5, _, _, _, h => exact h
          | 6, _, _, _, h => exact h
          | 7, _, _, _, h => exact h
          | 8, _, _, _, h => exact h
          | 9, h1, h2, h3, _ =>
            rcases hR with rfl | rfl | rfl
            · exact (Bool.false_ne_true (h3.symm.trans (by kernel_rfl))).elim
            · exact (Bool.false_ne_true (h3.symm.trans (by kernel_rfl))).elim
            · exact absurd rfl h1
          | 10, h1, h2, h3, _ =>
            rcases hR with rfl | rfl | rfl
            · exact (Bool.false_ne_true (h3.symm.trans (by kernel_rfl))).elim
            · exact (Bool.false_ne_true (h3.symm.trans (by kernel_rfl))).elim
            · exact (Bool.false_ne_true (h3.symm.trans (by kernel_rfl))).elim
          | (m + 11), _, _, _, h => exact h
        · exact hT
      refine wpRel_step [] (by kernel_rfl) (fun LL kk w9 vals hk hw hun hcl hdl hT => ?_) ?_
      · have h0 := hw.1 hun
        have hbz := hw.2.2.2
        subst h0
        have HBZ := Lib.hid hbz
        clear hw hun hcl hdl hT hbz
        simp only [fillR, Act.put, List.setIfInBounds_toArray, List.set_cons_succ, List.set_cons_zero]
        go_wp2
        exact ⟨_, rfl, rfl, ⟨fun h => by simp [putL] at h, fun _ _ => rfl, fun _ => by simp [putL], (Below.refl Xz.heap.size Xz).drew.alloc (Nat.le_refl _) _⟩, .inl (.inl rfl), fun _ => rfl⟩
      refine wpRel_step [] (by kernel_rfl) (fun LL kk w9 vals hk hw hun hcl hdl hT => ?_) ?_
      · have HW := Lib.hid hw
        clear hw hun hcl hdl hT
        simp only [fillR, Act.put, List.setIfInBounds_toArray, List.set_cons_succ, List.set_cons_zero]
        go_wp2
        exact ⟨_, rfl, rfl, HW.out.put (by decide) (by decide), .inr rfl, fun _ => rfl⟩
      refine wpRel_step [] (by kernel_rfl) (fun LL kk w9 vals hk hw hun hcl hdl hT => ?_) ?_
      · have HW := Lib.hid hw
        clear hw hun hcl hdl hT
        simp only [fillR, Act.put, List.setIfInBounds_toArray, List.set_cons_succ, List.set_cons_zero]
        go_wp2
        exact ⟨_, rfl, rfl, HW.out.put (by decide) (by decide), .inr rfl, fun _ => rfl⟩
      refine wpRel_step [96, 97] (by kernel_rfl) (fun LL kk w9 vals hk hw hun hcl hdl hT => ?_) ?_
      · have t1 := hT 1 96 (by kernel_rfl) (.inl rfl)
        have t2 := hT 2 97 (by kernel_rfl) (.inl rfl)
        have HW := Lib.hid hw
        clear hw hun hcl hdl hT
        simp only [fillR, Act.put, List.setIfInBounds_toArray, List.set_cons_succ, List.set_cons_zero]
        rw [show vals 96 = Value.slice (some ⟨gb, 0, none⟩) N cb from t1]
        rw [show vals 97 = Value.int .i64 k from t2]
        clear t1 t2
        go_wp2
        exact ⟨_, rfl, rfl, HW.out.put (by decide) (by decide), .inr rfl, fun _ => rfl⟩
      refine wpRel_step [95, 98] (by kernel_rfl) (fun LL kk w9 vals hk hw hun hcl hdl hT => ?_) ?_
      · have t0 := hT 0 95 (by kernel_rfl) (.inl rfl)
        have t3 := hT 3 98 (by kernel_rfl) (.inl rfl)
        have h00 := hdl 0 (by kernel_rfl)
        have h0 := hw.2.1 h00 hun
        have hbz := hw.2.2.2
        subst h0
        have HBZ := Lib.hid hbz; have H00 := Lib.hid h00
        clear hw hun hcl hdl hT hbz h00
        simp only [fillR, Act.put, List.setIfInBounds_toArray, List.set_cons_succ, List.set_cons_zero]
        rw [show vals 95 = Value.slice (some ⟨Xz.heap.size, 0, none⟩) 0 0 from t0]
        rw [show vals 98 = Value.slice (some ⟨gb, 0, none⟩) k cb from t3]
        clear t0 t3
        have HEMt := Lib.hid (show (Xz.drew.alloc (.cells #[] 32)).ownsRow Xz.heap.size 32 6 (.slice (some ⟨Xz.heap.size, 0, none⟩) 0 0) 0 [] from own_emptyB (Blk.new _ _ _) (Nat.le_refl _))
        have HST := Lib.hid (HSNT.out _ (below_then HZW.out HBZ.out))
        have hbs : Xz.heap.size ≤ (Xz.drew.alloc (.cells #[] 32)).heap.size := HBZ.out.size
        clear hsrc hslH
        go_wp2_with (at_builtin; go_must (refine wpList_append_own _ rfl (.tmp 95) (.tmp 98) _ rfl Xz.heap.size 32 i0 _ 6 72 Tryd.underlying23 HI0.out HZ0.out HZ1.out HZ2.out rfl (by omega) _ 0 [] rfl HEMt.out ⟨gb, 0, none⟩ k cb (css.take k).flatten rfl HLTK.out HST.out HONT.out (by unfold maxLen; omega) (by omega) hbs ?_); intro v7 w7 hown7 hg7 _; have HO7 := Lib.hid (show w7.ownsRow Xz.heap.size 32 6 v7 k (css.take k).flatten by simpa only [Nat.zero_add, List.nil_append] using hown7); have HG7 := Lib.hid hg7; clear hown7 hg7)
        exact ⟨_, rfl, rfl, ⟨fun h => by simp [putL, H00.out] at h, fun _ h => by simp [putL] at h, fun _ => by simp [putL, H00.out], HBZ.out.trans (own_gbB HEMt.out HG7.out hbs)⟩, .inl (.inr (.inl rfl)), fun _ => HO7.out⟩
      refine wpRel_step [] (by kernel_rfl) (fun LL kk w9 vals hk hw hun hcl hdl hT => ?_) ?_
      · have HW := Lib.hid hw
        clear hw hun hcl hdl hT
        simp only [fillR, Act.put, List.setIfInBounds_toArray, List.set_cons_succ, List.set_cons_zero]
        go_wp2
        exact ⟨_, rfl, rfl, HW.out.put (by decide) (by decide), .inr rfl, fun _ => rfl⟩
      refine wpRel_step [] (by kernel_rfl) (fun LL kk w9 vals hk hw hun hcl hdl hT => ?_) ?_
      · have HW := Lib.hid hw
        clear hw hun hcl hdl hT
        simp only [fillR, Act.put, List.setIfInBounds_toArray, List.set_cons_succ, List.set_cons_zero]
        go_wp2
        exact ⟨_, rfl, rfl, HW.out.put (by decide) (by decide), .inr rfl, fun _ => rfl⟩
      refine wpRel_step [101] (by kernel_rfl) (fun LL kk w9 vals hk hw hun hcl hdl hT => ?_) ?_
      · have t6 := hT 6 101 (by kernel_rfl) (.inl rfl)
        have HW := Lib.hid hw
        clear hw hun hcl hdl hT
        simp only [fillR, Act.put, List.setIfInBounds_toArray, List.set_cons_succ, List.set_cons_zero]
        rw [show vals 101 = Value.int .i64 k from t6]
        clear t6
        go_wp2
        exact ⟨_, rfl, rfl, HW.out.put (by decide) (by decide), .inr rfl, fun _ => rfl⟩
      refine wpRel_step [100, 102] (by kernel_rfl) (fun LL kk w9 vals hk hw hun hcl hdl hT => ?_) ?_
      · have t5 := hT 5 100 (by kernel_rfl) (.inl rfl)
        have t7 := hT 7 102 (by kernel_rfl) (.inl rfl)
        have HW := Lib.hid hw
        clear hw hun hcl hdl hT
        simp only [fillR, Act.put, List.setIfInBounds_toArray, List.set_cons_succ, List.set_cons_zero]
        rw [show vals 100 = Value.slice (some ⟨gb, 0, none⟩) N cb from t5]
        rw [show vals 102 = Value.int .i64 ((k : Int) + 1) from t7]
        clear t5 t7
        go_wp2
        exact ⟨_, rfl, rfl, HW.out.put (by decide) (by decide), .inr rfl, fun _ => rfl⟩
      refine wpRel_step [99, 103] (by kernel_rfl) (fun LL kk w9 vals hk hw hun hcl hdl hT => ?_) ?_
      · have t4 := hT 4 99 (by kernel_rfl) (.inr rfl)
        have t8 := hT 8 103 (by kernel_rfl) (.inl rfl)
        have h04 := hdl 4 (by kernel_rfl)
        have h00 := hw.2.2.1 h04
        have HBZ := Lib.hid hw.2.2.2; have H00 := Lib.hid h00; have H04 := Lib.hid h04; have HT4 := Lib.hid t4
        obtain ⟨u4, hu4⟩ : ∃ u4, u4 = vals 99 := ⟨_, rfl⟩
        clear hw hun hcl hdl hT h00 h04 t4
        simp only [fillR, Act.put, List.setIfInBounds_toArray, List.set_cons_succ, List.set_cons_zero]
        rw [← hu4]
        rw [← hu4] at HT4
        rw [show vals 103 = Value.slice (some sa) (N - (k + 1)) sc from t8]
        clear t8 hu4
        have HSD := Lib.hid (HSND.out _ (below_then HZW.out HBZ.out))
        have HT4' := Lib.hid (show w9.ownsRow Xz.heap.size 32 6 u4 k (css.take k).flatten from HT4.out)
        have hbs : Xz.heap.size ≤ w9.heap.size := HBZ.out.size
        clear hsrc hslH HT4
        go_wp2_with (at_builtin; go_must (refine wpList_append_own _ rfl (.tmp 99) (.tmp 103) _ rfl Xz.heap.size 32 i0 _ 6 72 Tryd.underlying23 HI0.out HZ0.out HZ1.out HZ2.out rfl (by omega) _ k (css.take k).flatten rfl HT4'.out sa (N - (k + 1)) sc (css.drop (k + 1)).flatten rfl HLD.out HSD.out HOND.out (by unfold maxLen; omega) (by omega) hbs ?_); intro v7 w7 hown7 hg7 _; have HO7 := Lib.hid hown7; have HG7 := Lib.hid hg7; clear hown7 hg7)
        exact ⟨_, rfl, rfl, ⟨fun h => by simp [putL, H00.out] at h, fun _ h => by simp [putL, H04.out] at h, fun _ => by simp [putL, H00.out], HBZ.out.trans (own_gbB HT4'.out HG7.out hbs)⟩, .inl (.inr (.inr rfl)), fun _ => HO7.out⟩
      refine wpRel_step [104] (by kernel_rfl) (fun LL kk w9 vals hk hw hun hcl hdl hT => ?_) ?_
      · have t9 := hT 9 104 (by kernel_rfl) (.inl rfl)
        have HW := Lib.hid hw; have HT9 := Lib.hid t9
        obtain ⟨u1, hu1⟩ : ∃ u1, u1 = vals 104 := ⟨_, rfl⟩
        clear hw hun hcl hdl hT t9
        simp only [fillR, Act.put, List.setIfInBounds_toArray, List.set_cons_succ, List.set_cons_zero]
        rw [← hu1]
        rw [← hu1] at HT9
        clear hu1
        go_wp2
        exact ⟨_, rfl, rfl, HW.out.put (by decide) (by decide), .inr rfl, fun _ => HT9.out⟩
      refine wpRel_end [95, 96, 97, 98, 99, 100, 101, 102, 103, 104, 11] (by kernel_rfl) (fun LL w9 vals _ hw hT => ?_)
      have t8 := hT 10 11 (by kernel_rfl) rfl
      simp only [fillR, Act.put, List.setIfInBounds_toArray, List.set_cons_succ, List.set_cons_zero]
      have HZY := Lib.hid hw.2.2.2
      have HT8 := Lib.hid (show w9.ownsRow Xz.heap.size 32 6 (vals 11) (k + (N - (k + 1))) ((css.take k).flatten ++ (css.drop (k + 1)).flatten) from t8)
      obtain ⟨ul, hul⟩ : ∃ u1, u1 = vals 11 := ⟨_, rfl⟩
      rw [← hul]
      rw [← hul] at HT8
      have HWY := Lib.hid (below_then HZW.out HZY.out)
      have hply := HPR1.out.next HWY.out
      have HLESS := Lib.hid (((hply.take k).append (hply.drop (k + 1))).is (n := k + (N - (k + 1))) (by rw [List.length_append, List.length_take, List.length_drop, ← HNB.out]; omega) (by rw [List.flatten_append]; exact HT8.out))
      clear t8 hw hT hul hply hsrc
      by_cases hk0 : k = 0
      case' pos =>
        have HLE := Lib.hid (show (⟨#[]⟩ : ByteArray) = ⟨L.toArray⟩ by rw [show L = [] by rw [HLT.out, hk0]; rfl])
        have hkz : ¬ (0 : Int) < k := by omega
        obtain ⟨y0, y1, y2, y3, y4, y5⟩ := cells_at (HSNB.out w9 HWY.out) HR6.out HAT.out
        clear hk0
        go_wp2_with fail
        rw [HLE.out]
        clear hkz
      case' neg =>
        obtain ⟨j, hj⟩ : ∃ j, k = j + 1 := ⟨k - 1, by omega⟩
        obtain ⟨l0, hl0⟩ : ∃ l0, b[j]? = some l0 := ⟨_, List.getElem?_eq_getElem (by rw [← HNB.out]; omega)⟩
        obtain ⟨cs0, hcs0⟩ : ∃ cs, css[j]? = some cs := ⟨_, List.getElem?_eq_getElem (by rw [HPR1.out.1, ← HNB.out]; omega)⟩
        obtain ⟨av0, rfl, -, -⟩ := HPR1.out.2 j l0 cs0 hl0 hcs0
        obtain ⟨-, -, -, -, -, hl5⟩ := cells_at (HSNB.out w9 HWY.out) HR6.out hcs0
        rw [← lastOf_next (last := []) hl0, ← hj, ← HLT.out] at hl5
        have hkj : (k : Int) - 1 = j := by omega
        have hkz : (0 : Int) < k := by omega
        have hjN : (j : Int) < N := by omega
        obtain ⟨y0, y1, y2, y3, y4, y5⟩ := cells_at (HSNB.out w9 HWY.out) HR6.out HAT.out
        clear hk0 hj hl0 hcs0
        go_wp2_with fail
        clear hl5 hkj hkz hjN
      all_goals
        clear y0 y1 y2 y3 y4 y5
        refine (wgTold_any L ln.told av _ HMD.out.ok (HSA.out.below HWY.out) (by have := HLL.out; omega)).mono ?_; rintro e w10 ⟨rfl, b10⟩
        have HW10 := Lib.hid (below_then HWY.out b10)
        have HKX := Lib.hid ((((HBkx.out.below HCy.out).below HCz.out).below HZY.out).below b10)
        have HKY := Lib.hid (((HBky.out.below HCz.out).below HZY.out).below b10)
        have HKZ := Lib.hid ((HBkz.out.below HZY.out).below b10)
        have HLS10 := Lib.hid (HLESS.out.below b10)
        clear b10
        obtain ⟨YB, hYB⟩ : ∃ X, X = w10.alloc (.cells #[.slice (some ⟨gx, 0, none⟩) N cx, .slice (some ⟨gy, 0, none⟩) N cy, .slice (some ⟨gz, 0, none⟩) N cz] 23) := ⟨_, rfl⟩
        have bY : Below w10.heap.size w10 YB := by rw [hYB]; go_grown
        have BY : Blk YB w10.heap.size 23 #[.slice (some ⟨gx, 0, none⟩) N cx, .slice (some ⟨gy, 0, none⟩) N cy, .slice (some ⟨gz, 0, none⟩) N cz] := by rw [hYB]; exact Blk.new _ _ _
        have HYB := Lib.hid hYB; have HBYK := Lib.hid BY; have HWYB := Lib.hid (below_then HW10.out bY)
        have HKX' := Lib.hid (HKX.out.below bY); have HKY' := Lib.hid (HKY.out.below bY); have HKZ' := Lib.hid (HKZ.out.below bY); have HLSY := Lib.hid (HLS10.out.below bY)
        have hG2 : w10.heap.size < YB.heap.size := BY.lt
        clear hYB bY BY
        go_wp2_with fail
        rw [← HYB.out]
        go_loopw [125] (fun i wr => ∃ m : Nat, m ≤ 3 ∧ i = .int .i64 m ∧ Below YB.heap.size YB wr) (fun i _ => 3 - (intOf i).toNat)
        case atStart => exact ⟨0, by omega, rfl, Below.refl _ _⟩
        case round =>
          obtain ⟨m, hm, rfl, hb⟩ := hrel
          have HB := Lib.hid hb
          have HWR := Lib.hid (below_then HWYB.out hb)
          have HPW := Lib.hid (HP1.out.below HWR.out); have HKW := Lib.hid (HK1.out.below HWR.out (Nat.le_refl _))
          by_cases hlt : m < 3
          · obtain ⟨o, t, hco, hbo, hto, hne⟩ : ∃ (o : Value) (t : Tl), wr.cell? ⟨w10.heap.size, m, none⟩ = some o ∧ BookIs wr o (b.set k ⟨t, ln.sum⟩) ∧ t.ok ∧ toldText L ln.told ≠ toldText L t := by
              have hc := fun (q : Nat) => hb.cell (p := ⟨w10.heap.size, q, none⟩) hG2
              obtain rfl | rfl | rfl : m = 0 ∨ m = 1 ∨ m = 2 := by omega
              · exact ⟨_, _, (hc 0).trans (show _ = some _ from HBYK.out.cell 0), HKX'.out.below hb, HUx.out, told_upV L HMD.out.2.2.1⟩
              · exact ⟨_, _, (hc 1).trans (show _ = some _ from HBYK.out.cell 1), HKY'.out.below hb, HUy.out, told_upG L HMD.out.1.1⟩
              · exact ⟨_, _, (hc 2).trans (show _ = some _ from HBYK.out.cell 2), HKZ'.out.below hb, HUz.out, told_upE L HMD.out.2.1.1⟩
            obtain ⟨g3, off3, c3, av3, ho3, hc3, hm3, hg3, hs3, hok3, z0, z1, z2, z3, z4, z5⟩ := hbo.line (k := k) (ln := ⟨t, ln.sum⟩) (List.getElem?_set_self (by rw [← HNB.out]; exact hkN))
            rw [List.length_set, ← HNB.out] at ho3 hc3
            subst ho3
            unfold maxLen at hm3
            have HBO := Lib.hid hbo; have HTO := Lib.hid hto; have HNE := Lib.hid hne; have HS3 := Lib.hid hs3; have HLTM := Lib.hid hlt
            have hmi : (m : Int) < 3 := by omega
            obtain ⟨gt, ep, nm, xs, vd⟩ := t
            simp only at z0 z1 z2 z3 z4 z5
            clear hbo hto hne hs3 hok3 hlt hb
            go_wp2_with fail
            refine (BookOk_any _ _ _ HPW.out HKW.out HBO.out).mono ?_; rintro e w5 ⟨rfl, b5⟩
            cases hq : bookOkB (b.set k ⟨⟨gt, ep, nm, xs, vd⟩, ln.sum⟩) with
            | false =>
              have HB5 := Lib.hid (HB.out.trans (b5.mono HB.out.size))
              clear hq b5 z0 z1 z2 z3 z4 z5 hco
              go_wp2
              have hlt := HLTM.out
              exact ⟨⟨m + 1, by omega, by go_num, HB5.out⟩, by simp [intOf]; omega⟩
            | true =>
              have HQ := Lib.hid hq; have HB5 := Lib.hid (HB.out.trans (b5.mono HB.out.size)); have HS5 := Lib.hid (HS3.out.below b5)
              replace z0 := (b5.cell (p := ⟨g3, off3 + k * 6, none⟩) hg3).trans z0
              replace z1 := (b5.cell (p := ⟨g3, off3 + k * 6 + 1, none⟩) hg3).trans z1
              replace z2 := (b5.cell (p := ⟨g3, off3 + k * 6 + 2, none⟩) hg3).trans z2
              replace z3 := (b5.cell (p := ⟨g3, off3 + k * 6 + 3, none⟩) hg3).trans z3
              replace z4 := (b5.cell (p := ⟨g3, off3 + k * 6 + 4, none⟩) hg3).trans z4
              clear hq b5 z5 hco
              go_wp2_with fail
              refine (wgTold_any L ⟨gt, ep, nm, xs, vd⟩ av3 _ HTO.out HS5.out (by have := HLL.out; omega)).mono ?_; rintro e w6 ⟨rfl, b6⟩
              have HB6 := Lib.hid (HB5.out.trans (b6.mono HB5.out.size))
              clear b6 z0 z1 z2 z3 z4
              go_wp2_with fail
              refine (wgClash_any (toldText L ln.told) (toldText L ⟨gt, ep, nm, xs, vd⟩) _ (by have := HLL.out; have := toldText_len L ln.told HMD.out.ok; omega) (by have := HLL.out; have := toldText_len L ⟨gt, ep, nm, xs, vd⟩ HTO.out; omega)).mono ?_; rintro e w7 ⟨rfl, b7⟩
              rw [torn_clash HBOK.out HLN.out HLT.out HNE.out HQ.out]
              have HB7 := Lib.hid (HB6.out.trans (b7.mono HB6.out.size))
              clear b7
              go_wp2
              have hlt := HLTM.out
              exact ⟨⟨m + 1, by omega, by go_num, HB7.out⟩, by simp [intOf]; omega⟩
          · have hmi : ¬ (m : Int) < 3 := by omega
            have HLSR := Lib.hid (HLSY.out.below hb)
            have HBR := Lib.hid (HBI1.out.below HWR.out)
            clear hlt hb
            obtain ⟨y0, y1, y2, y3, y4, y5⟩ := cells_at (HSNB.out wr HWR.out) HR6.out HAT.out
            clear y0 y1 y2 y3 y4
            have hgr : gb < wr.heap.size := Nat.lt_of_lt_of_le hgl HWR.out.size
            by_cases hlast : k + 1 < N
            · have hl1 : (k : Int) < N - 1 := by omega
              obtain ⟨k2, hk2⟩ : ∃ k2, k2 = k + 1 := ⟨_, rfl⟩
              have hk2i : (k : Int) + 1 = k2 := by omega
              have hk2n : (k2 : Int) < N := by omega
              obtain ⟨ln2, hln2⟩ : ∃ ln, b[k2]? = some ln := ⟨_, List.getElem?_eq_getElem (by rw [← HNB.out]; omega)⟩
              obtain ⟨cs2, hcs2⟩ : ∃ cs, css[k2]? = some cs := ⟨_, List.getElem?_eq_getElem (by rw [HPR1.out.1, ← HNB.out]; omega)⟩
              obtain ⟨av2, rfl, hsa2, hlo2⟩ := HPR1.out.2 k2 ln2 cs2 hln2 hcs2
              obtain ⟨n0', n1, n2, n3, n4, -⟩ := cells_at (HSNB.out wr HWR.out) HR6.out hcs2
              have n0 := n0'
              have HLN2 := Lib.hid (show b[k + 1]? = some ln2 by rw [← hk2]; exact hln2); have HSA2 := Lib.hid hsa2; have HOK2 := Lib.hid hlo2
              clear n0' hk2 hln2 hcs2 hsa2 hlo2 hlast
              by_cases hLS : L = ln.sum
              · have e1 : (L == ln.sum) = true := by simpa using hLS
                have e2 : (L != ln.sum) = false := by simpa using hLS
                clear hLS n0 n1 n2 n3 n4
                go_wp2_with fail
                refine wp_region_fixed (fun w' => Below wr.heap.size wr w') (by kernel_rfl) (by kernel_rfl) (Below.refl _ _).drew ?_
                iterate 42
                  apply wpFx_step
                  case h =>
                    intro wf hw
                    have H9 := Lib.hid hw
                    have v5 := (hw.cell (p := ⟨gb, k * 6 + 5, none⟩) hgr).trans y5
                    clear hw
                    go_wp2_with (fail)
                    exact ⟨rfl, rfl, H9.out⟩
                refine wpFx_end (fun wf hw => ?_)
                have HWF := Lib.hid (below_then HWR.out hw)
                have HLF := Lib.hid (HLSR.out.below hw)
                have HBF := Lib.hid (HBR.out.below hw)
                have HPF := Lib.hid (HP1.out.below HWF.out)
                have HKF := Lib.hid (HK1.out.below HWF.out (Nat.le_refl _))
                clear hw
                have HWE := HWF; have HBE := HBF; have HPE := HPF; have HKE := HKF
                go_wp2_with fail
                refine (BookOk_any (.slice (some ⟨gb, 0, none⟩) k cb) (b.take k) _ HPE.out HKE.out (HBE.out.take (Nat.le_of_lt hkN))).mono ?_; rintro e wz ⟨rfl, bz⟩
                rw [take_ok HBOK.out k]
                have HEND := Lib.hid (below_then HB1.out (below_then HWE.out bz))
                clear bz
                go_wp2
                go_ret
                exact ⟨rfl, HEND.out⟩
              · have e1 : (L == ln.sum) = false := by simpa using hLS
                have e2 : (L != ln.sum) = true := by simpa using hLS
                have HLS := Lib.hid hLS
                cases hcl : clashB (toldText ln.sum ln2.told) (toldText L ln2.told) with
                | false =>
                  have HCL := Lib.hid hcl
                  have HNL := Lib.hid (show bookOkB (b.take k ++ b.drop (k + 1)) = false by
                    cases hx : bookOkB (b.take k ++ b.drop (k + 1)) with
                    | false => rfl
                    | true => exact (Bool.false_ne_true (hcl.symm.trans (less_clash HBOK.out HLN.out HLN2.out HLT.out HLS.out hx))).elim)
                  clear hcl
                  go_wp2_with fail
                  refine wp_region_fixed (fun w' => Below wr.heap.size wr w') (by kernel_rfl) (by kernel_rfl) (Below.refl _ _).drew ?_
                  iterate 27
                    apply wpFx_step
                    case h =>
                      intro wf hw
                      have H9 := Lib.hid hw
                      have v5 := (hw.cell (p := ⟨gb, k * 6 + 5, none⟩) hgr).trans y5; have w0' := (hw.cell (p := ⟨gb, k2 * 6, none⟩) hgr).trans n0; have w1' := (hw.cell (p := ⟨gb, k2 * 6 + 1, none⟩) hgr).trans n1; have w2' := (hw.cell (p := ⟨gb, k2 * 6 + 2, none⟩) hgr).trans n2; have w3' := (hw.cell (p := ⟨gb, k2 * 6 + 3, none⟩) hgr).trans n3; have w4' := (hw.cell (p := ⟨gb, k2 * 6 + 4, none⟩) hgr).trans n4
                      clear hw
                      go_wp2_with ((go_at_call 11; refine (wgTold_any ln.sum ln2.told av2 _ HOK2.out ((HSA2.out.below HWR.out).below H9.out) (by have := HSL.out; omega)).mono ?_; rintro e w4 ⟨rfl, hbb⟩; replace H9 := Lib.hid (below_then H9.out hbb); clear hbb))
                      exact ⟨rfl, rfl, H9.out⟩
                  iterate 15
                    apply wpFx_step
                    case h =>
                      intro wf hw
                      have H9 := Lib.hid hw
                      have v5 := (hw.cell (p := ⟨gb, k * 6 + 5, none⟩) hgr).trans y5; have w0' := (hw.cell (p := ⟨gb, k2 * 6, none⟩) hgr).trans n0; have w1' := (hw.cell (p := ⟨gb, k2 * 6 + 1, none⟩) hgr).trans n1; have w2' := (hw.cell (p := ⟨gb, k2 * 6 + 2, none⟩) hgr).trans n2; have w3' := (hw.cell (p := ⟨gb, k2 * 6 + 3, none⟩) hgr).trans n3; have w4' := (hw.cell (p := ⟨gb, k2 * 6 + 4, none⟩) hgr).trans n4
                      clear hw
                      go_wp2_with (first | (go_at_call 11; refine (wgTold_any L ln2.told av2 _ HOK2.out ((HSA2.out.below HWR.out).below H9.out) (by have := HLL.out; omega)).mono ?_; rintro e w4 ⟨rfl, hbb⟩; replace H9 := Lib.hid (below_then H9.out hbb); clear hbb) | (go_at_call 12; refine (wgClash_any (toldText ln.sum ln2.told) (toldText L ln2.told) _ (by have := HSL.out; have := toldText_len ln.sum ln2.told HOK2.out; omega) (by have := HLL.out; have := toldText_len L ln2.told HOK2.out; omega)).mono ?_; rintro e w4 ⟨rfl, hbb⟩; rw [HCL.out]; replace H9 := Lib.hid (below_then H9.out hbb); clear hbb) | (go_at_call 9; refine (BookOk_any _ _ _ (HPW.out.below H9.out) (HKW.out.below H9.out (Nat.le_refl _)) (HLSR.out.below H9.out)).mono ?_; rintro e w4 ⟨rfl, hbb⟩; rw [HNL.out]; replace H9 := Lib.hid (below_then H9.out hbb); clear hbb))
                      exact ⟨rfl, rfl, H9.out⟩
                  refine wpFx_end (fun wf hw => ?_)
                  have HWF := Lib.hid (below_then HWR.out hw)
                  have HLF := Lib.hid (HLSR.out.below hw)
                  have HBF := Lib.hid (HBR.out.below hw)
                  have HPF := Lib.hid (HP1.out.below HWF.out)
                  have HKF := Lib.hid (HK1.out.below HWF.out (Nat.le_refl _))
                  clear hw
                  have HWE := HWF; have HBE := HBF; have HPE := HPF; have HKE := HKF
                  go_wp2_with fail
                  refine (BookOk_any (.slice (some ⟨gb, 0, none⟩) k cb) (b.take k) _ HPE.out HKE.out (HBE.out.take (Nat.le_of_lt hkN))).mono ?_; rintro e wz ⟨rfl, bz⟩
                  rw [take_ok HBOK.out k]
                  have HEND := Lib.hid (below_then HB1.out (below_then HWE.out bz))
                  clear bz
                  go_wp2
                  go_ret
                  exact ⟨rfl, HEND.out⟩
                | true =>
                  have HCL := Lib.hid hcl
                  clear hcl
                  go_wp2_with fail
                  refine wp_region_fixed (fun w' => Below wr.heap.size wr w') (by kernel_rfl) (by kernel_rfl) (Below.refl _ _).drew ?_
                  iterate 27
                    apply wpFx_step
                    case h =>
                      intro wf hw
                      have H9 := Lib.hid hw
                      have v5 := (hw.cell (p := ⟨gb, k * 6 + 5, none⟩) hgr).trans y5; have w0' := (hw.cell (p := ⟨gb, k2 * 6, none⟩) hgr).trans n0; have w1' := (hw.cell (p := ⟨gb, k2 * 6 + 1, none⟩) hgr).trans n1; have w2' := (hw.cell (p := ⟨gb, k2 * 6 + 2, none⟩) hgr).trans n2; have w3' := (hw.cell (p := ⟨gb, k2 * 6 + 3, none⟩) hgr).trans n3; have w4' := (hw.cell (p := ⟨gb, k2 * 6 + 4, none⟩) hgr).trans n4
                      clear hw
                      go_wp2_with ((go_at_call 11; refine (wgTold_any ln.sum ln2.told av2 _ HOK2.out ((HSA2.out.below HWR.out).below H9.out) (by have := HSL.out; omega)).mono ?_; rintro e w4 ⟨rfl, hbb⟩; replace H9 := Lib.hid (below_then H9.out hbb); clear hbb))
                      exact ⟨rfl, rfl, H9.out⟩
                  iterate 15
                    apply wpFx_step
                    case h =>
                      intro wf hw
                      have H9 := Lib.hid hw
                      have v5 := (hw.cell (p := ⟨gb, k * 6 + 5, none⟩) hgr).trans y5; have w0' := (hw.cell (p := ⟨gb, k2 * 6, none⟩) hgr).trans n0; have w1' := (hw.cell (p := ⟨gb, k2 * 6 + 1, none⟩) hgr).trans n1; have w2' := (hw.cell (p := ⟨gb, k2 * 6 + 2, none⟩) hgr).trans n2; have w3' := (hw.cell (p := ⟨gb, k2 * 6 + 3, none⟩) hgr).trans n3; have w4' := (hw.cell (p := ⟨gb, k2 * 6 + 4, none⟩) hgr).trans n4
                      clear hw
                      go_wp2_with (first | (go_at_call 11; refine (wgTold_any L ln2.told av2 _ HOK2.out ((HSA2.out.below HWR.out).below H9.out) (by have := HLL.out; omega)).mono ?_; rintro e w4 ⟨rfl, hbb⟩; replace H9 := Lib.hid (below_then H9.out hbb); clear hbb) | (go_at_call 12; refine (wgClash_any (toldText ln.sum ln2.told) (toldText L ln2.told) _ (by have := HSL.out; have := toldText_len ln.sum ln2.told HOK2.out; omega) (by have := HLL.out; have := toldText_len L ln2.told HOK2.out; omega)).mono ?_; rintro e w4 ⟨rfl, hbb⟩; rw [HCL.out]; replace H9 := Lib.hid (below_then H9.out hbb); clear hbb))
                      exact ⟨rfl, rfl, H9.out⟩
                  refine wpFx_end (fun wf hw => ?_)
                  have HWF := Lib.hid (below_then HWR.out hw)
                  have HLF := Lib.hid (HLSR.out.below hw)
                  have HBF := Lib.hid (HBR.out.below hw)
                  have HPF := Lib.hid (HP1.out.below HWF.out)
                  have HKF := Lib.hid (HK1.out.below HWF.out (Nat.le_refl _))
                  clear hw
                  have HWE := HWF; have HBE := HBF; have HPE := HPF; have HKE := HKF
                  go_wp2_with fail
                  refine (BookOk_any (.slice (some ⟨gb, 0, none⟩) k cb) (b.take k) _ HPE.out HKE.out (HBE.out.take (Nat.le_of_lt hkN))).mono ?_; rintro e wz ⟨rfl, bz⟩
                  rw [take_ok HBOK.out k]
                  have HEND := Lib.hid (below_then HB1.out (below_then HWE.out bz))
                  clear bz
                  go_wp2
                  go_ret
                  exact ⟨rfl, HEND.out⟩
            · have hl1 : ¬ (k : Int) < N - 1 := by omega
              go_wp2_with fail
              refine wp_region_fixed (fun w' => Below wr.heap.size wr w') (by kernel_rfl) (by kernel_rfl) (Below.refl _ _).drew ?_
              iterate 42
                apply wpFx_step
                case h =>
                  intro wf hw
                  have H9 := Lib.hid hw
                  have v5 := (hw.cell (p := ⟨gb, k * 6 + 5, none⟩) hgr).trans y5
                  clear hw
                  go_wp2_with (fail)
                  exact ⟨rfl, rfl, H9.out⟩
              refine wpFx_end (fun wf hw => ?_)
              have HWF := Lib.hid (below_then HWR.out hw)
              have HLF := Lib.hid (HLSR.out.below hw)
              have HBF := Lib.hid (HBR.out.below hw)
              have HPF := Lib.hid (HP1.out.below HWF.out)
              have HKF := Lib.hid (HK1.out.below HWF.out (Nat.le_refl _))
              clear hw
              go_wp2_with fail
              refine (BookOk_any _ _ _ HPF.out HKF.out HLF.out).mono ?_; rintro e we ⟨rfl, be⟩
              rw [show bookOkB (b.take k ++ b.drop (k + 1)) = true by rw [List.drop_of_length_le (by rw [← HNB.out]; omega), List.append_nil]; exact take_ok HBOK.out k]
              have HWE := Lib.hid (below_then HWF.out be); have HBE := Lib.hid (HBF.out.below be); have HPE := Lib.hid (HPF.out.below be); have HKE := Lib.hid (HKF.out.below be (Nat.le_refl _))
              clear be
              go_wp2_with fail
              refine (BookOk_any (.slice (some ⟨gb, 0, none⟩) k cb) (b.take k) _ HPE.out HKE.out (HBE.out.take (Nat.le_of_lt hkN))).mono ?_; rintro e wz ⟨rfl, bz⟩
              rw [take_ok HBOK.out k]
              have HEND := Lib.hid (below_then HB1.out (below_then HWE.out bz))
              clear bz
              go_wp2
              go_ret
              exact ⟨rfl, HEND.out⟩
end bookTorn
end Go.Proofs.YtaieopdfkapgdaaDoor
