/- The laws' helpers on books: what toLineS lays reads as the book; eqLineS of two that are the same. -/
import Derived.Test.YtaieopdfkapgdaaDoorLawLA
import Derived.Test.YtaieopdfkapgdaaDoorRelA
namespace Go.Proofs.YtaieopdfkapgdaaDoor
open Go.RowKit
set_option linter.unusedSimpArgs false
set_option linter.unusedVariables false

theorem LnsTo.book {w : World} {g : Nat} {b : List Ln} (h : LnsTo w g b b.length) (hok : ∀ ln ∈ b, ln.told.ok) (hm : b.length ≤ maxLen) : BookIs w (.slice (some ⟨g, 0, none⟩) b.length b.length) b := by
  obtain ⟨cur, avs, h1, h2, h3, h4⟩ := h
  have key : ∀ (k : Nat) (r : List Value), ((b.zip avs).map fun p => lnC p.1 p.2)[k]? = some r → ∃ ln av, b[k]? = some ln ∧ avs[k]? = some av ∧ r = lnC ln av := fun k r hr => by
    rw [List.getElem?_map] at hr
    obtain ⟨p, hp, rfl⟩ := Option.map_eq_some_iff.1 hr
    obtain ⟨e1, e2⟩ := List.getElem?_zip_eq_some.1 hp
    exact ⟨p.1, p.2, e1, e2, rfl⟩
  refine ⟨_, _, _, (b.zip avs).map fun p => lnC p.1 p.2, rfl, SlA.of_block h1 (by simp [h3]) (Nat.le_refl _) hm fun k r hr j v hv => ?_, by simp [h3], fun i ln cs e1 e2 => ?_⟩
  · obtain ⟨ln, av, e1, e2, rfl⟩ := key k r hr
    exact (h4 k ln av e1 e2).1 j v hv
  · obtain ⟨ln', av, e3, e4, rfl⟩ := key i cs e2
    obtain rfl := Option.some.inj (e1.symm.trans e3)
    exact ⟨av, rfl, SlA.of_own (h4 i ln av e1 e4).2 (ints_len _) (ints_rows _), hok ln (List.mem_of_getElem? e1)⟩

theorem BookIs.ok {w : World} {v : Value} {b : List Ln} (h : BookIs w v b) : ∀ ln ∈ b, ln.told.ok := fun ln hm => by
  obtain ⟨A, n, c, css, _, hA, hcl, hli⟩ := h
  obtain ⟨i, hi⟩ := List.mem_iff_getElem?.1 hm
  have hil := (List.getElem?_eq_some_iff.1 hi).1
  have hic : i < css.length := by omega
  obtain ⟨av, _, _, ho⟩ := hli i ln css[i] hi (List.getElem?_eq_getElem hic)
  exact ho
theorem lnsSize_mem {b : List Ln} {ln : Ln} (h : ln ∈ b) : lnSize ln ≤ lnsSize b := by
  unfold lnsSize
  induction b with
  | nil => simp at h
  | cons x b ih =>
    rw [List.map_cons, List.sum_cons]
    rcases List.mem_cons.1 h with rfl | h
    · omega
    · have := ih h
      omega
theorem lnSize_args (ln : Ln) : ln.told.args.length ≤ lnSize ln := by unfold lnSize; omega

set_option maxRecDepth 100000 in
set_option maxHeartbeats 4000000 in
theorem eqLineS_same (u v : Value) (b : List Ln) (w : World) (hu : BookIs w u b) (hv : BookIs w v b) :
    Calls Tryd.prog 15 #[u, v] w fun e w' => e = .returned (.bool true) ∧ Below w.heap.size w w' := by
  obtain ⟨A, n, c, css, rfl, hA, hcl, hli⟩ := hu
  obtain ⟨A', n', c', css', rfl, hA', hcl', hli'⟩ := hv
  have hn : b.length = n := by have := hA.len; omega
  obtain rfl : n = n' := by have := hA'.len; omega
  have hcp := hA.cap
  have hmx := hA.max
  unfold maxLen at hmx
  have HA := Lib.hid hA; have HLI := Lib.hid hli; have HCL := Lib.hid hcl; have HN := Lib.hid hn
  have HA' := Lib.hid hA'; have HLI' := Lib.hid hli'; have HCL' := Lib.hid hcl'
  have hne : ((n : Int) != n) = false := by simp
  clear hA hli hcl hn hA' hli' hcl'
  go_enter Tryd.func15, Tryd.ntmps15
  go_wp2
  go_loopw [5] (fun i wr => ∃ k : Nat, k ≤ n ∧ i = .int .i64 k ∧ Below w.heap.size w wr) (fun i _ => n - (intOf i).toNat)
  case atStart => exact ⟨0, by omega, rfl, Below.refl _ _⟩
  case round =>
    obtain ⟨k, hk, rfl, hb⟩ := hrel
    by_cases hlt : k < n
    · obtain ⟨g, off, ln, av, rfl, hg, hbk, hs, hok, x0, x1, x2, x3, x4, x5⟩ := book_get HA.out HCL.out HLI.out hlt
      obtain ⟨g', off', ln', av', rfl, hg', hbk', hs', hok', x0', x1', x2', x3', x4', x5'⟩ := book_get HA'.out HCL'.out HLI'.out hlt
      obtain rfl := Option.some.inj (hbk.symm.trans hbk')
      have y0 := (hb.cell (p := ⟨g, off + k * 6, none⟩) hg).trans x0
      have y1 := (hb.cell (p := ⟨g, off + k * 6 + 1, none⟩) hg).trans x1
      have y2 := (hb.cell (p := ⟨g, off + k * 6 + 2, none⟩) hg).trans x2
      have y3 := (hb.cell (p := ⟨g, off + k * 6 + 3, none⟩) hg).trans x3
      have y4 := (hb.cell (p := ⟨g, off + k * 6 + 4, none⟩) hg).trans x4
      have y5 := (hb.cell (p := ⟨g, off + k * 6 + 5, none⟩) hg).trans x5
      have u0 := (hb.cell (p := ⟨g', off' + k * 6, none⟩) hg').trans x0'
      have u1 := (hb.cell (p := ⟨g', off' + k * 6 + 1, none⟩) hg').trans x1'
      have u2 := (hb.cell (p := ⟨g', off' + k * 6 + 2, none⟩) hg').trans x2'
      have u3 := (hb.cell (p := ⟨g', off' + k * 6 + 3, none⟩) hg').trans x3'
      have u4 := (hb.cell (p := ⟨g', off' + k * 6 + 4, none⟩) hg').trans x4'
      have u5 := (hb.cell (p := ⟨g', off' + k * 6 + 5, none⟩) hg').trans x5'
      obtain ⟨⟨gt, ep, nm, xs, vd⟩, sm⟩ := ln
      simp only at y0 y1 y2 y3 y4 y5 u0 u1 u2 u3 u4 u5 hs hs'
      have HS := Lib.hid (hs.below hb)
      have HS' := Lib.hid (hs'.below hb)
      obtain ⟨A2, n2, c2, rfl, hA2⟩ := hs
      obtain ⟨A3, n3, c3, rfl, hA3⟩ := hs'
      have kn : (k : Int) < n := by omega
      have HLT := Lib.hid hlt
      have hgl : g < wr.heap.size := Nat.lt_of_lt_of_le hg hb.size
      have hgl' : g' < wr.heap.size := Nat.lt_of_lt_of_le hg' hb.size
      have HWR := Lib.hid hb
      clear x0 x1 x2 x3 x4 x5 x0' x1' x2' x3' x4' x5' hbk hbk' hok hok' hlt hk hA2 hA3 hb
      go_wp2
      refine wp_region_fixed (fun w' => Below wr.heap.size wr w') (by kernel_rfl) (by kernel_rfl) (Below.refl _ _).drew ?_
      iterate 10
        apply wpFx_step
        case h =>
          intro w9 hw
          have H9 := Lib.hid hw
          have z0 := (hw.cell (p := ⟨g, off + k * 6, none⟩) hgl).trans y0
          have z1 := (hw.cell (p := ⟨g, off + k * 6 + 1, none⟩) hgl).trans y1
          have z2 := (hw.cell (p := ⟨g, off + k * 6 + 2, none⟩) hgl).trans y2
          have z3 := (hw.cell (p := ⟨g, off + k * 6 + 3, none⟩) hgl).trans y3
          have z4 := (hw.cell (p := ⟨g, off + k * 6 + 4, none⟩) hgl).trans y4
          have z5 := (hw.cell (p := ⟨g, off + k * 6 + 5, none⟩) hgl).trans y5
          have t0 := (hw.cell (p := ⟨g', off' + k * 6, none⟩) hgl').trans u0
          have t1 := (hw.cell (p := ⟨g', off' + k * 6 + 1, none⟩) hgl').trans u1
          have t2 := (hw.cell (p := ⟨g', off' + k * 6 + 2, none⟩) hgl').trans u2
          have t3 := (hw.cell (p := ⟨g', off' + k * 6 + 3, none⟩) hgl').trans u3
          have t4 := (hw.cell (p := ⟨g', off' + k * 6 + 4, none⟩) hgl').trans u4
          have t5 := (hw.cell (p := ⟨g', off' + k * 6 + 5, none⟩) hgl').trans u5
          clear hw
          go_wp2_with (go_at_call 38; refine (eqLine_same gt ep nm vd _ _ xs sm _ (HS.out.below H9.out) (HS'.out.below H9.out)).mono ?_; rintro e w4 ⟨rfl, hbb⟩; replace H9 := Lib.hid (below_then H9.out hbb); clear hbb)
          exact ⟨rfl, rfl, H9.out⟩
      refine wpFx_end (fun w9 hw => ?_)
      have HB9 := Lib.hid (HWR.out.trans (hw.mono HWR.out.size))
      clear hw y0 y1 y2 y3 y4 y5 u0 u1 u2 u3 u4 u5
      go_wp2
      have hlt := HLT.out
      exact ⟨⟨k + 1, by omega, by go_num, HB9.out⟩, by simp [intOf]; omega⟩
    · obtain rfl : k = n := by omega
      go_wp2
      go_ret
      exact ⟨rfl, hb⟩
end Go.Proofs.YtaieopdfkapgdaaDoor
