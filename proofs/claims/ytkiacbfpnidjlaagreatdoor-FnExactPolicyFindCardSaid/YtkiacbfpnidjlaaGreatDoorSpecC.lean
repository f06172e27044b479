/- spec.CallNear: the near calls of a policy that is ok, but not more than 600. -/
import Derived.Test.YtkiacbfpnidjlaaGreatDoorNearC
import Derived.Test.YtkiacbfpnidjlaaGreatDoorSpecN
import Derived.Test.YtkiacbfpnidjlaaGreatDoorPolSA
namespace Go.Proofs.YtkiacbfpnidjlaaGreatDoor
open Go.RowKit
set_option linter.unusedSimpArgs false
set_option linter.unusedVariables false

theorem info_intS : (Tryz.prog.info? 26).map (fun i => (i.zero, i.size, i.bytes)) = some (some (.slice none 0 0), 1, 24) := by kernel_rfl
theorem own_slV {W : World} {base n size : Nat} {e : TypeId} {v : Value} {xs : List Value} (h : W.ownsRow base e size v n xs) : ∃ A c, v = .slice A n c := by
  rcases h.2 with ⟨rfl, rfl⟩ | ⟨g, cap, cur, rfl, _⟩
  · exact ⟨_, _, rfl⟩
  · exact ⟨_, _, rfl⟩
theorem own_blockT {W : World} {base n size r : Nat} {e : TypeId} {v : Value} {xs : List Value} (h : W.ownsRow base e size v n xs) (hr : v.ownBlock = some r) : ∃ cs fr, W.heap[r]? = some (.cells cs e fr) := by
  rcases h.2 with ⟨rfl, _⟩ | ⟨g, cap, cur, rfl, _, hh, _⟩
  · cases hr
  · cases hr; exact ⟨_, _, hh⟩
/-- The words' rows, as far as they are gathered. -/
def RowsTo (W : World) (base : Nat) (ws : List (List Int)) (vs : List Value) (f : Nat) : Prop := vs.length = f ∧ ∀ (j : Nat) (l : List Int), j < f → ws[j]? = some l → ∃ v, vs[j]? = some v ∧ W.ownsRow base 3 1 v l.length (ints l).flatten
theorem RowsTo.below {W W' : World} {base f : Nat} {ws : List (List Int)} {vs : List Value} (h : RowsTo W base ws vs f) (hb : Below W.heap.size W W') : RowsTo W' base ws vs f :=
  ⟨h.1, fun j l hj hl => by obtain ⟨v, h4, h5⟩ := h.2 j l hj hl; exact ⟨v, h4, own_below h5 hb⟩⟩
theorem RowsTo.grown {W W' : World} {base f : Nat} {ws : List (List Int)} {vs : List Value} {row : Option Nat} (h : RowsTo W base ws vs f) (hg : W.grownBy W' row) (hr : ∀ r, row = some r → ∀ cs fr, W.heap[r]? ≠ some (.cells cs 3 fr)) : RowsTo W' base ws vs f :=
  ⟨h.1, fun j l hj hl => by obtain ⟨v, h4, h5⟩ := h.2 j l hj hl; exact ⟨v, h4, own_grownN h5 hg (fun r e => own_typeN h5 (hr r e))⟩⟩

theorem own_val1 {W : World} {base n g cap : Nat} {e : TypeId} {xs : List Value} (h : W.ownsRow base e 1 (.slice (some ⟨g, 0, none⟩) n cap) n xs) {j : Nat} {u : Value} (hu : xs[j]? = some u) : W.cell? ⟨g, j, none⟩ = some u := by
  rcases h.2 with ⟨h0, _⟩ | ⟨g', cap', cur, e1, _, hg, _, _, _, ht⟩
  · cases h0
  · injection e1 with e1 _ e3
    injection e1 with e1
    injection e1 with e1 _ _
    subst e1; subst e3
    rw [cell_of_row W g j cur e (0, 0) hg]
    rw [← ht, List.getElem?_take] at hu
    split at hu
    · simpa using hu
    · cases hu
theorem words_at2 {W : World} {b b2 wb wc : Nat} {ws : List (List Int)} {vs : List Value} {us : List Nat} (hO : W.ownsRow b2 26 1 (.slice (some ⟨wb, 0, none⟩) 5 wc) 5 vs) (h : RowsTo W b ws vs 5) (hc : Ctr (lensOf ws) us) {f : Nat} (hf : f < 5) :
    ∃ g n cap u, W.cell? ⟨wb, f, none⟩ = some (.slice (some ⟨g, 0, none⟩) n cap) ∧ n ≤ cap ∧ cap ≤ 9223372036854775807 ∧ u < n ∧ us[f]? = some u ∧ ((lensOf ws)[f]?).getD 0 = n ∧ g < W.heap.size ∧ W.cell? ⟨g, u, none⟩ = some (.int .i64 (wordAt2 ws us f)) := by
  have hl5 : ws.length = 5 := by have := hc.l5; rwa [lensOf, List.length_map] at this
  obtain ⟨l, hl⟩ : ∃ l, ws[f]? = some l := ⟨_, List.getElem?_eq_getElem (by omega)⟩
  obtain ⟨u, hu⟩ : ∃ u, us[f]? = some u := ⟨_, List.getElem?_eq_getElem (by rw [hc.a5]; exact hf)⟩
  have hlt := hc.lt f hf
  rw [lens_get hl, hu, Option.getD_some] at hlt
  obtain ⟨v, hvf, ho⟩ := h.2 f l hf hl
  rcases ho.2 with ⟨rfl, h0⟩ | ⟨g, cap, cur, rfl, hge, hg, hmc, hm, hcs, ht⟩
  · omega
  · unfold maxLen at hm
    have hx := own_int ho (List.getElem?_eq_getElem hlt)
    refine ⟨g, l.length, cap, u, own_val1 hO hvf, hmc, by omega, hlt, hu, lens_get hl, (Array.getElem?_eq_some_iff.1 hg).1, ?_⟩
    rw [hx.1]
    simp [wordAt2, hl, hu, List.getElem?_eq_getElem hlt]
theorem RowsTo.far {W W' : World} {base B f : Nat} {ws : List (List Int)} {vs : List Value} (h : RowsTo W base ws vs f) (hb : Below B W W') (hs : W.heap.size ≤ B) : RowsTo W' base ws vs f :=
  h.below ⟨hb.os, hb.tape, hb.output, hb.size, fun k hk => hb.block k (by omega)⟩
theorem own_far {W W' : World} {base B n size : Nat} {e : TypeId} {v : Value} {xs : List Value} (h : W.ownsRow base e size v n xs) (hb : Below B W W') (hs : W.heap.size ≤ B) : W'.ownsRow base e size v n xs :=
  own_below h ⟨hb.os, hb.tape, hb.output, hb.size, fun k hk => hb.block k (by omega)⟩

theorem CallsRow.below {W W' : World} {base : Nat} {v : Value} {xs : List NItem} (h : CallsRow W base v xs) (hb : Below W.heap.size W W') : CallsRow W' base v xs := h.grown (grown_of_below hb none) (fun r e => by cases e)
theorem CallsRow.setLow {W : World} {base b i : Nat} {v u : Value} {xs : List NItem} (h : CallsRow W base v xs) (hb : b < base) : CallsRow (W.setCell ⟨b, i, none⟩ u) base v xs :=
  ⟨ownsRow_setCell_below h.row hb u, fun x hx => ⟨(h.args x hx).1, ownsRow_setCell_below (h.args x hx).2 hb u⟩, h.up⟩
theorem CallsRow.base_ {W : World} {base base' : Nat} {v : Value} {xs : List NItem} (h : CallsRow W base v xs) (hb : base' ≤ base) : CallsRow W base' v xs :=
  ⟨own_base h.row hb, fun x hx => ⟨(h.args x hx).1, own_base (h.args x hx).2 hb⟩, h.up⟩

theorem below_drewN {B : Nat} {a w : World} (h : Below B a w) (n : Nat) : Below B a (w.drewN n) := ⟨h.os, h.tape, h.output, h.size, h.block⟩

def NearSpost (p : Pol) (w : World) (e : Ending) (w' : World) : Prop := ∃ v xs, e = .returned v ∧ CallsRow w' w.heap.size v xs ∧ NearIs (nearWs p.rules) 600 (xs.map NItem.c) ∧ Below w.heap.size w w'

set_option maxRecDepth 100000 in
set_option maxHeartbeats 8000000 in
theorem l13Near_any (p : Pol) (v : Value) (w : World) (hP : PolIs w p v) (hn8 : p.rules.length ≤ 8) (ht4 : ∀ r ∈ p.rules, r.tests.length ≤ 4) (hbd : ∀ r ∈ p.rules, (0 ≤ r.low ∧ r.low ≤ 4294967295) ∧ (0 ≤ r.high ∧ r.high ≤ 4294967295) ∧ ∀ t ∈ r.tests, (1 ≤ t.field) ∧ 0 ≤ t.value ∧ t.value ≤ 4294967295) :
    Calls Tryz.prog 15 #[v, .int .i64 600] w (NearSpost p w) := by
  have HP := Lib.hid hP
  obtain ⟨rv, css, rfl, ⟨A, n, c, rfl, hSA⟩, hR⟩ := hP
  obtain ⟨ws, hws⟩ : ∃ ws, ws = nearWs p.rules := ⟨_, rfl⟩
  obtain ⟨W1, hW1⟩ : ∃ W, W = w.alloc (.cells #[.slice A n c, .int .i64 p.els] 33) := ⟨_, rfl⟩
  have hb1 : Below w.heap.size w W1 := by rw [hW1]; go_grown
  have K1 : Blk W1 w.heap.size 33 #[.slice A n c, .int .i64 p.els] := by rw [hW1]; exact Blk.new w _ _
  have hz1 : W1.heap.size = w.heap.size + 1 := by rw [hW1]; simp
  obtain ⟨W2, hW2⟩ : ∃ W, W = W1.alloc (.cells #[] 26) := ⟨_, rfl⟩
  have hb2 : Below W1.heap.size W1 W2 := by rw [hW2]; go_grown
  have hO2 : W2.ownsRow W1.heap.size 26 1 (.slice (some ⟨w.heap.size + 1, 0, none⟩) 0 0) 0 [] := by
    rw [hW2, ← hz1]
    exact World.ownsRow_made W1 #[] 0 (Nat.le_refl _) (by unfold maxLen; omega) rfl
  have HW := Lib.hid hW1; have HW2 := Lib.hid hW2; have HO := Lib.hid hO2; have HZ := Lib.hid hz1; have HK2 := Lib.hid (K1.below hb2 K1.lt); have HB2 := Lib.hid hb2; have HB1 := Lib.hid hb1; have HWS := Lib.hid hws
  have HN8 := Lib.hid hn8; have HT4 := Lib.hid ht4; have HBD := Lib.hid hbd
  clear hW1 hW2 hb1 hb2 hO2 K1 hz1 hSA hR hn8 ht4 hbd hws
  go_enter Tryz.func15, Tryz.ntmps15
  go_upto_region 2 with (fail)
  rw [← HW.out, ← HW2.out]
  go_wp2
  go_loopw [5, 6] (fun v i wr => ∃ (f : Nat) (vs : List Value), f ≤ 5 ∧ i = .int .i64 f ∧ Hid (wr.ownsRow W1.heap.size 26 1 v f vs) ∧ Hid (RowsTo wr W1.heap.size ws vs f) ∧ Hid (Below W1.heap.size W1 wr) ∧ Hid (Blk wr w.heap.size 33 #[.slice A n c, .int .i64 p.els])) (fun _ i _ => 5 - (intOf i).toNat)
  case atStart => exact ⟨0, [], by omega, rfl, HO, Lib.hid ⟨rfl, fun j l hj => absurd hj (by omega)⟩, HB2, HK2⟩
  case round =>
    obtain ⟨f, vs, hf, rfl, HO, HRT, HBW, HK⟩ := hrel
    have hsz : W1.heap.size ≤ wr.heap.size := HBW.out.size
    have y0 : wr.cell? ⟨w.heap.size, 0, none⟩ = some (.slice A n c) := HK.out.cell 0
    have y1 : wr.cell? ⟨w.heap.size, 1, none⟩ = some (.int .i64 p.els) := HK.out.cell 1
    obtain ⟨A5, c5, rfl⟩ := own_slV HO.out
    by_cases hlt : f < 5
    · have hfi : (f : Int) ≤ 4 := by omega
      have HLT := Lib.hid hlt
      have hbw : Below w.heap.size w wr := HB1.out.trans (HBW.out.mono (by rw [HZ.out]; omega))
      clear hlt
      go_wp2_with fail
      refine (l13Words_any p f _ _ (HP.out.below hbw) HN8.out HT4.out HBD.out).mono ?_; rintro e w2 ⟨u, rfl, own2, hb2⟩
      obtain ⟨A2, c2, rfl⟩ := own_slN own2
      have HO2 := Lib.hid (own_below HO.out hb2)
      have HRT2 := Lib.hid (HRT.out.below hb2); have HK2 := Lib.hid (HK.out.below hb2 HK.out.lt)
      have HBW2 := Lib.hid (HBW.out.trans (hb2.mono hsz)); have HOW := Lib.hid own2
      have hs2 : W1.heap.size ≤ w2.heap.size := HBW2.out.size
      have hs3 := hb2.size
      clear own2 hb2 y0 y1 hbw
      go_wp2_with (at_builtin; go_must (refine wpList_appN (w0 := w2) 1 rfl (.tmp 17) (.tmp 21) _ rfl W1.heap.size 26 Tryz.underlying66 info_intS rfl (by omega) (by omega) (.slice A5 f c5) f vs rfl HO2.out (r := [.slice A2 (nearW p.rules f).length c2]) rfl (by simp [Value.oneCell']) rfl (by omega) (by exact hs2) ?_); intro v5 w5 hown5 hg5)
      have hrow : ∀ r, (Value.slice A5 f c5).ownBlock = some r → ∀ cs fr, w2.heap[r]? ≠ some (.cells cs 3 fr) := fun r e cs fr e2 => by
        obtain ⟨cs', fr', e3⟩ := own_blockT HO2.out e
        rw [e3] at e2; cases e2
      refine ⟨⟨f + 1, vs ++ [.slice A2 (nearW p.rules f).length c2], by have := HLT.out; omega, by go_num, Lib.hid hown5, Lib.hid ⟨by simp [HRT2.out.1], fun j l hj hl => ?_⟩, Lib.hid (HBW2.out.trans (own_gbN HO2.out hg5 hs2)), Lib.hid (HK2.out.grown hg5 (fun e => own_ne_blk_some HO2.out HK2.out (by decide) e.symm))⟩, by simp [intOf]; have := HLT.out; omega⟩
      obtain ⟨h1, h2⟩ := HRT2.out.grown hg5 hrow
      by_cases e : j = f
      · subst e
        rw [HWS.out, nearWs_get _ HLT.out] at hl
        cases hl
        exact ⟨_, by rw [List.getElem?_append_right (by omega), h1]; simp, own_grownN (own_base HOW.out (by omega)) hg5 (fun r e => own_typeN HOW.out (hrow r e))⟩
      · obtain ⟨u, hu, ho⟩ := h2 j l (by omega) hl
        exact ⟨u, by rw [List.getElem?_append_left (by omega)]; exact hu, ho⟩
    · obtain rfl : f = 5 := by omega
      rw [show ((5 : Nat) : Int) = 5 from rfl]
      have hmk : (Instr.makeSlice 26 (.int .i64 5) (.int .i64 5)).run Tryz.prog wr = .ok (.slice (some ⟨wr.heap.size, 0, none⟩) 5 5) (wr.alloc (.cells (nRow [0, 0, 0, 0, 0]) 3)) := by
        have h := run_make_rowN (P := Tryz.prog) 26 3 (.int .i64 0) 1 8 Tryz.underlying26 info_int .i64 5 (by omega) (by omega) wr
        have e : madeCells #[.int .i64 0] 5 = nRow [0, 0, 0, 0, 0] := nRow_zero 5
        exact h.trans (by rw [show (Value.int .i64 0).cells = #[.int .i64 0] from rfl, show 5 * 1 = 5 from rfl, e])
      obtain ⟨W6, hW6⟩ : ∃ W, W = (wr.alloc (.cells (nRow [0, 0, 0, 0, 0]) 3)).alloc (.cells #[] 28) := ⟨_, rfl⟩
      have hb6 : Below wr.heap.size wr W6 := by rw [hW6]; go_grown
      have hz6 : W6.heap.size = wr.heap.size + 1 + 1 := by rw [hW6]; simp
      have A6 : Blk W6 wr.heap.size 3 (nRow [0, 0, 0, 0, 0]) := by rw [hW6]; exact (Blk.new wr _ _).alloc _
      have C6 : Blk W6 (wr.heap.size + 1) 28 #[] := by rw [hW6]; exact blk2N wr _ _ _
      have HW6 := Lib.hid hW6
      clear hW6
      go_wp2
      rw [← HW6.out]
      obtain ⟨wb, rfl⟩ : ∃ wb, A5 = some ⟨wb, 0, none⟩ := by
        obtain ⟨g, cap, e, _⟩ := HO.out.form (by omega)
        injection e with e1 _ e3
        exact ⟨g, e1⟩
      obtain ⟨ab, hab⟩ : ∃ b, b = wr.heap.size := ⟨_, rfl⟩
      have HW06 := Lib.hid (show Below ab wr W6 by rw [hab]; exact hb6)
      have HS06 : Hid (wr.heap.size ≤ ab) := Lib.hid (by rw [hab]; exact Nat.le_refl _)
      have hwb : wb < ab := by
        obtain ⟨cs, fr, h⟩ := own_blockT HO.out (r := wb) rfl
        rw [hab]; exact (Array.getElem?_eq_some_iff.1 h).1
      have hWa : w.heap.size < ab := by have := HZ.out; have := HBW.out.size; omega
      have HBW6 := Lib.hid (show Below w.heap.size w W6 from HB1.out.trans ((HBW.out.trans (hb6.mono hsz)).mono (by rw [HZ.out]; omega)))
      rw [← hab] at A6 C6 hz6 ⊢
      have HA6 := Lib.hid A6
      have HC6 : Hid (CallsRow W6 (ab + 1) (.slice (some ⟨ab + 1, 0, none⟩) 0 0) []) := Lib.hid ⟨own_emptyN C6 (Nat.le_refl _), fun x h => by simp at h, .nil⟩
      have HC0 : Hid (Ctr (lensOf ws) [0, 0, 0, 0, 0]) := Lib.hid (Ctr.start (by rw [HWS.out]; rfl) (fun l hl => by
        rw [HWS.out] at hl
        simp only [lensOf, nearWs, List.map_cons, List.map_nil, List.mem_cons, List.not_mem_nil, or_false] at hl
        rcases hl with rfl | rfl | rfl | rfl | rfl <;> exact (WordsOf.near _ _).pos))
      have hs6 : ab + 1 < W6.heap.size := by omega
      have HAB := Lib.hid hab
      clear hab hb6 A6 C6 HK HBW y0 y1 hmk HW6 hsz hlt hz6
      go_loopg [8] 600 (fun g v wq => ∃ (m : Nat) (us : List Nat) (xs : List NItem), m ≤ 600 ∧ 600 - m ≤ g ∧ Hid (ctrAt (lensOf ws) m = some us) ∧ Hid (xs.map NItem.c = callsTo ws m) ∧ Hid (Ctr (lensOf ws) us) ∧ Hid (Blk wq ab 3 (nRow us)) ∧ Hid (CallsRow wq (ab + 1) v xs) ∧ Hid (Below ab W6 wq))
      case atStart => exact ⟨0, [0, 0, 0, 0, 0], [], by omega, by omega, Lib.hid rfl, Lib.hid rfl, HC0, HA6, HC6, Lib.hid (Below.refl _ _)⟩
      case round =>
        clear HA6 HC6 HC0
        obtain ⟨m, us, xs, hm, hg, HM, HXS, HC, HAT, HCR, HB⟩ := hrel
        have hxl : xs.length = m := by
          have h1 := (callsTo_len HM.out).1
          rw [← HXS.out, List.length_map] at h1
          exact h1
        have HXL := Lib.hid hxl
        obtain ⟨A7, c7, rfl⟩ := own_slV HCR.out.row
        have hsb : W6.heap.size ≤ wr.heap.size := HB.out.size
        by_cases hlt : m < 600
        · have hmi : (xs.length : Int) < 600 := by omega
          obtain ⟨WQ, hwq⟩ : ∃ W, W = wr := ⟨_, rfl⟩
          rw [← hwq] at HAT HCR HB hsb ⊢
          clear hwq
          have hbq : Below ab _ WQ := HW06.out.trans HB.out
          have HWO := Lib.hid (own_far HO.out hbq HS06.out); have HWR := Lib.hid (HRT.out.far hbq HS06.out)
          obtain ⟨g0, n0, k0, u0, q0, q1, q2, q3, q4, q5, q6, q7⟩ := words_at2 HWO.out HWR.out HC.out (f := 0) (by omega)
          have a0 : WQ.cell? ⟨ab, 0, none⟩ = some (.int .i64 (u0 : Int)) := nRow_cell HAT.out q4
          have q3' : (u0 : Int) < n0 := by omega
          obtain ⟨x0, hx0⟩ : ∃ x, x = wordAt2 ws us 0 := ⟨_, rfl⟩
          rw [← hx0] at q7
          have HX0 := Lib.hid hx0
          have hal : ab < WQ.heap.size := HAT.out.lt
          have hwl : wb < WQ.heap.size := by omega
          have HLT := Lib.hid hlt
          clear hx0 q4 q5 hlt hbq hxl
          go_wp2_with fail
          go_region
          all_goals
            obtain ⟨Wc, hWc⟩ : ∃ Wc, Wc = (WQ.alloc (.cells #[.int .i64 x0, .slice none 0 0] 28)).drew := ⟨_, rfl⟩
            obtain ⟨cb, hcb⟩ : ∃ b, b = WQ.heap.size := ⟨_, rfl⟩
            have hKc : Hid (Blk Wc cb 28 #[.int .i64 x0, .slice none 0 0]) := Lib.hid (by rw [hWc, hcb]; exact (Blk.new WQ _ _).drew)
            have hbc : Hid (Below cb WQ Wc) := Lib.hid (by rw [hWc, hcb]; exact ((Below.refl _ WQ).alloc (Nat.le_refl _) _).drew)
            have HCB := Lib.hid hcb
            rw [← hWc, ← hcb]
            clear hWc hcb q0 q1 q2 q3 q6 q7 a0 q3' hal hwl hmi
            go_wp2
            go_loopw [10] (fun i w3 => ∃ (f : Nat) (av : Value), 1 ≤ f ∧ f ≤ 5 ∧ i = .int .i64 f ∧ Hid (Blk w3 cb 28 #[.int .i64 x0, av]) ∧ Hid (w3.ownsRow (cb + 1) 3 1 av (f - 1) (ints ((callAt ws us).args.take (f - 1))).flatten) ∧ Hid (Below cb WQ w3)) (fun i _ => 5 - (intOf i).toNat)
            case atStart => exact ⟨1, _, by omega, by omega, rfl, hKc, Lib.hid (World.ownsRow_nil _ _ _ _), hbc⟩
            case round =>
              clear hKc hbc
              obtain ⟨f, av, h1f, hf5, rfl, HKC, HAV, HB3⟩ := hrel
              by_cases hlt : f < 5
              · have hfi : (f : Int) ≤ 4 := by omega
                have hfi2 : (f : Int) < 5 := by omega
                have hbb : Below WQ.heap.size WQ wr := by rw [← HCB.out]; exact HB3.out
                obtain ⟨g0, n0, k0, u0, q0, q1, q2, q3, q4, q5, q6, q7⟩ := words_at2 (own_below HWO.out hbb) (HWR.out.below hbb) HC.out hlt
                have a0 : wr.cell? ⟨ab, f, none⟩ = some (.int .i64 (u0 : Int)) := nRow_cell (HAT.out.below hbb HAT.out.lt) q4
                have q3' : (u0 : Int) < n0 := by omega
                obtain ⟨x1, hx1⟩ : ∃ x, x = wordAt2 ws us f := ⟨_, rfl⟩
                rw [← hx1] at q7
                have HX1 := Lib.hid hx1
                obtain ⟨A5, n5, c5', rfl, -⟩ := SlA.of_own HAV.out (by rw [ints_len]; exact args_len ws us (by omega)) (ints_rows _)
                have p0 : wr.cell? ⟨cb, 0, none⟩ = some (.int .i64 x0) := HKC.out.cell 0
                have p1 : wr.cell? ⟨cb, 1, none⟩ = some (.slice A5 n5 c5') := HKC.out.cell 1
                have hcl : cb + 1 ≤ wr.heap.size := HKC.out.lt
                have hl0 : cb < wr.heap.size := HKC.out.lt
                have hl1 : ab < wr.heap.size := (HAT.out.below hbb HAT.out.lt).lt
                have hl2 : wb < wr.heap.size := by omega
                have HLT3 := Lib.hid hlt; have HBB := Lib.hid hbb; have HF1 := Lib.hid h1f
                have hl4 : f - 1 ≤ 4 := by omega
                clear hx1 hlt hbb q4 q5
                go_wp2_with fail
                go_region_law (refine step_app0g (w0 := wr.drew) rfl (.tmp 43) (.tmp 54) _ rfl (cb + 1) 3 Tryz.underlying26 info_int rfl (by omega) (by omega) (.slice A5 n5 c5') (f - 1) (ints ((callAt ws us).args.take (f - 1))) rfl HAV.out rfl (by simp [Value.oneCell']) rfl (by omega) (by exact hcl) ?_; intro v2 w6 hown2 hg2 _; obtain ⟨g2, cap2, rfl, hg2', hg2''⟩ := hown2.form (by omega); have K6 : Blk w6 cb 28 #[.int .i64 x0, .slice A5 n5 c5'] := Blk.grown (w := wr.drew) HKC.out hg2 (fun e => own_ne_blk_some (w := wr.drew) HAV.out HKC.out (by decide) e.symm); have y1 : w6.cell? ⟨cb, 1, none⟩ = some (.slice A5 n5 c5') := K6.cell 1; have y2 := K6.frozen 1)
                all_goals go_wp2
                all_goals
                  have ef : f - 1 + 1 = f := by have := HF1.out; omega
                  have HO2 : w6.ownsRow (cb + 1) 3 1 (.slice (some ⟨g2, 0, none⟩) f cap2) f (ints ((callAt ws us).args.take f)).flatten := by
                    rw [← args_next ws us HF1.out (by omega), ← HX1.out]
                    rw [ef] at hown2
                    exact hown2
                  refine ⟨⟨f + 1, .slice (some ⟨g2, 0, none⟩) f cap2, by omega, HLT3.out, by go_num, Lib.hid ?_, Lib.hid ?_, Lib.hid ?_⟩, by simp [intOf]; have := HLT3.out; omega⟩
                  · have := K6.set_ 1 (.slice (some ⟨g2, 0, none⟩) f cap2)
                    simpa using this
                  · exact ownsRow_setCell_below HO2 (by show cb < cb + 1; omega) _
                  · exact ((HB3.out.drew).trans ((own_gbN (w := wr.drew) HAV.out hg2 hcl).mono (by omega))).setCell (Nat.le_refl _) _
              · obtain rfl : f = 5 := by omega
                rw [show ((5 : Nat) : Int) = 5 from rfl]
                have hbb : Below WQ.heap.size WQ wr := by rw [← HCB.out]; exact HB3.out
                have hav : wr.ownsRow (cb + 1) 3 1 av 4 (ints (callAt ws us).args).flatten := HAV.out
                obtain ⟨gA, cA, rfl, hgA, hgA'⟩ : ∃ gA cA, av = .slice (some ⟨gA, 0, none⟩) 4 cA ∧ cb + 1 ≤ gA ∧ gA < wr.heap.size := by
                  obtain ⟨gA, cA, e, h1, h2⟩ := hav.form (by omega)
                  exact ⟨gA, cA, e, h1, h2⟩
                have p0 : wr.cell? ⟨cb, 0, none⟩ = some (.int .i64 x0) := HKC.out.cell 0
                have p1 : wr.cell? ⟨cb, 1, none⟩ = some (.slice (some ⟨gA, 0, none⟩) 4 cA) := HKC.out.cell 1
                have HCR3 := Lib.hid (HCR.out.below hbb)
                have HAT3 := Lib.hid (HAT.out.below hbb HAT.out.lt)
                have hal : ab < WQ.heap.size := HAT.out.lt
                have hcw := HCB.out
                have HB3b := Lib.hid (show Below ab W6 wr from HB.out.trans (hbb.mono (by omega)))
                have hwr : ab + 1 ≤ wr.heap.size := by have := hbb.size; omega
                have hx6 : xs.length ≤ 600 := by rw [HXL.out]; exact hm
                have hup : Hid (∀ y ∈ xs, y.g < gA) := Lib.hid (fun y hy => by have := HCR.out.lt hy; omega)
                have HAVB := Lib.hid (own_base (base' := ab + 1) hav (by omega))
                clear hbb hav hal hcw hgA hgA' HAV HB3 HKC HWO HWR HAT HCR HB hsb
                go_wp2_with (at_builtin; go_must (refine wpList_appN (w0 := wr) 1 rfl (.tmp 57) (.tmp 59) _ rfl (ab + 1) 28 Tryz.underlying42 info_Call rfl (by omega) (by omega) (.slice A7 xs.length c7) xs.length (xs.map fun x => [Value.int .i64 x.c.num, x.args]).flatten rfl HCR3.out.row (r := [.int .i64 x0, .slice (some ⟨gA, 0, none⟩) 4 cA]) rfl (by simp [Value.oneCell']) rfl (by omega) (by exact hwr) ?_); intro v5 w5 hown5 hg5; obtain ⟨g5, cap5, rfl, hg5', hg5''⟩ := hown5.form (by omega))
                have HCR5 : Hid (CallsRow w5 (ab + 1) (.slice (some ⟨g5, 0, none⟩) (xs.length + 1) cap5) (xs ++ [(⟨callAt ws us, gA, cA⟩ : NItem)])) := Lib.hid (CallsRow.app HCR3.out rfl HAVB.out hup.out hg5 (by
                  show w5.ownsRow _ _ _ _ _ (_ ++ [Value.int .i64 (wordAt2 ws us 0), _])
                  rw [← HX0.out]
                  exact hown5))
                have HAT5 := Lib.hid (HAT3.out.grown hg5 (fun e => own_ne_blk_some HCR3.out.row HAT3.out (by decide) e.symm))
                have HB5 := Lib.hid (HB3b.out.trans ((own_gbN HCR3.out.row hg5 hwr).mono (by omega)))
                have HXS5 : Hid ((xs ++ [(⟨callAt ws us, gA, cA⟩ : NItem)]).map NItem.c = callsTo ws (m + 1)) := Lib.hid (by rw [List.map_append, HXS.out, callsTo_some HM.out]; rfl)
                obtain ⟨ys, hys⟩ : ∃ ys, ys = xs ++ [(⟨callAt ws us, gA, cA⟩ : NItem)] := ⟨_, rfl⟩
                rw [← hys] at HCR5 HXS5
                clear hys hown5 hg5 hg5' hg5'' HCR3 HAT3 HB3b HAVB hup p0 p1 HX0
                go_loopw [11] (fun i w3 => ∃ (k : Nat) (vs2 : List Nat), k ≤ 5 ∧ i = .int .i64 ((k : Int) - 1) ∧ Hid (vs2.length = 5) ∧ Hid (∀ j, j < k → vs2[j]? = us[j]?) ∧ Hid (odo (lensOf ws) us 5 = odo (lensOf ws) vs2 k) ∧ Hid (Blk w3 ab 3 (nRow vs2)) ∧ Hid (Below ab W6 w3) ∧ Hid (CallsRow w3 (ab + 1) (.slice (some ⟨g5, 0, none⟩) (xs.length + 1) cap5) ys)) (fun i _ => (intOf i + 1).toNat)
                case atStart => exact ⟨5, us, by omega, rfl, Lib.hid HC.out.a5, Lib.hid (fun _ _ => rfl), Lib.hid rfl, HAT5, HB5, HCR5⟩
                case round =>
                  clear HAT5 HB5 HCR5
                  obtain ⟨k, vs2, hk5, rfl, HV5, HVU, HOD, HAT, HB, HCR⟩ := hrel
                  rcases k with _ | f
                  · rw [show ((0 : Nat) : Int) - 1 = -1 from rfl]
                    have hd : decide ((0 : Int) ≤ -1) = false := rfl
                    have hn : ctrAt (lensOf ws) (m + 1) = none := by
                      show (ctrAt (lensOf ws) m).bind _ = none
                      rw [HM.out]
                      exact HOD.out
                    have HNI : Hid (NearIs (nearWs p.rules) 600 (ys.map NItem.c)) := Lib.hid ⟨m + 1, by rw [HXS5.out, HWS.out], fun j hj h => (by
                      obtain ⟨bs, hb⟩ := ctrAt_back HM.out (show j ≤ m by omega)
                      rw [← HWS.out, hb] at h; cases h), by
                      have := HLT.out
                      rw [← HWS.out]
                      rcases Nat.lt_or_ge (m + 1) 600 with h | h
                      · exact .inr ⟨h, hn⟩
                      · exact .inl (by omega)⟩
                    clear hn
                    go_wp2_with fail
                    go_quiet ((fail))
                    go_wp2
                    go_ret
                    exact ⟨_, ys, rfl, (HCR.out.grown (grown_drewN _ _ none) (fun r e => by cases e)).base_ (by omega), HNI.out, HBW6.out.trans ((below_drewN HB.out _).mono (by omega))⟩
                  · rw [show ((f + 1 : Nat) : Int) - 1 = f from by omega]
                    have hf5 : f < 5 := by omega
                    have hfi : (f : Int) < 5 := by omega
                    have hbq : Below ab _ wr := HW06.out.trans HB.out
                    have HWO := Lib.hid (own_far HO.out hbq HS06.out); have HWR := Lib.hid (HRT.out.far hbq HS06.out)
                    obtain ⟨u, hu⟩ : ∃ u, vs2[f]? = some u := ⟨_, List.getElem?_eq_getElem (by rw [HV5.out]; exact hf5)⟩
                    have huu : us[f]? = some u := by rw [← HVU.out f (by omega)]; exact hu
                    obtain ⟨g1, n1, k1, u1, q0, q1, q2, q3, q4, q5, q6, q7⟩ := words_at2 HWO.out HWR.out HC.out hf5
                    rw [huu] at q4; cases q4
                    have hub : (u : Int) < n1 := by omega
                    have hub2 : (u : Int) + 1 ≤ 9223372036854775807 := by omega
                    have a0 : wr.cell? ⟨ab, f, none⟩ = some (.int .i64 (u : Int)) := nRow_cell HAT.out hu
                    have fz := HAT.out.frozen f
                    have HU := Lib.hid hu; have HN1 := Lib.hid q5; have HQ3 := Lib.hid q3; have HF5 := Lib.hid hf5
                    clear q3 q5 q6 q7 hu hf5 huu hbq
                    by_cases hq : u + 1 = n1
                    · have hd : ((u : Int) == (n1 : Int) - 1) = true := by simp; omega
                      have HQ := Lib.hid hq; clear hq
                      go_wp2_with fail
                      go_quiet ((fail))
                      go_wp2
                      refine ⟨⟨f, vs2.set f 0, by omega, by go_num, Lib.hid (by simp [HV5.out]), Lib.hid (fun j hj => ?_), Lib.hid ?_, Lib.hid ?_, Lib.hid ?_, Lib.hid ?_⟩, by simp [intOf]; try omega⟩
                      · rw [List.getElem?_set_ne (by omega)]; exact HVU.out j (by omega)
                      · rw [HOD.out, odo_pos (by rw [HU.out, HN1.out, Option.getD_some]; exact HQ.out)]
                      · have := (HAT.out.drewN nq).set_ f (.int .i64 ((0 : Nat) : Int))
                        rwa [nRow_set] at this
                      · exact (below_drewN HB.out nq).setCell (p := ⟨ab, f, none⟩) (Nat.le_refl _) _
                      · exact (HCR.out.grown (grown_drewN _ nq none) (fun r e => by cases e)).setLow (by omega)
                    · have hd : ((u : Int) == (n1 : Int) - 1) = false := by simp; omega
                      have HQ := Lib.hid hq; clear hq
                      go_wp2_with fail
                      go_quiet ((fail))
                      clear hd hub q0 q1 q2
                      have hfn : decide ((f : Int) < 0) = false := by simp
                      go_wp2
                      have hod : odo (lensOf ws) us 5 = some (vs2.set f (u + 1)) := by
                        rw [HOD.out, odo_neg (by rw [HU.out, HN1.out, Option.getD_some]; exact HQ.out), HU.out]
                        rfl
                      have hlt' := HLT.out
                      go_roundg (600 - (m + 1))
                      case measure => omega
                      case rel =>
                        refine ⟨m + 1, vs2.set f (u + 1), ys, by omega, by omega, Lib.hid ?_, HXS5, Lib.hid (HC.out.next hod).1, Lib.hid ?_, Lib.hid ?_, Lib.hid ((below_drewN HB.out nq).setCell (p := ⟨ab, f, none⟩) (Nat.le_refl _) _)⟩
                        · show (ctrAt (lensOf ws) m).bind _ = _
                          rw [HM.out]
                          exact hod
                        · have := (HAT.out.drewN nq).set_ f (.int .i64 ((u + 1 : Nat) : Int))
                          rwa [nRow_set] at this
                        · exact (HCR.out.grown (grown_drewN _ nq none) (fun r e => by cases e)).setLow (by omega)
        · have hmi : ¬ (xs.length : Int) < 600 := by omega
          have hmi2 : decide ((xs.length : Int) < 600) = false := by simp; omega
          have hm6 : m = 600 := by omega
          have HNI : Hid (NearIs (nearWs p.rules) 600 (xs.map NItem.c)) := Lib.hid ⟨m, by rw [HXS.out, HWS.out], fun j hj h => (by
            obtain ⟨bs, hb⟩ := ctrAt_back HM.out (show j ≤ m by omega)
            rw [← HWS.out, hb] at h; cases h), .inl hm6⟩
          clear hmi
          go_wp2
          go_ret
          exact ⟨_, xs, rfl, HCR.out.base_ (by omega), HNI.out, HBW6.out.trans (HB.out.mono (by omega))⟩

theorem polOk_fields {p : Pol} (hok : polOkB p = true) : ∀ r ∈ p.rules, (0 ≤ r.low ∧ r.low ≤ 4294967295) ∧ (0 ≤ r.high ∧ r.high ≤ 4294967295) ∧ ∀ t ∈ r.tests, (1 ≤ t.field) ∧ 0 ≤ t.value ∧ t.value ≤ 4294967295 := fun r hr => by
  obtain ⟨h1, h2, h3⟩ := polOk_bounds hok
  obtain ⟨h4, h5, h6⟩ := h3 r hr
  refine ⟨h4, h5, fun t ht => ⟨?_, h6 t ht⟩⟩
  have h := polOk_rulesN hok r hr
  unfold ruleOkB at h
  simp only [Bool.and_eq_true] at h
  have := List.all_eq_true.1 h.2 t ht
  unfold testOkB inB at this
  simp only [Bool.and_eq_true, decide_eq_true_eq] at this
  omega
end Go.Proofs.YtkiacbfpnidjlaaGreatDoor
