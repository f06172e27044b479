/- Joined texts: PutU PutV PutW PutX. -/
import Derived.Test.YtccklepidlddcaaGmX
import Derived.Test.YtccklepidlddcaaGmT
import Derived.Deep.LoopGhost
-- impl's lists of points: putRule.
namespace Go.Proofs.Ytccklepidlddcaa
open Go.RowKit Go.Maps
set_option linter.unusedSimpArgs false
set_option linter.unusedVariables false

/-- Every field of every point is a word. -/
def SmallG (g : List Pt) : Prop := ∀ (i : Nat) (p : Pt), g[i]? = some p → Small p
theorem SmallG.nil : SmallG [] := fun i p h => by simp at h
theorem SmallG.put {g g' : List Pt} {x : Pt} {i : Nat} (h : SmallG g) (hp : PutIs g x g' i) (hx : Small x) : SmallG g' := by
  rcases hp with ⟨rfl, -, -⟩ | ⟨rfl, rfl, -⟩
  · exact h
  · intro j p hj
    by_cases hl : j < g.length
    · rw [List.getElem?_append_left hl] at hj; exact h j p hj
    · rw [List.getElem?_append_right (by omega)] at hj
      by_cases h0 : j - g.length = 0
      · rw [h0] at hj; cases hj; exact hx
      · rw [List.getElem?_eq_none (by simp; omega)] at hj; cases hj
theorem SmallG.look {g g' : List Pt} {f m o v : Int} {y n i : Nat} (h : SmallG g) (hl : LookIs g f m o v y n g' i) (hx : Small ⟨0, f, m, o, v, y, n⟩) : SmallG g' := by
  rcases hl with ⟨-, rfl, rfl⟩ | ⟨-, hp⟩
  · exact h
  · exact h.put hp hx
theorem SmallG.test {g g' : List Pt} {t : Ts} {y n i : Nat} (h : SmallG g) (hl : TestIs g t y n g' i) (ht : testOkB t = true) (hy : y ≤ 100000) (hn : n ≤ 100000) : SmallG g' := by
  obtain ⟨⟨f0, f1⟩, ⟨m0, m1⟩, ⟨v0, v1⟩, -⟩ := testOkB_words ht
  rcases hl with ⟨-, hl⟩ | ⟨-, -, hl⟩ | ⟨-, -, -, rfl, rfl⟩ | ⟨-, -, h0, hl⟩
  · exact h.look hl (small_look ⟨by omega, by omega⟩ ⟨by omega, by omega⟩ ⟨by omega, by omega⟩ ⟨by omega, by omega⟩ hy hn)
  · exact h.look hl (small_look ⟨by omega, by omega⟩ ⟨by omega, by omega⟩ ⟨by omega, by omega⟩ ⟨by omega, by omega⟩ hy hn)
  · exact h
  · exact h.look hl (small_look ⟨by omega, by omega⟩ ⟨by omega, by omega⟩ ⟨by omega, by omega⟩ ⟨by omega, by omega⟩ hn hy)

end Go.Proofs.Ytccklepidlddcaa

-- impl's trimming: pointsFrom.
namespace Go.Proofs.Ytccklepidlddcaa
open Go.RowKit Go.Maps
set_option linter.unusedSimpArgs false
set_option linter.unusedVariables false

set_option maxHeartbeats 4000000 in
theorem pointsFrom_any (A : Option Addr) (n c : Nat) (g : List Pt) (at_ : Nat) (w : World) (hA : SlA w 7 A n c (g.map Pt.cells)) (hAh : Good g) (hat : at_ < n) (hn : n ≤ 1000) :
    Calls Try.prog 15 #[.slice A n c, .int .i64 at_] w fun e w' => e = .returned (.slice (some ⟨w.heap.size, 0, none⟩) n n) ∧ Blk w' w.heap.size 4 (bRow (usedOf g at_)) ∧ Below w.heap.size w w' := by
  have hl : g.length = n := by have := hA.len; simpa using this
  have hc := hA.cap
  have hm := hA.max
  unfold maxLen at hm
  have hmk := fun W => run_make_row' (P := Try.prog) 37 4 (.bool false) 1 Try.underlying37 info_boolR rfl .i64 .i64 n (by omega) (by omega) W
  have B0 : Blk (w.alloc (.cells (madeCells #[.bool false] n) 4)) w.heap.size 4 (bRow (List.replicate n false)) := by rw [bRow_zero]; exact Blk.new _ _ _
  have d0 := bRow_cell (k := at_) (b := false) B0 (by simp [List.getElem?_replicate, hat])
  have f0 := B0.frozen at_
  have h0n : (at_ : Int) < n := by omega
  have HL := Lib.hid hl; have HG := Lib.hid hAh; have HA := Lib.hid hA; clear hl hAh B0 hA
  go_enter Try.func15, Try.ntmps15
  go_wp2
  go_loopw [6] (fun i wr => ∃ (k : Nat) (z : Int) (us : List Bool), k ≤ at_ + 1 ∧ z + 1 = k ∧ i = .int .i64 z ∧ us.length = n ∧ Hid (useDown g k us = usedOf g at_) ∧ Blk wr w.heap.size 4 (bRow us) ∧ Below w.heap.size w wr) (fun i _ => (intOf i + 1).toNat)
  case atStart =>
    refine ⟨at_ + 1, at_, (List.replicate n false).set at_ true, by omega, by omega, rfl, by simp, Lib.hid (by unfold usedOf; rw [HL.out]), ?_, by go_grown⟩
    rw [← bRow_set, ← bRow_zero]; exact Blk.new _ _ _
  case round =>
    obtain ⟨k, z, us, hk, hz, rfl, hrl, HR, hbk, hbw⟩ := hrel
    have hsz := hbw.size
    have hblt := hbk.lt
    by_cases hge : 0 ≤ z
    · obtain ⟨m, rfl⟩ : ∃ m : Nat, z = m := ⟨z.toNat, by omega⟩
      obtain rfl : k = m + 1 := by omega
      have hmn : m < n := by omega
      have hmni : (m : Int) < n := by omega
      obtain ⟨b, off, p, rfl, hab, hgp, hcell⟩ := pts_get HA.out hmn
      obtain ⟨c0, c1, c2, c3, c4, c5, c6⟩ := hcell wr _ hbw hab
      obtain ⟨rb, hrb⟩ := bRow_some hrl hmn
      obtain ⟨XB, hXB⟩ : ∃ X, X = Obj.cells #[.int .i64 p.verdict, .int .i64 p.field, .int .i64 p.mask, .int .i64 p.op, .int .i64 p.value, .int .i64 p.yes, .int .i64 p.no] 40 := ⟨_, rfl⟩
      have hbx : Below wr.heap.size wr (wr.alloc XB) := by rw [hXB]; go_grown
      have hbk0 := hbk
      have hwne : ¬ w.heap.size = wr.heap.size := by omega
      have hwne' : ¬ wr.heap.size = w.heap.size := by omega
      have hbk := hbk.below hbx hblt
      have hbw0 := hbw
      have hbw := below_then hbw hbx
      have HRB := Lib.hid hrb; have HP := Lib.hid hgp
      by_cases hop : 0 < p.op
      · have hd : (p.op != 0) = true := by simp; omega
        obtain ⟨y, nn, hy, hnn, hyk, hnk⟩ := HG.out.ahead m p HP.out hop
        have HY := Lib.hid hy; have HN := Lib.hid hnn
        rw [hy] at c5 hXB
        rw [hnn] at c6 hXB
        clear hy hnn
        rw [hXB] at hbk hbw
        clear hXB hbx
        have dk := bRow_cell hbk hrb
        clear hrb hgp hcell
        cases rb with
        | false =>
          go_wp2
          exact ⟨⟨m, (m : Int) - 1, us, by omega, by omega, by go_num, hrl, Lib.hid (by have := HR.out; rwa [useDown, useAt_skip HP.out (.inl HRB.out)] at this), hbk, hbw⟩, by simp [intOf]⟩
        | true =>
          obtain ⟨by_, hby⟩ := bRow_some hrl (k := y) (by omega)
          have dy := bRow_cell hbk0 hby
          have fy := hbk0.frozen y
          have BY := hbk0.set_ y (.bool true)
          rw [bRow_set] at BY
          obtain ⟨bn, hbn⟩ := bRow_some (rs := us.set y true) (n := n) (by simp [hrl]) (k := nn) (by omega)
          have dn := bRow_cell BY hbn
          have fn := BY.frozen nn
          have hyi : (y : Int) < n := by omega
          have hni : (nn : Int) < n := by omega
          have HB := Lib.hid BY
          have dk0 := bRow_cell hbk0 HRB.out
          clear hby hbn BY
          have HBW := Lib.hid hbw0
          go_wp2
          exact ⟨⟨m, (m : Int) - 1, (us.set y true).set nn true, by omega, by omega, by go_num, by simp [hrl], Lib.hid (by have := HR.out; rwa [useDown, useAt_mark HP.out HRB.out (by omega) HY.out HN.out] at this), by have := HB.out.set_ nn (.bool true); rw [bRow_set] at this; exact this.below (by go_grown) this.lt, by have h9 := (HBW.out.setCell (p := ⟨w.heap.size, y, none⟩) (by simp) (.bool true)).setCell (p := ⟨w.heap.size, nn, none⟩) (by simp) (.bool true); exact h9.alloc h9.size _⟩, by simp [intOf]⟩
      · have hop0 : p.op = 0 := by rcases HG.out m p HP.out with h | h <;> omega
        have HOP := Lib.hid hop0
        have hd : (p.op != 0) = false := by simp [hop0]
        rw [hXB] at hbk hbw
        clear hXB hbx
        have dk := bRow_cell hbk hrb
        clear hrb hgp hcell hop0
        cases rb with
        | false =>
          go_wp2
          exact ⟨⟨m, (m : Int) - 1, us, by omega, by omega, by go_num, hrl, Lib.hid (by have := HR.out; rwa [useDown, useAt_skip HP.out (.inl HRB.out)] at this), hbk, hbw⟩, by simp [intOf]⟩
        | true =>
          go_wp2
          exact ⟨⟨m, (m : Int) - 1, us, by omega, by omega, by go_num, hrl, Lib.hid (by have := HR.out; rwa [useDown, useAt_skip HP.out (.inr HOP.out)] at this), hbk, hbw⟩, by simp [intOf]⟩
    · obtain rfl : k = 0 := by omega
      go_wp2
      go_ret
      exact ⟨rfl, by have h := HR.out; rw [useDown] at h; rw [← h]; exact hbk, hbw⟩
end Go.Proofs.Ytccklepidlddcaa

-- impl's trimming: putAnew.
namespace Go.Proofs.Ytccklepidlddcaa
open Go.RowKit Go.Maps
set_option linter.unusedSimpArgs false
set_option linter.unusedVariables false

theorem PL.far {w : World} {base L M T i : Nat} {pv : Value} {g : List Pt} {t : TypeId} {cs : Array Value} (h : PL w base L M pv g) (hT : Blk w T t cs) (ht : t ≠ 40) (hL : L ≠ T) (hM : M ≠ T) (v : Value) : PL (w.setCell ⟨T, i, none⟩ v) base L M pv g :=
  ⟨h.box.far (p := ⟨T, i, none⟩) hL v, ownsRow_setCell_other (a := ⟨T, i, none⟩) h.own (own_ne_int h.own hT ht) v, h.map.setCell (a := ⟨T, i, none⟩) hM v, h.lowL, h.lowM⟩
theorem TrimTo.near {g : List Pt} (hg : Good g) {at_ : Nat} {gs : List Pt} {ts : List Nat} : ∀ k, at_ + 1 ≤ k → k ≤ g.length → TrimTo g (usedOf g at_) k gs ts → TrimTo g (usedOf g at_) (at_ + 1) gs ts
  | 0, hk, _, _ => absurd hk (by omega)
  | k + 1, hk, hl, h => by
    by_cases e : k = at_
    · subst e; exact h
    · obtain ⟨gs0, ts0, h0, h1⟩ := h
      rcases h1 with ⟨-, rfl, rfl⟩ | ⟨h2, -⟩
      · exact TrimTo.near hg k (by omega) (by omega) h0
      · rw [usedOf_far hg (by omega) (by omega)] at h2; cases h2

set_option maxHeartbeats 8000000 in
theorem putAnew_any (at_ : Nat) (A : Option Addr) (n c : Nat) (g : List Pt) (w : World) (hA : SlA w 7 A n c (g.map Pt.cells)) (hAh : Good g) (hSM : SmallG g) (hat : at_ < n) (hn : n ≤ 900) :
    Calls Try.prog 37 #[.slice A n c, .int .i64 at_] w fun e w' => ∃ v' gs ts t, e = .returned (.tuple #[v', .int .i64 (t : Nat)]) ∧ Sl w' 7 v' (gs.map Pt.cells) ∧ TrimTo g (usedOf g at_) (at_ + 1) gs ts ∧ ts[at_]? = some t ∧ t < gs.length ∧ Good gs ∧ SmallG gs ∧ gs.length ≤ n ∧ Below w.heap.size w w' := by
  have hl : g.length = n := by have := hA.len; simpa using this
  have hc := hA.cap
  have hm := hA.max
  unfold maxLen at hm
  have HL := Lib.hid hl; have HG := Lib.hid hAh; have HA := Lib.hid hA; have HSM := Lib.hid hSM; clear hl hAh hA hSM
  go_enter Try.func37, Try.ntmps37
  go_wp2_with fail
  refine (newPointList_any _).mono ?_; rintro e W1 ⟨rfl, hPL, hb1⟩
  have hsz := hb1.size
  have hL1 := hPL.box.lt
  have hM1 := hPL.map.lt
  have hmk := fun W => run_make_row' (P := Try.prog) 25 3 (.int .i64 0) 8 Try.underlying25 info_intR rfl .i64 .i64 n (by omega) (by omega) W
  obtain ⟨W2, hW2⟩ : ∃ W2, W2 = W1.alloc (.cells (madeCells #[.int .i64 0] n) 3) := ⟨_, rfl⟩
  have hb12 : Below W1.heap.size W1 W2 := by rw [hW2]; go_grown
  have BT : Blk W2 W1.heap.size 3 (nRow (List.replicate n 0)) := by rw [hW2, ← nRow_zero]; exact Blk.new _ _ _
  have hs2 : W2.heap.size = W1.heap.size + 1 := by rw [hW2]; simp
  have HPL := Lib.hid (hPL.next hb12); have HBT := Lib.hid BT; have HW2 := Lib.hid hW2; have HB2 := Lib.hid (hb1.trans (hb12.mono hsz)); clear hPL BT hW2 hb1
  go_wp2_with fail
  rw [← HW2.out]
  refine (pointsFrom_any A n c g at_ W2 (HA.out.below HB2.out) HG.out hat (by omega)).mono ?_; rintro e W3 ⟨rfl, hbu, hb3⟩
  rw [hs2] at hbu
  obtain ⟨us, hU⟩ : ∃ us, us = usedOf g at_ := ⟨_, rfl⟩
  rw [← hU] at hbu
  have hus : us.length = n := by rw [hU, usedOf_len]; exact HL.out
  have HU := Lib.hid hU; have HPL3 := Lib.hid (HPL.out.next hb3); have HBT3 := Lib.hid (HBT.out.below hb3 (by omega)); have HBU := Lib.hid hbu; have HB3 := Lib.hid (HB2.out.trans (hb3.mono (by omega)))
  clear hU hbu hb3 hb12 HPL HBT
  go_wp2
  have hT1 : w.heap.size + 1 ≠ W1.heap.size := by omega
  have hT2 : w.heap.size ≠ W1.heap.size := by omega
  have hU1 : w.heap.size + 1 ≠ W1.heap.size + 1 := by omega
  have hU2 : w.heap.size ≠ W1.heap.size + 1 := by omega
  go_loopw [19] (fun i wr => ∃ (k : Nat) (pv : Value) (gs : List Pt) (ts : List Nat), k ≤ n ∧ i = .int .i64 k ∧ ts.length = n ∧ Hid (TrimTo g us k gs ts) ∧ Hid (Good gs) ∧ Hid (SmallG gs) ∧ gs.length ≤ k ∧ Hid (ToOk us ts k gs.length) ∧ Hid (PL wr w.heap.size (w.heap.size + 1) w.heap.size pv gs) ∧ Blk wr (W1.heap.size + 1) 4 (bRow us) ∧ Blk wr W1.heap.size 3 (nRow ts) ∧ Below w.heap.size w wr) (fun i _ => n - (intOf i).toNat)
  case atStart => exact ⟨0, _, [], List.replicate n 0, by omega, rfl, by simp, Lib.hid ⟨rfl, by rw [HL.out]⟩, Lib.hid Good.nil, Lib.hid SmallG.nil, by simp, Lib.hid (fun j h => absurd h (by omega)), HPL3, HBU.out, HBT3.out, HB3.out⟩
  case round =>
    obtain ⟨k, pv, gs, ts, hk, rfl, htl, HTT, HAG, HSG, hgl, HTO, HO, hbu, hbt, hbw⟩ := hrel
    clear HPL3 HBT3 HBU HB3 hmk
    have hwz := hbw.size
    by_cases hle : k < n
    · have hlei : (k : Int) < n := by omega
      obtain ⟨b, off, p, rfl, hab, hgp, hcell⟩ := pts_get HA.out hle
      obtain ⟨c0, c1, c2, c3, c4, c5, c6⟩ := hcell wr _ hbw hab
      obtain ⟨rb, hrb⟩ := bRow_some hus hle
      have dk := bRow_cell hbu hrb
      have HRB := Lib.hid hrb; have HP := Lib.hid hgp; clear hrb hgp hcell
      cases rb with
      | false =>
        clear c0 c1 c2 c3 c4 c5 c6
        go_wp2
        exact ⟨⟨k + 1, pv, gs, ts, by omega, by go_num, htl, Lib.hid ⟨gs, ts, HTT.out, .inl ⟨by rw [HRB.out]; simp, rfl, rfl⟩⟩, HAG, HSG, by omega, Lib.hid (HTO.out.skip HRB.out), HO, hbu, hbt, hbw⟩, by simp [intOf]; omega⟩
      | true =>
        have hkat : k ≤ at_ := by
          rcases Nat.lt_or_ge at_ k with h | h
          · have := usedOf_far HG.out h (by rw [HL.out]; exact hle)
            rw [← HU.out, HRB.out] at this
            cases this
          · exact h
        obtain ⟨XB, hXB⟩ : ∃ X, X = Obj.cells #[.int .i64 p.verdict, .int .i64 p.field, .int .i64 p.mask, .int .i64 p.op, .int .i64 p.value, .int .i64 p.yes, .int .i64 p.no] 40 := ⟨_, rfl⟩
        have hbx : Below wr.heap.size wr (wr.alloc XB) := by rw [hXB]; go_grown
        have O1 := HO.out.next hbx
        have BU1 := hbu.below hbx hbu.lt
        have BT1 := hbt.below hbx hbt.lt
        have F1 : Below w.heap.size w (wr.alloc XB) := below_then hbw hbx
        have hz1 : w.heap.size ≤ (wr.alloc XB).heap.size := by simp; omega
        rw [hXB] at O1 BU1 BT1 F1 hz1
        have HO1 := Lib.hid O1; have HBU1 := Lib.hid BU1; have HBT1 := Lib.hid BT1; have HF1 := Lib.hid F1; have HZ1 := Lib.hid hz1; clear O1 BU1 F1 BT1 hXB hbx
        obtain ⟨tk, htk⟩ := nRow_some htl hle
        have HTK := Lib.hid htk
        clear htk
        by_cases hop : 0 < p.op
        · obtain ⟨y, nn, hy, hnn, hyk, hnk, uy, un⟩ := usedOf_next HG.out hkat (by rw [← HU.out]; exact HRB.out) HP.out (by omega)
          rw [← HU.out] at uy un
          obtain ⟨ty, hty, hty2⟩ := HTO.out y hyk uy
          obtain ⟨tn, htn, htn2⟩ := HTO.out nn hnk un
          have hvd : p.verdict = 0 := by rcases HG.out k p HP.out with h | h; · omega
                                         · exact h.2.1
          have hsm := HSM.out k p HP.out
          obtain ⟨vd, pf, pm, po, pl, py, pn⟩ := p
          simp only at hy hnn hop hvd c0 c1 c2 c3 c4 c5 c6 dk
          subst hy hnn hvd
          obtain ⟨-, ⟨f0, f1⟩, ⟨m0, m1⟩, ⟨o0, o1⟩, ⟨w0, w1⟩, -⟩ := hsm
          simp only at f0 f1 m0 m1 o0 o1 w0 w1
          have hd : (po == 0) = false := by simp; omega
          have e0 := nRow_cell hbt hty
          have e1 := nRow_cell hbt htn
          have hblt := hbt.lt
          have hne1 : ¬ W1.heap.size = wr.heap.size := by omega
          have hne2 : ¬ wr.heap.size = W1.heap.size := by omega
          have hyi : (y : Int) < n := by omega
          have hni : (nn : Int) < n := by omega
          have HTY := Lib.hid hty; have HTN := Lib.hid htn
          clear uy un hty htn
          go_wp2
          go_region
          go_wp2_with fail
          refine (putLook_any w.heap.size (w.heap.size + 1) w.heap.size pv gs pf pm po pl ty tn _ (HO.out.next (by go_grown)) (small_look ⟨by omega, by omega⟩ ⟨by omega, by omega⟩ ⟨by omega, by omega⟩ ⟨by omega, by omega⟩ (by omega) (by omega)) (by simp; omega) (by omega)).mono ?_
          rintro e W4 ⟨pv4, g4, a4, rfl, hL, ho4, hf4⟩
          have BT4 := hf4.blk (hbt.below (by go_grown) hbt.lt) (by omega) (by omega) (by decide)
          have BU4 := hf4.blk (hbu.below (by go_grown) hbu.lt) (by omega) (by omega) (by decide)
          have F4 : Below w.heap.size w W4 := (below_then hbw (show Below wr.heap.size wr _ by go_grown)).trans hf4.below
          have d4 := nRow_cell BT4 HTK.out
          have f4 := BT4.frozen k
          obtain ⟨-, q2, q3, q4⟩ := HAG.out.ahead.look hL hty2 htn2
          have HQ1 := Lib.hid (HAG.out.look hL hop hty2 htn2); have HS4 := Lib.hid (HSG.out.look hL (small_look ⟨by omega, by omega⟩ ⟨by omega, by omega⟩ ⟨by omega, by omega⟩ ⟨by omega, by omega⟩ (by omega) (by omega)))
          have HST := Lib.hid (show TrimTo g us (k + 1) g4 (ts.set k a4) from ⟨gs, ts, HTT.out, .inr ⟨HRB.out, _, a4, HP.out, rfl, .inr ⟨by simp only; omega, by
              have ey : ts.getD (y : Int).toNat 0 = ty := by rw [Int.toNat_natCast, List.getD_eq_getElem?_getD, HTY.out]; rfl
              have en : ts.getD (nn : Int).toNat 0 = tn := by rw [Int.toNat_natCast, List.getD_eq_getElem?_getD, HTN.out]; rfl
              simp only
              rw [ey, en]
              exact hL⟩⟩⟩)
          have HO4 := Lib.hid (PL.far (i := k) ho4 BT4 (by decide) hT1 hT2 (.int .i64 (a4 : Int)))
          have B4 := BT4.set_ k (.int .i64 (a4 : Int))
          rw [nRow_set] at B4
          have HB4 := Lib.hid B4; have HTO4 := Lib.hid (HTO.out.put (a := a4) (show k < ts.length by omega) q3 q2)
          have HBU4 := Lib.hid (BU4.far (p := ⟨W1.heap.size, k, none⟩) (by simp) (.int .i64 (a4 : Int)))
          have HF4 := Lib.hid (F4.setCell (p := ⟨W1.heap.size, k, none⟩) (by simp; omega) (.int .i64 (a4 : Int)))
          clear ho4 B4 hL BT4 hf4 BU4 F4
          go_wp2
          exact ⟨⟨k + 1, pv4, g4, ts.set k a4, by omega, by go_num, by simp [htl], HST, HQ1, HS4, by omega, HTO4, HO4, HBU4.out, HB4.out, HF4.out⟩, by simp [intOf]; omega⟩
        · have hop0 : p.op = 0 := by rcases HG.out k p HP.out with h | h <;> omega
          have HOP := Lib.hid hop0
          have hd : (p.op == 0) = true := by simp [hop0]
          clear hop0
          go_wp2_with fail
          refine (put_any w.heap.size (w.heap.size + 1) w.heap.size pv gs p _ (by exact HO1.out) (HSM.out k p HP.out) (by exact HZ1.out) (by omega)).mono ?_
          rintro e W4 ⟨pv4, g4, a4, rfl, hL, ho4, hf4⟩
          have BT4 := hf4.blk HBT1.out (by omega) (by omega) (by decide)
          have d4 := nRow_cell BT4 HTK.out
          have f4 := BT4.frozen k
          obtain ⟨-, q2, q3, q4⟩ := HAG.out.ahead.put hL (fun h => absurd h (by omega))
          have HQ1 := Lib.hid (HAG.out.put hL (.inl HOP.out)); have HS4 := Lib.hid (HSG.out.put hL (HSM.out k p HP.out))
          have HST := Lib.hid (show TrimTo g us (k + 1) g4 (ts.set k a4) from ⟨gs, ts, HTT.out, .inr ⟨HRB.out, _, a4, HP.out, rfl, .inl ⟨HOP.out, hL⟩⟩⟩)
          have HO4 := Lib.hid (PL.far (i := k) ho4 BT4 (by decide) hT1 hT2 (.int .i64 (a4 : Int)))
          have B4 := BT4.set_ k (.int .i64 (a4 : Int))
          rw [nRow_set] at B4
          have HB4 := Lib.hid B4; have HTO4 := Lib.hid (HTO.out.put (a := a4) (show k < ts.length by omega) q3 q2)
          have HBU4 := Lib.hid ((hf4.blk HBU1.out (by omega) (by omega) (by decide)).far (p := ⟨W1.heap.size, k, none⟩) (by simp) (.int .i64 (a4 : Int)))
          have HF4 := Lib.hid ((HF1.out.trans hf4.below).setCell (p := ⟨W1.heap.size, k, none⟩) (by simp; omega) (.int .i64 (a4 : Int)))
          clear ho4 B4 hL BT4 hf4
          go_wp2
          exact ⟨⟨k + 1, pv4, g4, ts.set k a4, by omega, by go_num, by simp [htl], HST, HQ1, HS4, by omega, HTO4, HO4, HBU4.out, HB4.out, HF4.out⟩, by simp [intOf]; omega⟩
    · obtain rfl : k = n := by omega
      obtain ⟨t, ht, htlt⟩ := HTO.out at_ hat (by rw [HU.out]; exact usedOf_at HG.out (by rw [HL.out]; exact hat))
      have HTE := Lib.hid ht
      have HTF := Lib.hid (show TrimTo g (usedOf g at_) (at_ + 1) gs ts by rw [← HU.out]; have := TrimTo.near HG.out (at_ := at_) k (by omega) (by rw [HL.out]; omega) (by rw [← HU.out]; exact HTT.out); rwa [← HU.out] at this)
      have dt := nRow_cell hbt ht
      have hani : (at_ : Int) < k := by omega
      have l0 := (show _ = some pv from HO.out.box.cell 0)
      have HSL := Lib.hid (SlA.of_own HO.out.own (by simp) (Pt.rows gs))
      clear ht
      go_wp2
      go_region
      go_wp2
      go_ret2
      exact ⟨pv, gs, ts, t, rfl, by obtain ⟨A', n', c', e, h⟩ := HSL.out; exact ⟨A', n', c', e, h.below (by go_grown)⟩, HTF.out, HTE.out, htlt, HAG.out, HSG.out, hgl, by go_grown⟩
end Go.Proofs.Ytccklepidlddcaa

-- impl's trimming: trimFrom.
namespace Go.Proofs.Ytccklepidlddcaa
open Go.RowKit Go.Maps
set_option linter.unusedSimpArgs false
set_option linter.unusedVariables false

theorem PutIs.len {g g' : List Pt} {x : Pt} {i : Nat} (h : PutIs g x g' i) : g'.length ≤ g.length + 1 := by
  rcases h with ⟨rfl, -, -⟩ | ⟨rfl, -, -⟩
  · omega
  · simp
theorem TrimTo.len {g : List Pt} {us : List Bool} : ∀ {k : Nat} {gs : List Pt} {ts : List Nat}, TrimTo g us k gs ts → gs.length ≤ k
  | 0, _, _, ⟨rfl, rfl⟩ => by simp
  | k + 1, _, _, ⟨g0, t0, h0, h1⟩ => by
    have := TrimTo.len h0
    rcases h1 with ⟨-, rfl, rfl⟩ | ⟨-, p, i, -, -, ⟨-, h⟩ | ⟨-, h⟩⟩
    · omega
    · have := h.len; omega
    · rcases h with ⟨-, rfl, -⟩ | ⟨-, h⟩
      · omega
      · have := h.len; omega

set_option maxHeartbeats 8000000 in
theorem trimFrom_any (at_ : Nat) (A : Option Addr) (n c : Nat) (g : List Pt) (w : World) (hA : SlA w 7 A n c (g.map Pt.cells)) (hAh : Good g) (hSM : SmallG g) (hat : at_ < n) (hn : n ≤ 900) :
    Calls Try.prog 29 #[.slice A n c, .int .i64 at_] w fun e w' => ∃ v' g', e = .returned v' ∧ Sl w' 7 v' (g'.map Pt.cells) ∧ TrimIs g at_ g' ∧ Good g' ∧ SmallG g' ∧ g'.length ≤ 900 ∧ Below w.heap.size w w' := by
  have HA := Lib.hid hA; have HG := Lib.hid hAh; have HS := Lib.hid hSM; clear hA hAh hSM
  go_enter Try.func29, Try.ntmps29
  go_wp2
  go_loopg [0, 1] at_ (fun gk u i wr => ∃ (B : Option Addr) (m d a : Nat) (gg : List Pt), u = .slice B m d ∧ i = .int .i64 a ∧ gk = a ∧ Hid (SlA wr 7 B m d (gg.map Pt.cells)) ∧ Hid (Good gg) ∧ Hid (SmallG gg) ∧ a < m ∧ m ≤ 900 ∧ Hid (∀ x, TrimIs gg a x → TrimIs g at_ x) ∧ Below w.heap.size w wr)
  case atStart => exact ⟨A, n, c, at_, g, rfl, rfl, rfl, HA, HG, HS, hat, hn, Lib.hid (fun x h => h), Below.refl _ _⟩
  case round =>
    obtain ⟨B, m, d, a, gg, rfl, rfl, hgk, HA1, HG1, HS1, ham, hm, HT, hbw⟩ := hrel
    have HGK := Lib.hid hgk; clear hgk HA HG HS
    go_wp2_with fail
    refine (putAnew_any a B m d gg _ HA1.out HG1.out HS1.out ham hm).mono ?_
    rintro e w2 ⟨v2, gs, ts, t, rfl, hsl, htt, hta, htl, hg2, hs2, hl2, hb2⟩
    obtain ⟨B2, m2, d2, rfl, hA2⟩ := hsl
    have hgl : gs.length = m2 := by have := hA2.len; simpa using this
    have hc2 := hA2.cap
    have hm2 := hA2.max
    unfold maxLen at hm2
    have hlen := htt.len
    have HA2 := Lib.hid hA2; have HG2 := Lib.hid hg2; have HS2 := Lib.hid hs2; have HTT := Lib.hid htt; have HTA := Lib.hid hta
    have HB2 := Lib.hid (below_then hbw hb2)
    clear hA2 hg2 hs2 htt hta hb2 hbw
    by_cases hlast : t + 1 = m2
    · have hd : ((t : Int) == (m2 : Int) - 1) = true := by simp; omega
      have HL := Lib.hid hlast
      go_wp2
      go_ret
      exact ⟨_, gs, rfl, ⟨_, _, _, rfl, HA2.out⟩, HT.out gs (.done HTT.out HTA.out (by omega)), HG2.out, HS2.out, by omega, HB2.out⟩
    · have hd : ((t : Int) == (m2 : Int) - 1) = false := by simp; omega
      go_wp2
      go_roundg t
      case measure => have := HGK.out; omega
      case rel => exact ⟨B2, m2, d2, t, gs, rfl, rfl, rfl, HA2, HG2, HS2, by omega, by omega, Lib.hid (fun x h => HT.out x (.more HTT.out HTA.out (by omega) h)), HB2.out⟩
end Go.Proofs.Ytccklepidlddcaa
