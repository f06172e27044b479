/- spec's graphs of policies: l4Trim. -/
import Derived.Test.YtoibocaaeimplaaDoorMakeU
import Derived.Deep.RegionHeld3
namespace Go.Proofs.YtoibocaaeimplaaDoor
open Go.RowKit
set_option linter.unusedSimpArgs false
set_option linter.unusedVariables false

/-- Where what was marked has been put. -/
def ToOk (us : List Bool) (ts : List Nat) (k m : Nat) : Prop := ∀ j : Nat, j < k → us[j]? = some true → ∃ t, ts[j]? = some t ∧ t < m
theorem ToOk.skip {us : List Bool} {ts : List Nat} {k m : Nat} (h : ToOk us ts k m) (hk : us[k]? = some false) : ToOk us ts (k + 1) m := fun j hj hu => by
  by_cases e : j = k
  · subst e; rw [hk] at hu; cases hu
  · exact h j (by omega) hu
theorem ToOk.put {us : List Bool} {ts : List Nat} {k m m' a : Nat} (h : ToOk us ts k m) (hk : k < ts.length) (hm : m ≤ m') (ha : a < m') : ToOk us (ts.set k a) (k + 1) m' := fun j hj hu => by
  by_cases e : j = k
  · subst e; exact ⟨a, List.getElem?_set_self hk, ha⟩
  · obtain ⟨t, h1, h2⟩ := h j (by omega) hu
    exact ⟨t, by rw [List.getElem?_set_ne (fun e2 => e e2.symm)]; exact h1, by omega⟩

theorem own_ne_int {w : World} {base n k : Nat} {e t : TypeId} {size : Nat} {v : Value} {xs : List Value} {cs : Array Value} (h : w.ownsRow base e size v n xs) (hk : Blk w k t cs) (ht : t ≠ e) : v.ownBlock ≠ some k := by
  rcases h.2 with ⟨rfl, _⟩ | ⟨g', cap', cur, rfl, _, hg, _⟩
  · intro e; cases e
  · intro e
    cases e
    have := hg.symm.trans hk
    exact ht (by injection this with h1; injection h1 with h2 h3; exact h3.symm)

set_option maxHeartbeats 8000000 in
theorem l4Trim_any : ∀ (B at_ : Nat) (A : Option Addr) (n c : Nat) (g : List Pt) (w : World) (hB : at_ < B) (hA : SlA w 7 A n c (g.map Pt.cells)) (hAh : Ahead g) (hat : at_ < n) (hn : n ≤ 1000),
    Calls Tryd.prog 78 #[.slice A n c, .int .i64 at_] w fun e w' => ∃ v' g', e = .returned v' ∧ Sl w' 7 v' (g'.map Pt.cells) ∧ Ahead g' ∧ g'.length ≤ 1000 ∧ Below w.heap.size w w' := by
  intro B
  induction B with
  | zero => intro at_ A n c g w hB; exact absurd hB (by omega)
  | succ B IH =>
    intro at_ A n c g w hB hA hAh hat hn
    have hl : g.length = n := by have := hA.len; simpa using this
    have hc := hA.cap
    have hm := hA.max
    unfold maxLen at hm
    have HIH := Lib.hid IH; have HL := Lib.hid hl; have HG := Lib.hid hAh; have HA := Lib.hid hA; clear IH hl hAh hA
    go_enter Tryd.func78, Tryd.ntmps78
    go_wp2_with fail
    refine (l4Used_any A n c g at_ _ HA.out HG.out hat hn).mono ?_
    rintro e W1 ⟨us, hU, rfl, hbu, hb1⟩
    have hus : us.length = n := hU.1.trans HL.out
    have hsz := hb1.size
    have hmk := fun W => run_make_row' (P := Tryd.prog) 77 3 (.int .i64 0) 8 Tryd.underlying77 info_intR rfl .i64 .i64 n (by omega) (by omega) W
    obtain ⟨W2, hW2⟩ : ∃ W2, W2 = ((W1.alloc (.cells #[] 47)).alloc (.cells (madeCells #[.int .i64 0] n) 3)) := ⟨_, rfl⟩
    have hb2 : Below w.heap.size w W2 := by rw [hW2]; go_grown
    have O0 : W2.ownsRow w.heap.size 47 7 (.slice (some ⟨W1.heap.size, 0, none⟩) 0 0) 0 [] := by
      rw [hW2]
      exact (World.ownsRow_lit (base := w.heap.size) (e := 47) (size := 7) W1 #[] 0 hsz (by unfold maxLen; omega) rfl).alloc _
    have BT : Blk W2 (W1.heap.size + 1) 3 (nRow (List.replicate n 0)) := by
      rw [hW2, ← nRow_zero]
      have := Blk.new (W1.alloc (.cells #[] 47)) 3 (madeCells #[.int .i64 0] n)
      simpa using this
    have BU : Blk W2 w.heap.size 4 (bRow us) := hbu.below (show Below W1.heap.size W1 W2 by rw [hW2]; go_grown) hbu.lt
    have HU := Lib.hid hU; have HW2 := Lib.hid hW2; have HO := Lib.hid O0; have HBT := Lib.hid BT; have HBU := Lib.hid BU; clear hU hW2 O0 hbu BT BU
    go_wp2
    rw [← HW2.out]
    go_loopw [6, 8] (fun o i wr => ∃ (k : Nat) (gs : List Pt) (ts : List Nat), k ≤ at_ + 1 ∧ i = .int .i64 k ∧ ts.length = n ∧ Ahead gs ∧ gs.length ≤ k ∧ ToOk us ts k gs.length ∧ wr.ownsRow w.heap.size 47 7 o gs.length (gs.map Pt.cells).flatten ∧ Blk wr w.heap.size 4 (bRow us) ∧ Blk wr (W1.heap.size + 1) 3 (nRow ts) ∧ Below w.heap.size w wr) (fun _ i _ => at_ + 1 - (intOf i).toNat)
    case atStart => exact ⟨0, [], List.replicate n 0, by omega, rfl, by simp, Ahead.nil, by simp, fun j h => absurd h (by omega), HO.out, HBU.out, HBT.out, hb2⟩
    case round =>
      obtain ⟨k, gs, ts, hk, rfl, htl, hAg, hgl, hto, ho, hbu, hbt, hbw⟩ := hrel
      clear HO HBU HBT hmk
      have hwz := hbw.size
      have HTO := Lib.hid hto; have HO := Lib.hid ho; have HAG := Lib.hid hAg; clear hto ho hAg
      by_cases hle : k ≤ at_
      · have hlei : (k : Int) ≤ at_ := by omega
        have hkn : k < n := by omega
        have hkni : (k : Int) < n := by omega
        obtain ⟨b, off, p, rfl, hab, hgp, hcell⟩ := pts_get HA.out hkn
        obtain ⟨c0, c1, c2, c3, c4, c5, c6⟩ := hcell wr _ hbw hab
        obtain ⟨rb, hrb⟩ := bRow_some hus hkn
        have dk := bRow_cell hbu hrb
        have HRB := Lib.hid hrb; have HP := Lib.hid hgp; clear hrb hgp hcell
        cases rb with
        | false =>
          clear c0 c1 c2 c3 c4 c5 c6
          go_wp2
          exact ⟨⟨k + 1, gs, ts, by omega, by go_num, htl, HAG.out, by omega, HTO.out.skip HRB.out, HO.out, hbu, hbt, hbw⟩, by simp [intOf]; omega⟩
        | true =>
          obtain ⟨XB, hXB⟩ : ∃ X, X = Obj.cells #[.int .i64 p.verdict, .int .i64 p.field, .int .i64 p.mask, .int .i64 p.op, .int .i64 p.value, .int .i64 p.yes, .int .i64 p.no] 47 := ⟨_, rfl⟩
          have hbx : Below wr.heap.size wr (wr.alloc XB) := by rw [hXB]; go_grown
          have O1 := own_below HO.out hbx
          have BU1 := hbu.below hbx hbu.lt
          have BT1 := hbt.below hbx hbt.lt
          have F1 : Below w.heap.size w (wr.alloc XB) := below_then hbw hbx
          have hz1 : w.heap.size ≤ (wr.alloc XB).heap.size := by simp; omega
          rw [hXB] at O1 BU1 BT1 F1 hz1
          have HO1 := Lib.hid O1; have HBU1 := Lib.hid BU1; have HF1 := Lib.hid F1; clear O1 BU1 F1 hXB hbx
          by_cases hop : 0 < p.op
          · obtain ⟨y, nn, hy, hnn, hyk, hnk, uy, un⟩ := HU.out.2.2 k p (Nat.zero_le _) hle HRB.out HP.out hop
            obtain ⟨ty, hty, hty2⟩ := HTO.out y hyk uy
            obtain ⟨tn, htn, htn2⟩ := HTO.out nn hnk un
            have e0 := nRow_cell BT1 hty
            have e1 := nRow_cell BT1 htn
            have hyi : (y : Int) < n := by omega
            have hni : (nn : Int) < n := by omega
            have HTY := Lib.hid hty; have HTN := Lib.hid htn
            clear uy un hty htn
            obtain ⟨pv, pf, pm, po, pl, py, pn⟩ := p
            simp only at hy hnn hop c0 c1 c2 c3 c4 c5 c6 dk BT1 e0 e1
            subst hy hnn
            obtain ⟨tk, htk⟩ := nRow_some htl hkn
            have HTK := Lib.hid htk; have HBT1 := Lib.hid BT1; have HN5 := Lib.hid (show gs.length ≤ 100000 by omega); have HZ1 := Lib.hid hz1
            have XB := Blk.new wr 47 #[.int .i64 pv, .int .i64 pf, .int .i64 pm, .int .i64 po, .int .i64 pl, .int .i64 y, .int .i64 nn]
            have hne : u6.ownBlock ≠ some wr.heap.size := fun e => by have := (HO.out.lt _ e).2; omega
            have HXB := Lib.hid XB; have HNE := Lib.hid hne
            have x1 := (show _ = some (Value.int .i64 pf) from XB.cell 1); have x2 := (show _ = some (Value.int .i64 pm) from XB.cell 2); have x3 := (show _ = some (Value.int .i64 po) from XB.cell 3); have x4 := (show _ = some (Value.int .i64 pl) from XB.cell 4); have x5 := (show _ = some (Value.int .i64 (y : Int)) from XB.cell 5); have x6 := (show _ = some (Value.int .i64 (nn : Int)) from XB.cell 6)
            have HQ := Lib.hid (show wr.heap.size ≠ (⟨W1.heap.size + 1, k, none⟩ : Addr).block from fun e => by have := hbt.lt; simp only at e; omega)
            have HT5 := Lib.hid (show ∀ a : Nat, (ts.set k a)[y]? = some ty from fun a => by rw [List.getElem?_set_ne (by omega)]; exact HTY.out)
            have HT6 := Lib.hid (show ∀ a : Nat, (ts.set k a)[nn]? = some tn from fun a => by rw [List.getElem?_set_ne (by omega)]; exact HTN.out)
            clear htk BT1 XB hne
            go_wp2
            go_region_held3 (fun w' => w'.cell? ⟨wr.heap.size, 1, none⟩ = some (.int .i64 pf) ∧ w'.cell? ⟨wr.heap.size, 2, none⟩ = some (.int .i64 pm) ∧ w'.cell? ⟨wr.heap.size, 3, none⟩ = some (.int .i64 po) ∧ w'.cell? ⟨wr.heap.size, 4, none⟩ = some (.int .i64 pl) ∧ w'.cell? ⟨wr.heap.size, 5, none⟩ = some (.int .i64 y) ∧ w'.cell? ⟨wr.heap.size, 6, none⟩ = some (.int .i64 nn) ∧ w'.cell? ⟨W1.heap.size + 1, y, none⟩ = some (.int .i64 ty) ∧ w'.cell? ⟨W1.heap.size + 1, nn, none⟩ = some (.int .i64 tn))
              (first | exact ⟨x1, x2, x3, x4, x5, x6, e0, e1⟩ | exact ⟨X3.cell 1, X3.cell 2, X3.cell 3, X3.cell 4, X3.cell 5, X3.cell 6, t3, t4⟩ | exact ⟨Y3.cell 1, Y3.cell 2, Y3.cell 3, Y3.cell 4, Y3.cell 5, Y3.cell 6, t5, t6⟩ | go_keep)
              (first | (go_at_call 88; refine (l4Look_all w.heap.size u6 gs pf pm po pl ty tn _ (by exact HO1.out) (by exact HZ1.out) HN5.out).mono ?_; rintro e W3 ⟨u3, g3, a3, rfl, hL, ho3, hf3, hr3⟩; have BT3 := hf3.blk HBT1.out (by decide); have d3 := nRow_cell BT3 HTK.out; have f3 := BT3.frozen k; have X3 := hr3.blk HXB.out HNE.out; have t3 := nRow_cell BT3 HTY.out; have t4 := nRow_cell BT3 HTN.out; have Y3 := X3.far (p := ⟨W1.heap.size + 1, k, none⟩) HQ.out (.int .i64 (a3 : Int)); have B4 := BT3.set_ k (.int .i64 (a3 : Int)); rw [nRow_set] at B4; have t5 := nRow_cell B4 (HT5.out a3); have t6 := nRow_cell B4 (HT6.out a3)))
            go_wp2
            obtain ⟨q1, q2, q3, q4⟩ := HAG.out.look hL hty2 htn2
            have hN3 : u3.ownBlock ≠ some (W1.heap.size + 1) := own_ne_int ho3 BT3 (by decide)
            exact ⟨⟨k + 1, g3, ts.set k a3, by omega, by go_num, by simp [htl], q1, by omega, HTO.out.put (by omega) q3 q2, ownsRow_setCell_other ho3 hN3 _, (hf3.blk HBU1.out (by decide)).far (by simp; omega) _, B4, (HF1.out.drew.trans hf3.below).setCell (by simp; omega) _⟩, by simp [intOf]; omega⟩
          · obtain ⟨tk, htk⟩ := nRow_some htl hkn
            have HTK := Lib.hid htk; have HBT1 := Lib.hid BT1; have HN5 := Lib.hid (show gs.length ≤ 100000 by omega); have HZ1 := Lib.hid hz1
            clear htk BT1
            go_wp2_with fail
            refine (l4Point_any w.heap.size u6 gs p _ (by exact HO1.out) (by exact HZ1.out) HN5.out).mono ?_
            rintro e W3 ⟨u3, g3, a3, rfl, hL, ho3, hf3⟩
            have BT3 := hf3.blk HBT1.out (by decide)
            have d3 := nRow_cell BT3 HTK.out
            have f3 := BT3.frozen k
            obtain ⟨q1, q2, q3, q4⟩ := HAG.out.put hL (fun h => absurd h (by omega))
            have B4 := BT3.set_ k (.int .i64 (a3 : Int))
            rw [nRow_set] at B4
            have hN3 : u3.ownBlock ≠ some (W1.heap.size + 1) := own_ne_int ho3 BT3 (by decide)
            have HO3 := Lib.hid (ownsRow_setCell_other (a := ⟨W1.heap.size + 1, k, none⟩) ho3 hN3 (.int .i64 (a3 : Int))); have HB4 := Lib.hid B4; have HQ1 := Lib.hid q1; clear ho3 B4 q1 hL
            go_wp2
            exact ⟨⟨k + 1, g3, ts.set k a3, by omega, by go_num, by simp [htl], HQ1.out, by omega, HTO.out.put (by omega) q3 q2, HO3.out, (hf3.blk HBU1.out (by decide)).far (by simp; omega) _, HB4.out, (HF1.out.trans hf3.below).setCell (by simp; omega) _⟩, by simp [intOf]; omega⟩
      · obtain rfl : k = at_ + 1 := by omega
        obtain ⟨t, ht, htlt⟩ := HTO.out at_ (by omega) HU.out.2.1
        have dt := nRow_cell hbt ht
        have hani : (at_ : Int) < n := by omega
        obtain ⟨A', n', c', rfl, hA'⟩ := SlA.of_own HO.out (by simp) (Pt.rows gs)
        have hgn : gs.length = n' := by have := hA'.len; simpa using this
        have hc' := hA'.cap
        have hm' := hA'.max
        unfold maxLen at hm'
        have HA' := Lib.hid hA'; have HGN := Lib.hid hgn; clear hA' ht
        by_cases hlast : t + 1 = n'
        · have hd : ((t : Int) == (n' : Int) - 1) = true := by simp; omega
          go_wp2
          go_ret
          exact ⟨_, gs, rfl, ⟨_, _, _, rfl, HA'.out⟩, HAG.out, by omega, by go_grown⟩
        · have hd : ((t : Int) == (n' : Int) - 1) = false := by simp; omega
          go_wp2_with fail
          refine (HIH.out t A' n' c' gs _ (by omega) (by exact HA'.out) HAG.out (by omega) (by omega)).mono ?_
          rintro e W3 ⟨v3, g3, rfl, hs3, ha3, hl3, hb3⟩
          have HS3 := Lib.hid hs3; have HA3 := Lib.hid ha3; clear hs3 ha3
          go_wp2
          go_ret
          exact ⟨v3, g3, rfl, HS3.out, HA3.out, hl3, by first | exact below_then hbw hb3 | go_grown⟩
end Go.Proofs.YtoibocaaeimplaaDoor
