/- FnExactPolicyFind's walk: it returns true for every two policies, and nothing that was there is changed. -/
import Derived.Test.YtkiacbfpnidjlaaGreatDoorFindI
import Derived.Test.YtkiacbfpnidjlaaGreatDoorLawCall
import Derived.Test.YtkiacbfpnidjlaaGreatDoorLawA
import Derived.Test.YtkiacbfpnidjlaaGreatDoorArgPolicy
namespace Go.Proofs.YtkiacbfpnidjlaaGreatDoor
open Go.RowKit Go.WideShapes Go.ChangeShapes Go.ChangeAt
set_option linter.unusedSimpArgs false
set_option linter.unusedVariables false

theorem OwnPol.form {w : World} {base : Nat} {p : Pol} {v : Value} (h : OwnPol w base p v) : ∃ A n c, v = .agg #[.slice A n c, .int .i64 p.els] := by
  obtain ⟨rv, css, rfl, ho, hr⟩ := h
  obtain ⟨A, n, c, rfl, _⟩ := SlA.of_own ho hr.1 hr.rows
  exact ⟨A, n, c, rfl⟩
/-- A block is a row of one. -/
theorem Blk.fr {lo hi G : Nat} {w w' : World} {t : TypeId} {cs : Array Value} (h : Blk w G t cs) (F : MkFr lo hi w w') (hb : hi ≤ G) : Blk w' G t cs := by
  have h1 : w.ownsRow G t cs.size (.slice (some ⟨G, 0, none⟩) 1 1) 1 cs.toList := ⟨by simp, .inr ⟨G, 1, cs, rfl, Nat.le_refl _, h, by omega, by unfold maxLen; omega, by simp, by rw [Nat.one_mul]; exact List.take_of_length_le (by simp)⟩⟩
  have h2 := F.own _ _ _ _ _ _ hb h1
  rcases h2.2 with ⟨e, _⟩ | ⟨g, cap, cur, e, _, hh, _, _, hs, ht⟩
  · cases e
  · injection e with e1 _ e3
    injection e1 with e1
    injection e1 with e1 _ _
    subst e1 e3
    have : cur = cs := by
      apply Array.toList_inj.1
      rw [← ht, List.take_of_length_le (by simp; omega)]
    rw [this] at hh
    exact hh
theorem ownAll_below {w w' : World} (h : Below w.heap.size w w') : ∀ (b : Nat) (e : TypeId) (s n : Nat) (v : Value) (xs : List Value), w.ownsRow b e s v n xs → w'.ownsRow b e s v n xs := fun _ _ _ _ _ _ ho => own_below ho h
/-- What was found, as a value. -/
def FoundIs (o : Option Cl) (base : Nat) (W : World) (av : Value) : Prop := W.ownsRow base 3 1 av (findV o).2.1.length (ints (findV o).2.1).flatten
theorem FoundIs.sl {o : Option Cl} {base : Nat} {W : World} {av : Value} (h : FoundIs o base W av) : Sl W 1 av (ints (findV o).2.1) := SlA.of_own h (ints_len _) (ints_rows _)
theorem FoundIs.below {o : Option Cl} {base : Nat} {W W' : World} {av : Value} (h : FoundIs o base W av) (hb : Below W.heap.size W W') : FoundIs o base W' av := own_below h hb
theorem FoundIs.low {o : Option Cl} {base base' : Nat} {W : World} {av : Value} (h : FoundIs o base W av) (hb : base' ≤ base) : FoundIs o base' W av := own_base h hb
theorem findV_len (p q : Pol) : (findV (findOf p q)).2.1.length ≤ 4 := by
  cases h : findOf p q with
  | none => simp [findV]
  | some c =>
    have := (findOf_ok h).2.2.1
    simp only [callOkB, decide_eq_true_eq] at this
    exact Nat.le_of_eq this.2.1
/-- A box with what was found, and the word whether it was. -/
structure Rel (o : Option Cl) (w2 : World) (s6 s7 : Value) (wx : World) : Prop where
  word : s7 = .bool (findV o).2.2
  box : ∃ G av, s6 = .pointer (some ⟨G, 0, none⟩) ∧ Blk wx G 28 #[.int .i64 (findV o).1, av] ∧ w2.heap.size ≤ G ∧ FoundIs o w2.heap.size wx av
  below : Below w2.heap.size w2 wx
theorem Rel.late {o : Option Cl} {w2 w5 : World} {b5 : Nat} {av : Value} (hd : Below w2.heap.size w2 w5) (ho : FoundIs o b5 w5 av) (hb : w2.heap.size ≤ b5) : Rel o w2 (.pointer (some ⟨w5.heap.size, 0, none⟩)) (.bool (findV o).2.2) (w5.alloc (.cells #[.int .i64 (findV o).1, av] 28)) :=
  ⟨rfl, ⟨_, _, rfl, Blk.new _ _ _, hd.size, (ho.below (by go_grown)).low hb⟩, below_then hd (by go_grown)⟩
theorem Rel.early {o : Option Cl} {w2 w5 : World} {b5 G : Nat} {av a b : Value} (hd : Below w2.heap.size w2 w5) (ho : FoundIs o b5 w5 av) (hb : w2.heap.size ≤ b5) (hK : Blk w5 G 28 #[a, b]) (hG : w2.heap.size ≤ G) : Rel o w2 (.pointer (some ⟨G, 0, none⟩)) (.bool (findV o).2.2) ((w5.setCell ⟨G, 0, none⟩ (.int .i64 (findV o).1)).setCell ⟨G, 1, none⟩ av) := by
  have hK1 := hK.set_ 0 (.int .i64 (findV o).1)
  have h1 : FoundIs o b5 (w5.setCell ⟨G, 0, none⟩ (.int .i64 (findV o).1)) av := own_grownN ho (grown_set _ _ _ _) (fun r e => by cases e; exact own_typeN ho (fun cs fr e2 => by have := hK.symm.trans e2; cases this))
  have h2 : FoundIs o b5 ((w5.setCell ⟨G, 0, none⟩ (.int .i64 (findV o).1)).setCell ⟨G, 1, none⟩ av) av := own_grownN h1 (grown_set _ _ _ _) (fun r e => by cases e; exact own_typeN h1 (fun cs fr e2 => by have := hK1.symm.trans e2; cases this))
  exact ⟨rfl, ⟨_, _, rfl, hK1.set_ 1 av, hG, h2.low hb⟩, (hd.setCell (p := ⟨G, 0, none⟩) hG _).setCell (p := ⟨G, 1, none⟩) hG _⟩

namespace exactPolicyFind
set_option maxRecDepth 100000 in
set_option maxHeartbeats 8000000 in
theorem walk (p q : Pol) (u v : Value) (w : World) (hp : Pow w) (hP : PolIs w p (.agg #[u, .int .i64 p.els])) (hQ : PolIs w q (.agg #[v, .int .i64 q.els])) :
    Calls Tryz.prog 3 #[.agg #[u, .int .i64 p.els], .agg #[v, .int .i64 q.els]] w fun e w' => e = .returned (.bool true) ∧ Below w.heap.size w w' := by
  have HP := Lib.hid hP; have HQ := Lib.hid hQ; have HPW := Lib.hid hp
  obtain ⟨o, ho⟩ : ∃ o, o = findOf p q := ⟨_, rfl⟩
  have HOL := Lib.hid (show (findV o).2.1.length ≤ 4 by rw [ho]; exact findV_len p q)
  have HO := Lib.hid ho
  obtain ⟨rv, css, e0, ⟨A, n, c, rfl, hA⟩, hR⟩ := hP
  obtain rfl : u = .slice A n c := by simpa using e0
  obtain ⟨rv', css', e0', ⟨A', n', c', rfl, hA'⟩, hR'⟩ := hQ
  obtain rfl : v = .slice A' n' c' := by simpa using e0'
  clear hA hR e0 hA' hR' e0' hp ho
  obtain ⟨W, hW⟩ : ∃ W, W = (w.alloc (.cells #[.slice A n c, .int .i64 p.els] 24)).alloc (.cells #[.slice A' n' c', .int .i64 q.els] 24) := ⟨_, rfl⟩
  have hb0 : Below w.heap.size w W := by rw [hW]; go_grown
  have KP : Blk W w.heap.size 24 #[.slice A n c, .int .i64 p.els] := by rw [hW]; exact (Blk.new w _ _).alloc _
  have KQ : Blk W (w.heap.size + 1) 24 #[.slice A' n' c', .int .i64 q.els] := by
    rw [hW]
    have h := Blk.new (w.alloc (.cells #[.slice A n c, .int .i64 p.els] 24)) 24 #[.slice A' n' c', .int .i64 q.els]
    rwa [World.size_alloc] at h
  have p0 := (show _ = some (Value.slice A n c) from KP.cell 0); have p1 := (show _ = some (Value.int .i64 p.els) from KP.cell 1)
  have HW := Lib.hid hW; have HB0 := Lib.hid hb0; have HKP := Lib.hid KP; have HKQ := Lib.hid KQ
  clear hW hb0 KP KQ
  go_enter Tryz.func3, Tryz.ntmps3
  go_upto_region 2 with (fail)
  rw [← HW.out]
  go_wp2_with fail
  refine (szPolicy_any p _ 1048576 _ (HP.out.below HB0.out) (by omega) (by omega)).mono ?_; rintro e w1 ⟨x0, rfl, hx0, b1⟩
  have HB1 := Lib.hid (below_then HB0.out b1); have HF1 := Lib.hid b1
  have KQ1 := HKQ.out.below b1 HKQ.out.lt
  have q0 := (show _ = some (Value.slice A' n' c') from KQ1.cell 0); have q1 := (show _ = some (Value.int .i64 q.els) from KQ1.cell 1)
  have HX0 := Lib.hid hx0; clear hx0 b1 p0 p1 KQ1
  by_cases hneg : x0 < 0
  · clear q0 q1
    go_wp2
    go_ret
    exact ⟨rfl, HB1.out⟩
  · have hx0 : 0 ≤ x0 := by omega
    go_wp2_with fail
    refine (szPolicy_any q _ x0 _ (HQ.out.below HB1.out) (by omega) (by have := HX0.out; omega)).mono ?_; rintro e w2 ⟨y0, rfl, hy0, b2⟩
    have HB2 := Lib.hid (below_then HB1.out b2)
    have HF2 := Lib.hid (HF1.out.trans (b2.mono HF1.out.size))
    have HY0 := Lib.hid hy0; clear hy0 b2 q0 q1
    by_cases hneg2 : y0 < 0
    · go_wp2
      go_ret
      exact ⟨rfl, HB2.out⟩
    · have HN := Lib.hid (show p.rules.length ≤ 1048576 by have := HX0.out; omega)
      have HT := Lib.hid (show sumT p.rules ≤ 1048576 by have := HX0.out; omega)
      have HN' := Lib.hid (show q.rules.length ≤ 1048576 by have := HX0.out; have := HY0.out; omega)
      have HT' := Lib.hid (show sumT q.rules ≤ 1048576 by have := HX0.out; have := HY0.out; omega)
      have KP2 := HKP.out.below HF2.out HKP.out.lt; have KQ2 := HKQ.out.below HF2.out HKQ.out.lt
      have p0 := (show _ = some (Value.slice A n c) from KP2.cell 0); have p1 := (show _ = some (Value.int .i64 p.els) from KP2.cell 1)
      have q0 := (show _ = some (Value.slice A' n' c') from KQ2.cell 0); have q1 := (show _ = some (Value.int .i64 q.els) from KQ2.cell 1)
      have HLQ := Lib.hid KQ2.lt; have HKP2 := Lib.hid KP2; have HKQ2 := Lib.hid KQ2
      clear KP2 KQ2 hx0
      go_upto_region 8 with (fail)
      go_cut [6, 7] from 27 to 34 (fun s6 s7 wx => Rel o w2 s6 s7 wx)
      case first =>
        have T1 := Lib.hid True.intro; have T2 := Lib.hid True.intro; have lq2 := HLQ.out; have lp2 : w.heap.size < w2.heap.size := by omega
        go_region_law (first
          | (clear T1; go_simp; go_at_call 6; refine (toPolicy_own p _ _ (HP.out.below (below_then HB2.out (by first | exact Below.refl _ _ | go_grown))) HN.out HT.out).mono ?_; rintro e w3 ⟨v3, rfl, o3, b3⟩; obtain ⟨A3, n3, c3, rfl⟩ := o3.form; have d3 := below_then (show Below w2.heap.size w2 _ by go_grown) b3; have lq3 := Nat.lt_of_lt_of_le HLQ.out d3.size; replace q0 := (d3.cell (p := ⟨w.heap.size + 1, 0, none⟩) HLQ.out).trans q0; replace q1 := (d3.cell (p := ⟨w.heap.size + 1, 1, none⟩) HLQ.out).trans q1; (first | have K6 : Blk w3 w2.heap.size 28 #[.int .i64 0, .slice none 0 0] := (Blk.new w2.drew _ _).below b3 (by simp) | skip))
          | (clear T2; go_simp; go_at_call 6; refine (toPolicy_own q _ _ (HQ.out.below (below_then (below_then HB2.out d3) (by first | exact Below.refl _ _ | go_grown))) HN'.out HT'.out).mono ?_; rintro e w4 ⟨v4, rfl, o4, b4⟩; obtain ⟨A4, n4, c4, rfl⟩ := o4.form; have d4 := below_then (show Below w3.heap.size w3 _ by first | exact Below.refl _ _ | go_grown) b4; (first | have K6 := K6.below d4 K6.lt | have K6 : Blk w4 w3.heap.size 28 #[.int .i64 0, .slice none 0 0] := (Blk.new w3 _ _).below b4 (by simp) | skip))
          | (go_simp; go_at_call 5; refine (sPolicyFind_any p q _ _ _ ((o3.is.below d4).below (by first | exact Below.refl _ _ | go_grown)) (o4.is.below (by first | exact Below.refl _ _ | go_grown))).mono ?_; rintro e w5 ⟨av, rfl, o5, b5⟩; rw [← HO.out] at o5 ⊢; obtain ⟨AA, ca, rfl⟩ := own_slV o5; have d5 := below_then (show Below w4.heap.size w4 _ by first | exact Below.refl _ _ | go_grown) b5; have z5 : w4.heap.size ≤ w5.heap.size := d5.size; have D5 := below_then (below_then d3 d4) d5; have L5 := Nat.le_trans d3.size d4.size; replace o5 := own_base o5 (show w4.heap.size ≤ _ by first | exact Nat.le_refl _ | simp); (first | have K6 := K6.below d5 K6.lt | have K6 : Blk w5 w4.heap.size 28 #[.int .i64 0, .slice none 0 0] := (Blk.new w4 _ _).below b5 (by simp) | skip); (try have k0 := (show _ = some (Value.int .i64 0) from K6.cell 0)); (try have k1 := (show _ = some (Value.slice none 0 0) from K6.cell 1)); (try have f0 := K6.frozen 0); (try have f1 := K6.frozen 1); (try have l6 := K6.lt)))
        all_goals go_wp2_with fail
        all_goals go_meet
        all_goals first
          | exact Rel.late D5 o5 L5
          | exact Rel.early D5 o5 L5 K6 (by first | exact Nat.le_refl _ | (have := d3.size; have := d4.size; omega))
      case rest =>
        obtain ⟨wa, rfl⟩ : ∃ X, X = wc := ⟨_, rfl⟩
        obtain ⟨hw7, ⟨G6, av6, hs6, hK6, hG6, ho6⟩, hbc⟩ := hcut
        subst hw7 hs6
        obtain ⟨A6, c6, rfl⟩ := own_slV ho6
        have KPc := HKP2.out.below hbc HKP2.out.lt; have KQc := HKQ2.out.below hbc HKQ2.out.lt
        replace p0 := (show _ = some (Value.slice A n c) from KPc.cell 0); replace p1 := (show _ = some (Value.int .i64 p.els) from KPc.cell 1)
        have HBc := Lib.hid (below_then HB2.out hbc); have HK6 := Lib.hid hK6; have HO6 := Lib.hid ho6; have HKPc := Lib.hid KPc; have HKQc := Lib.hid KQc
        have lqc : w.heap.size + 1 < wa.heap.size := KQc.lt
        have HLc := Lib.hid lqc
        clear q0 q1 hK6 ho6 KPc KQc hbc
        go_wp2_with fail
        refine (toPolicy_own p _ _ (HP.out.below HBc.out) HN.out HT.out).mono ?_; rintro e w8 ⟨v8, rfl, o8, b8⟩
        obtain ⟨A8, n8, c8, rfl⟩ := o8.form
        have KQ8 := HKQc.out.below b8 HKQc.out.lt
        have q0 := (show _ = some (Value.slice A' n' c') from KQ8.cell 0); have q1 := (show _ = some (Value.int .i64 q.els) from KQ8.cell 1)
        have lq8 : w.heap.size + 1 < w8.heap.size := KQ8.lt
        have D8 := Lib.hid b8; have O8 := Lib.hid o8
        clear p0 p1 KQ8 b8 o8
        go_wp2_with fail
        obtain ⟨X8, hX8⟩ : ∃ X, X = w8.alloc (.cells #[.slice A8 n8 c8, .int .i64 p.els] 33) := ⟨_, rfl⟩
        rw [← hX8]
        have dX8 : Below w8.heap.size w8 X8 := by rw [hX8]; go_grown
        have zX8 : X8.heap.size = w8.heap.size + 1 := by rw [hX8]; simp
        have K8 : Blk X8 w8.heap.size 33 #[.slice A8 n8 c8, .int .i64 p.els] := by rw [hX8]; exact Blk.new _ _ _
        refine (toPolicy_own q _ _ (HQ.out.below (below_then (below_then HBc.out D8.out) dX8)) HN'.out HT'.out).mono ?_; rintro e w9 ⟨v9, rfl, o9, b9⟩
        obtain ⟨A9, n9, c9, rfl⟩ := o9.form
        have K89 := K8.below b9 K8.lt
        have g80 := (show _ = some (Value.slice A8 n8 c8) from K89.cell 0); have g81 := (show _ = some (Value.int .i64 p.els) from K89.cell 1)
        have l89 : w8.heap.size < w9.heap.size := K89.lt
        have HS9 := Lib.hid (show w8.heap.size + 1 ≤ w9.heap.size by have := b9.size; omega)
        have D89 := Lib.hid (below_then dX8 b9); have O9 := Lib.hid o9; have HK8 := Lib.hid K89; have HZ8 := Lib.hid zX8
        clear hX8 q0 q1 dX8 K8 K89 b9 o9 zX8
        go_wp2_with fail
        obtain ⟨X9, hX9⟩ : ∃ X, X = w9.alloc (.cells #[.slice A9 n9 c9, .int .i64 q.els] 33) := ⟨_, rfl⟩
        rw [← hX9]
        have dX9 : Below w9.heap.size w9 X9 := by rw [hX9]; go_grown
        have zX9 : X9.heap.size = w9.heap.size + 1 := by rw [hX9]; simp
        have K9 : Blk X9 w9.heap.size 33 #[.slice A9 n9 c9, .int .i64 q.els] := by rw [hX9]; exact Blk.new _ _ _
        have d9 : Below w.heap.size w X9 := below_then (below_then (below_then HBc.out D8.out) D89.out) dX9
        refine (iPolicyFind_any p q _ _ _ (O8.out.is.below (below_then D89.out dX9)) (O9.out.is.below dX9) (HPW.out.below d9)).mono ?_; rintro e w10 ⟨av, rfl, o10, b10⟩
        rw [← HO.out] at o10 ⊢
        obtain ⟨A10, c10, rfl⟩ := own_slV o10
        have HS10 := Lib.hid (show w9.heap.size + 1 ≤ w10.heap.size by have := b10.size; omega)
        have D910 := Lib.hid (below_then dX9 b10)
        have HK9 := Lib.hid (K9.below b10 K9.lt); have O10 := Lib.hid (show FoundIs o X9.heap.size w10 _ from o10)
        have DC := Lib.hid (below_then (below_then D8.out D89.out) D910.out)
        have HB10 := Lib.hid (below_then HBc.out DC.out)
        have HZ9 := Lib.hid zX9
        have K610 := HK6.out.below DC.out HK6.out.lt
        have e60 := (show _ = some (Value.int .i64 (findV o).1) from K610.cell 0); have e61 := (show _ = some (Value.slice A6 (findV o).2.1.length c6) from K610.cell 1)
        have l610 : G6 < w10.heap.size := K610.lt
        clear hX9 g80 g81 dX9 zX9 K9 d9 o10 b10 K610
        have HEQ := Lib.hid (show callEq (findV o).1 (findV o).1 (findV o).2.1 (findV o).2.1 = true from callEq_iff.2 ⟨rfl, rfl⟩)
        have hbb : ((findV o).2.2 != (findV o).2.2) = false := by simp
        go_wp2_with fail
        obtain ⟨X10, hX10⟩ : ∃ X, X = w10.alloc (.cells #[.int .i64 (findV o).1, .slice A10 (findV o).2.1.length c10] 28) := ⟨_, rfl⟩
        rw [← hX10]
        have dX10 : Below w10.heap.size w10 X10 := by rw [hX10]; go_grown
        have K10 : Blk X10 w10.heap.size 28 #[.int .i64 (findV o).1, .slice A10 (findV o).2.1.length c10] := by rw [hX10]; exact Blk.new _ _ _
        refine (eqCall_any _ _ _ _ _ _ _ (O10.out.below dX10).sl (HO6.out.below (below_then DC.out dX10)).sl).mono ?_; rintro e w11 ⟨rfl, b11⟩
        rw [HEQ.out]
        have D1011 := Lib.hid (below_then dX10 b11)
        have HK10 := Lib.hid (K10.below b11 K10.lt); have O11 := Lib.hid (O10.out.below D1011.out)
        have DC11 := Lib.hid (below_then DC.out D1011.out)
        have HB11 := Lib.hid (below_then HBc.out DC11.out)
        have D811 := Lib.hid (below_then (below_then D89.out D910.out) D1011.out); have D911 := Lib.hid (below_then D910.out D1011.out)
        have KP11 := HKPc.out.below DC11.out HKPc.out.lt; have KQ11 := HKQc.out.below DC11.out HKQc.out.lt
        have K811 := HK8.out.below D911.out HK8.out.lt; have K911 := HK9.out.below D1011.out HK9.out.lt
        have HKP11 := Lib.hid KP11; have HKQ11 := Lib.hid KQ11; have HK811 := Lib.hid K811; have HK911 := Lib.hid K911
        have p0 := (show _ = some (Value.slice A n c) from KP11.cell 0); have p1 := (show _ = some (Value.int .i64 p.els) from KP11.cell 1)
        have g80 := (show _ = some (Value.slice A8 n8 c8) from K811.cell 0); have g81 := (show _ = some (Value.int .i64 p.els) from K811.cell 1)
        have l8 : w8.heap.size < w11.heap.size := K811.lt
        clear hX10 dX10 K10 b11 e60 e61 KP11 KQ11 K811 K911
        go_upto_region 14 with (fail)
        go_cut [58] from 54 to 58 (fun s58 wx => s58 = .bool false ∧ Hid (Below w11.heap.size w11 wx))
        case first =>
          go_region_law (first
            | (go_simp; go_at_call 6; refine (toPolicy_own p _ _ (HP.out.below HB11.out.drew) HN.out HT.out).mono ?_; rintro e w12 ⟨v12, rfl, o12, b12⟩; obtain ⟨A12, n12, c12, rfl⟩ := o12.form; replace g80 := (b12.cell (p := ⟨w8.heap.size, 0, none⟩) l8).trans g80; replace g81 := (b12.cell (p := ⟨w8.heap.size, 1, none⟩) l8).trans g81)
            | (go_simp; go_at_call 9; refine (eqPolicy_same p _ _ _ (O8.out.is.below (below_then (below_then D811.out (Below.refl w11.heap.size w11).drew) b12)) o12.is).mono ?_; rintro e w13 ⟨rfl, b13⟩))
          all_goals go_wp2_with fail
          all_goals go_meet
          all_goals exact ⟨rfl, Lib.hid (below_then (below_then (Below.refl w11.heap.size w11).drew b12) b13)⟩
        case rest =>
          obtain ⟨w12, rfl⟩ : ∃ X, X = wc := ⟨_, rfl⟩
          obtain ⟨rfl, HD⟩ := hcut
          have q0 := (show _ = some (Value.slice A' n' c') from (HKQ11.out.below HD.out HKQ11.out.lt).cell 0); have q1 := (show _ = some (Value.int .i64 q.els) from (HKQ11.out.below HD.out HKQ11.out.lt).cell 1)
          have K9c := HK911.out.below HD.out HK911.out.lt
          have g90 := (show _ = some (Value.slice A9 n9 c9) from K9c.cell 0); have g91 := (show _ = some (Value.int .i64 q.els) from K9c.cell 1)
          have l9 := K9c.lt
          have HB12 := Lib.hid (below_then HB11.out HD.out); have D912 := Lib.hid (below_then D911.out HD.out)
          clear p0 p1 g80 g81 K9c
          have HL9 := Lib.hid l9
          go_upto_region 16 with (fail)
          go_cut [63] from 59 to 63 (fun s63 wx => s63 = .bool false ∧ Hid (Below w12.heap.size w12 wx))
          case first =>
            go_region_law (first
              | (go_simp; go_at_call 6; refine (toPolicy_own q _ _ (HQ.out.below HB12.out.drew) HN'.out HT'.out).mono ?_; rintro e w13 ⟨v13, rfl, o13, b13⟩; obtain ⟨A13, n13, c13, rfl⟩ := o13.form; replace g90 := (b13.cell (p := ⟨w9.heap.size, 0, none⟩) l9).trans g90; replace g91 := (b13.cell (p := ⟨w9.heap.size, 1, none⟩) l9).trans g91)
              | (go_simp; go_at_call 9; refine (eqPolicy_same q _ _ _ (O9.out.is.below (below_then (below_then D912.out (Below.refl w12.heap.size w12).drew) b13)) o13.is).mono ?_; rintro e w14 ⟨rfl, b14⟩))
            all_goals go_wp2_with fail
            all_goals go_meet
            all_goals exact ⟨rfl, Lib.hid (below_then (below_then (Below.refl w12.heap.size w12).drew b13) b14)⟩
          case rest =>
            obtain ⟨wb, rfl⟩ : ∃ X, X = wc := ⟨_, rfl⟩
            obtain ⟨rfl, HD2⟩ := hcut
            have DE := Lib.hid (below_then HD.out HD2.out)
            have K8b := HK811.out.below DE.out HK811.out.lt; have K9b := HK911.out.below DE.out HK911.out.lt; have K10b := HK10.out.below DE.out HK10.out.lt
            have DCb := Lib.hid (below_then DC11.out DE.out); have HBb := Lib.hid (below_then HB11.out DE.out)
            have D8b := below_then D811.out DE.out; have D9b := below_then D911.out DE.out
            have o10b := O11.out.below DE.out
            have g80 := (show _ = some (Value.slice A8 n8 c8) from K8b.cell 0); have g81 := (show _ = some (Value.int .i64 p.els) from K8b.cell 1)
            have l8b := K8b.lt; have l9b := K9b.lt
            have za : wa.heap.size ≤ w8.heap.size := D8.out.size
            have HZA := Lib.hid za; have HK9b := Lib.hid K9b; have HK10b := Lib.hid K10b; have HD8b := Lib.hid D8b; have HD9b := Lib.hid D9b; have HO10b := Lib.hid o10b; have HL8b := Lib.hid l8b; have HL9b := Lib.hid l9b
            clear q0 q1 g90 g91 l8 l9 K8b K9b K10b D8b D9b o10b za
            go_wp2_with fail
            refine (markPolicy_gen wa.heap.size w8.heap.size p _ 1 w8 _ O8.out (Nat.le_refl _) (fun _ _ _ _ _ _ _ h => own_below h HD8b.out) DCb.out.size HN.out HT.out (by omega) (by omega)).mono ?_; rintro e w14 ⟨z1, rfl, hz1, hz1', F1⟩
            have K914 := HK9b.out.fr F1 (by have := HS9.out; have := HS10.out; have := HZ8.out; have := HZ9.out; have := HZA.out; omega); have K1014 := HK10b.out.fr F1 (by have := HS9.out; have := HS10.out; have := HZ8.out; have := HZ9.out; have := HZA.out; omega)
            have o1014 : FoundIs o X9.heap.size w14 _ := F1.own _ _ _ _ _ _ (by have := HS9.out; have := HS10.out; have := HZ8.out; have := HZ9.out; have := HZA.out; omega) HO10b.out
            have g90 := (show _ = some (Value.slice A9 n9 c9) from K914.cell 0); have g91 := (show _ = some (Value.int .i64 q.els) from K914.cell 1)
            have hz1b : z1 ≤ 8388608 := by have := HX0.out; omega
            have H914 := Lib.hid K914; have H1014 := Lib.hid K1014; have HO14 := Lib.hid o1014; have HF1 := Lib.hid F1; have DC14 := Lib.hid (DCb.out.trans F1.below); have l914 := K914.lt
            clear F1 K914 K1014 o1014 g80 g81 hz1' l8b l9b
            go_wp2_with fail
            refine (markPolicy_gen X8.heap.size w9.heap.size q _ z1 w9 _ O9.out (Nat.le_refl _) (fun _ _ _ _ _ _ hb h => HF1.out.own _ _ _ _ _ _ (by have := HS9.out; have := HS10.out; have := HZ8.out; have := HZ9.out; have := HZA.out; omega) (own_below h HD9b.out)) (by have := HS9.out; have := HS10.out; have := HZ8.out; have := HZ9.out; have := HZA.out; omega) HN'.out HT'.out hz1 hz1b).mono ?_; rintro e w15 ⟨z2, rfl, hz2, hz2', F2⟩
            have K1015 := H1014.out.fr F2 (by have := HS9.out; have := HS10.out; have := HZ8.out; have := HZ9.out; have := HZA.out; omega)
            have o1015 : FoundIs o X9.heap.size w15 _ := F2.own _ _ _ _ _ _ (by have := HS9.out; have := HS10.out; have := HZ8.out; have := HZ9.out; have := HZA.out; omega) HO14.out
            have DC15 := Lib.hid (DC14.out.trans (F2.below.mono (by have := HS9.out; have := HS10.out; have := HZ8.out; have := HZ9.out; have := HZA.out; omega)))
            have K615 := HK6.out.below DC15.out HK6.out.lt
            have e60 := (show _ = some (Value.int .i64 (findV o).1) from K615.cell 0); have e61 := (show _ = some (Value.slice A6 (findV o).2.1.length c6) from K615.cell 1)
            have t60 := (show _ = some (Value.int .i64 (findV o).1) from K1015.cell 0); have t61 := (show _ = some (Value.slice A10 (findV o).2.1.length c10) from K1015.cell 1)
            have hz2n : decide (z2 < 0) = false := by simp; omega
            have H1015 := Lib.hid K1015; have HO15 := Lib.hid o1015
            clear F2 K1015 o1015 K615 g90 g91 hz2' hz1b hz1 l914
            go_wp2_with fail
            refine (eqCall_any _ _ _ _ _ _ _ HO15.out.sl (HO6.out.below DC15.out).sl).mono ?_; rintro e w16 ⟨rfl, b16⟩
            rw [HEQ.out]
            have K1016 := H1015.out.below b16 H1015.out.lt; have o1016 := HO15.out.below b16
            have DC16 := Lib.hid (below_then DC15.out b16)
            have s60 := (show _ = some (Value.int .i64 (findV o).1) from K1016.cell 0); have s61 := (show _ = some (Value.slice A10 (findV o).2.1.length c10) from K1016.cell 1)
            have H1016 := Lib.hid K1016; have HO16 := Lib.hid o1016; have HL16 := Lib.hid K1016.lt
            clear K1016 o1016 b16 e60 e61 t60 t61
            go_wp2_with fail
            refine (markCall_own X9.heap.size _ _ (findV o).2.1 _ 1 _ rfl HO16.out (by have := HOL.out; omega) (by omega) (by omega)).mono ?_; rintro e w17 ⟨rfl, g17, o17⟩
            have b17 : Below X9.heap.size w16 w17 := own_grown_below HO16.out g17 (by have := HL16.out; have := HS9.out; have := HS10.out; have := HZ8.out; have := HZ9.out; have := HZA.out; omega)
            have K1017 := H1016.out.grown g17 (fun e => own_typeN HO16.out (fun cs fr e2 => by have := H1016.out.symm.trans e2; cases this) e.symm)
            have DC17 := Lib.hid (DC16.out.trans (b17.mono (by have := HS9.out; have := HS10.out; have := HZ8.out; have := HZ9.out; have := HZA.out; omega)))
            have r60 := (show _ = some (Value.int .i64 (findV o).1) from K1017.cell 0); have r61 := (show _ = some (Value.slice A10 (findV o).2.1.length c10) from K1017.cell 1)
            have H1017 := Lib.hid K1017; have HO17 := Lib.hid o17
            have hm1 : decide ((1 : Int) + ((findV o).2.1.length : Int) < 0) = false := by simp; omega
            have hne : ((1 : Int) + ((findV o).2.1.length : Int) != 1 + ((findV o).2.1.length : Int)) = false := by simp
            clear K1017 g17 o17 b17 s60 s61 hz2n
            go_wp2_with fail
            refine (heldCall_marks _ _ (findV o).2.1.length 1 _ (SlA.of_own HO17.out ((ints_len _).trans (marks_len _ 1)) (ints_rows _)) (by have := HOL.out; omega) (by omega) (by omega)).mono ?_; rintro e w18 ⟨rfl, b18⟩
            have DC18 := Lib.hid (below_then DC17.out b18); have HB18 := Lib.hid (below_then HBc.out DC18.out); have D1718 := Lib.hid b18
            have KP18 := HKPc.out.below DC18.out HKPc.out.lt; have KQ18 := HKQc.out.below DC18.out HKQc.out.lt
            have p0 := (show _ = some (Value.slice A n c) from KP18.cell 0); have p1 := (show _ = some (Value.int .i64 p.els) from KP18.cell 1)
            have q0 := (show _ = some (Value.slice A' n' c') from KQ18.cell 0); have q1 := (show _ = some (Value.int .i64 q.els) from KQ18.cell 1)
            have HLQ18 := Lib.hid KQ18.lt
            clear KP18 KQ18 b18 r60 r61
            go_upto_region 31 with (fail)
            go_cut [15, 16] from 94 to 101 (fun s15 s16 wx => Rel o w18 s15 s16 wx)
            case first =>
              have T1 := Lib.hid True.intro; have T2 := Lib.hid True.intro; have lq2 := HLQ18.out; have lp2 : w.heap.size < w18.heap.size := by omega
              go_region_law (first
                | (clear T1; go_simp; go_at_call 6; refine (toPolicy_own p _ _ (HP.out.below (below_then HB18.out (by first | exact Below.refl _ _ | go_grown))) HN.out HT.out).mono ?_; rintro e w3 ⟨v3, rfl, o3, b3⟩; obtain ⟨A3, n3, c3, rfl⟩ := o3.form; have d3 := below_then (show Below w18.heap.size w18 _ by go_grown) b3; have lq3 := Nat.lt_of_lt_of_le HLQ18.out d3.size; replace q0 := (d3.cell (p := ⟨w.heap.size + 1, 0, none⟩) HLQ18.out).trans q0; replace q1 := (d3.cell (p := ⟨w.heap.size + 1, 1, none⟩) HLQ18.out).trans q1; (first | have K6 : Blk w3 w18.heap.size 28 #[.int .i64 0, .slice none 0 0] := (Blk.new w18.drew _ _).below b3 (by simp) | skip))
                | (clear T2; go_simp; go_at_call 6; refine (toPolicy_own q _ _ (HQ.out.below (below_then (below_then HB18.out d3) (by first | exact Below.refl _ _ | go_grown))) HN'.out HT'.out).mono ?_; rintro e w4 ⟨v4, rfl, o4, b4⟩; obtain ⟨A4, n4, c4, rfl⟩ := o4.form; have d4 := below_then (show Below w3.heap.size w3 _ by first | exact Below.refl _ _ | go_grown) b4; (first | have K6 := K6.below d4 K6.lt | have K6 : Blk w4 w3.heap.size 28 #[.int .i64 0, .slice none 0 0] := (Blk.new w3 _ _).below b4 (by simp) | skip))
                | (go_simp; go_at_call 7; refine (iPolicyFind_any p q _ _ _ ((o3.is.below d4).below (by first | exact Below.refl _ _ | go_grown)) (o4.is.below (by first | exact Below.refl _ _ | go_grown)) (HPW.out.below (below_then (below_then (below_then HB18.out d3) d4) (by first | exact Below.refl _ _ | go_grown)))).mono ?_; rintro e w5 ⟨av, rfl, o5, b5⟩; rw [← HO.out] at o5 ⊢; obtain ⟨AA, ca, rfl⟩ := own_slV o5; have d5 := below_then (show Below w4.heap.size w4 _ by first | exact Below.refl _ _ | go_grown) b5; have z5 : w4.heap.size ≤ w5.heap.size := d5.size; have D5 := below_then (below_then d3 d4) d5; have L5 := Nat.le_trans d3.size d4.size; replace o5 := own_base o5 (show w4.heap.size ≤ _ by first | exact Nat.le_refl _ | simp); (first | have K6 := K6.below d5 K6.lt | have K6 : Blk w5 w4.heap.size 28 #[.int .i64 0, .slice none 0 0] := (Blk.new w4 _ _).below b5 (by simp) | skip); (try have k0 := (show _ = some (Value.int .i64 0) from K6.cell 0)); (try have k1 := (show _ = some (Value.slice none 0 0) from K6.cell 1)); (try have f0 := K6.frozen 0); (try have f1 := K6.frozen 1); (try have l6 := K6.lt)))
              all_goals go_wp2_with fail
              all_goals go_meet
              all_goals first
                | exact Rel.late D5 o5 L5
                | exact Rel.early D5 o5 L5 K6 (by first | exact Nat.le_refl _ | (have := d3.size; have := d4.size; omega))
            case rest =>
              obtain ⟨w19, rfl⟩ : ∃ X, X = wc := ⟨_, rfl⟩
              obtain ⟨hw16, ⟨G15, av15, hs15, hK15, hG15, ho15⟩, hb19⟩ := hcut
              subst hw16 hs15
              obtain ⟨A15, c15, rfl⟩ := own_slV ho15
              have DC19 := Lib.hid (below_then DC18.out hb19); have D1719 := Lib.hid (below_then D1718.out hb19)
              have K619 := HK6.out.below DC19.out HK6.out.lt
              have e60 := (show _ = some (Value.int .i64 (findV o).1) from K619.cell 0); have e61 := (show _ = some (Value.slice A6 (findV o).2.1.length c6) from K619.cell 1)
              have t60 := (show _ = some (Value.int .i64 (findV o).1) from hK15.cell 0); have t61 := (show _ = some (Value.slice A15 (findV o).2.1.length c15) from hK15.cell 1)
              have HO19 := Lib.hid ho15
              clear hK15 hG15 ho15 hb19 K619 p0 p1 q0 q1
              go_wp2_with fail
              refine (eqCall_any _ _ _ _ _ _ _ HO19.out.sl (HO6.out.below DC19.out).sl).mono ?_; rintro e w20 ⟨rfl, b20⟩
              rw [HEQ.out]
              have D1720 := below_then D1719.out b20
              have K1020 := H1017.out.below D1720 H1017.out.lt
              have s60 := (show _ = some (Value.int .i64 (findV o).1) from K1020.cell 0); have s61 := (show _ = some (Value.slice A10 (findV o).2.1.length c10) from K1020.cell 1)
              have o20 := own_below HO17.out D1720
              have HB20 := Lib.hid (below_then (below_then HBc.out DC19.out) b20); have HO20 := Lib.hid o20
              clear e60 e61 t60 t61 K1020 o20 b20 D1720
              go_wp2_with fail
              refine (heldCall_marks _ _ (findV o).2.1.length 1 _ (SlA.of_own HO20.out ((ints_len _).trans (marks_len _ 1)) (ints_rows _)) (by have := HOL.out; omega) (by omega) (by omega)).mono ?_; rintro e w21 ⟨rfl, b21⟩
              have HB21 := Lib.hid (below_then HB20.out b21)
              clear b21 s60 s61
              go_wp2
              go_ret
              exact ⟨rfl, HB21.out⟩
end exactPolicyFind
end Go.Proofs.YtkiacbfpnidjlaaGreatDoor
