/- spec.PolicyFind: the first of the near calls of which two policies say unlike things. -/
import Derived.Test.YtkiacbfpnidjlaaGreatDoorFindP
import Derived.Test.YtkiacbfpnidjlaaGreatDoorPofT
import Derived.Test.YtkiacbfpnidjlaaGreatDoorSpecC
import Derived.Test.YtkiacbfpnidjlaaGreatDoorLawCalls
namespace Go.Proofs.YtkiacbfpnidjlaaGreatDoor
open Go.RowKit
set_option linter.unusedSimpArgs false
set_option linter.unusedVariables false

/-- A row of calls of one's own, in no order. -/
structure ItemsRow (W : World) (base : Nat) (v : Value) (xs : List NItem) : Prop where
  row : W.ownsRow base 28 2 v xs.length (xs.map fun x => [Value.int .i64 x.c.num, x.args]).flatten
  args : ∀ x ∈ xs, x.c.args.length = 4 ∧ W.ownsRow base 3 1 x.args 4 (ints x.c.args).flatten
theorem CallsRow.items {W : World} {base base' : Nat} {v : Value} {xs : List NItem} (h : CallsRow W base v xs) (hb : base' ≤ base) : ItemsRow W base' v xs := ⟨(h.base_ hb).row, (h.base_ hb).args⟩
theorem ItemsRow.below {W W' : World} {base : Nat} {v : Value} {xs : List NItem} (h : ItemsRow W base v xs) (hb : Below W.heap.size W W') : ItemsRow W' base v xs := ⟨own_below h.row hb, fun x hx => ⟨(h.args x hx).1, own_below (h.args x hx).2 hb⟩⟩
theorem ItemsRow.sl {W : World} {base : Nat} {v : Value} {xs : List NItem} (h : ItemsRow W base v xs) : CallsSl W v xs :=
  ⟨SlA.of_own (cs := callCells xs) h.row (by simp [callCells]) (callCells_rows xs), fun x hx => SlA.of_own (h.args x hx).2 (by rw [ints_len]; exact (h.args x hx).1) (ints_rows _)⟩
theorem flat2_len : ∀ xs : List NItem, (xs.map fun x => [Value.int .i64 x.c.num, x.args]).flatten.length = xs.length * 2
  | [] => rfl
  | x :: xs => by
    have := flat2_len xs
    simp only [List.map_cons, List.flatten_cons, List.length_append, List.length_cons, List.length_nil]
    omega
theorem flat2_one (xs : List NItem) : ∀ u ∈ (xs.map fun x => [Value.int .i64 x.c.num, x.args]).flatten, u.oneCell' = true := fun u hu => by
  obtain ⟨l, hl, hul⟩ := List.mem_flatten.1 hu
  obtain ⟨x, _, rfl⟩ := List.mem_map.1 hl
  simp only [List.mem_cons, List.mem_nil_iff, or_false] at hul
  rcases hul with rfl | rfl <;> rfl
theorem own_src {W : World} {base n g cap size : Nat} {e : TypeId} {xs : List Value} (h : W.ownsRow base e size (.slice (some ⟨g, 0, none⟩) n cap) n xs) : ∀ (j : Nat) (u : Value), xs[j]? = some u → W.cell? ((⟨g, 0, none⟩ : Addr).add j) = some u := fun j u hu => by
  rw [add_at]
  rcases h.2 with ⟨h0, _⟩ | ⟨g', cap', cur, e1, _, hg, _, _, _, ht⟩
  · cases h0
  · injection e1 with e1 _ e3
    injection e1 with e1
    injection e1 with e1 _ _
    subst e1; subst e3
    rw [cell_of_row W g j cur e (0, 0) hg]
    rw [← ht, List.getElem?_take] at hu
    split at hu
    · simpa using hu
    · cases hu
theorem ItemsRow.join {W W2 : World} {base : Nat} {v3 v4 v5 : Value} {xs ys : List NItem} (hx : ItemsRow W base v3 xs) (hy : ItemsRow W base v4 ys) (hg : W.grownBy W2 v3.ownBlock)
    (ho : W2.ownsRow base 28 2 v5 (xs.length + ys.length) ((xs.map fun x => [Value.int .i64 x.c.num, x.args]).flatten ++ (ys.map fun x => [Value.int .i64 x.c.num, x.args]).flatten)) : ItemsRow W2 base v5 (xs ++ ys) := by
  have hk : ∀ (v3' : Value) (n : Nat) (zs : List Value), W.ownsRow base 3 1 v3' n zs → W2.ownsRow base 3 1 v3' n zs := fun v3' n zs h3 => own_grownN h3 hg (fun r e => by
    obtain ⟨cs, fr, hh⟩ := own_blockT hx.row e
    exact own_typeN h3 (fun cs' fr' e2 => by rw [hh] at e2; cases e2))
  refine ⟨by rw [List.length_append, List.map_append, List.flatten_append]; exact ho, fun x hm => ?_⟩
  rw [List.mem_append] at hm
  rcases hm with hm | hm
  · exact ⟨(hx.args x hm).1, hk _ _ _ (hx.args x hm).2⟩
  · exact ⟨(hy.args x hm).1, hk _ _ _ (hy.args x hm).2⟩
theorem nearL_pos (p : Pol) : 0 < (nearL p).length := by
  obtain ⟨b, hb⟩ := callsTo_pre (ws := nearWs p.rules) 1 599
  unfold nearL
  rw [show (600 : Nat) = 1 + 599 from rfl, hb, List.length_append]
  have : (callsTo (nearWs p.rules) 1).length = 1 := by simp [callsTo, ctrAt]
  omega
theorem nearL_len (p : Pol) : (nearL p).length ≤ 600 := by
  unfold nearL
  have h : ∀ m, (callsTo (nearWs p.rules) m).length ≤ m := fun m => by
    induction m with
    | zero => simp [callsTo]
    | succ m ih =>
      rw [callsTo]
      cases ctrAt (lensOf (nearWs p.rules)) m with
      | none => simpa using Nat.le_succ_of_le ih
      | some us => simp; exact ih
  exact h 600

theorem near_len {p : Pol} {xs : List NItem} (h : NearIs (nearWs p.rules) 600 (xs.map NItem.c)) : xs.map NItem.c = nearL p ∧ xs.length ≤ 600 ∧ 0 < xs.length := by
  have e : xs.map NItem.c = nearL p := nearL_of h
  have hl : xs.length = (nearL p).length := by rw [← e, List.length_map]
  exact ⟨e, by rw [hl]; exact nearL_len p, by rw [hl]; exact nearL_pos p⟩

/-- What is told of a call that was found. -/
def findV : Option Cl → Int × List Int × Bool
  | none => (0, [], false)
  | some c => (c.num, c.args, true)
def FindPost (o : Option Cl) (w : World) (e : Ending) (w' : World) : Prop := ∃ av, e = .returned (.tuple #[.agg #[.int .i64 (findV o).1, av], .bool (findV o).2.2]) ∧ w'.ownsRow w.heap.size 3 1 av (findV o).2.1.length (ints (findV o).2.1).flatten ∧ Below w.heap.size w w'

set_option maxRecDepth 100000 in
set_option maxHeartbeats 8000000 in
theorem sFind_ok (p q : Pol) (pv qv : Value) (w : World) (hP : PolIs w p pv) (hQ : PolIs w q qv) (hp : polOkB p = true) (hq : polOkB q = true) :
    Calls Tryz.prog 5 #[pv, qv] w (FindPost (findOf p q) w) := by
  have HP := Lib.hid hP; have HQ := Lib.hid hQ; have HPO := Lib.hid hp; have HQO := Lib.hid hq
  have HFP := Lib.hid (polFine_of hp); have HFQ := Lib.hid (polFine_of hq)
  have HFO := Lib.hid (show findOf p q = (nearL p ++ nearL q).find? (unlike p q) by unfold findOf; rw [hp, hq]; rfl)
  obtain ⟨rv, css, rfl, ⟨A, n, c, rfl, hSA⟩, hR⟩ := hP
  obtain ⟨rv', css', rfl, ⟨A', n', c', rfl, hSA'⟩, hR'⟩ := hQ
  clear hSA hR hSA' hR' hp hq
  obtain ⟨W, hW⟩ : ∃ W, W = ((w.alloc (.cells #[.slice A n c, .int .i64 p.els] 33)).alloc (.cells #[.slice A' n' c', .int .i64 q.els] 33)).alloc (.cells #[.int .i64 0, .slice none 0 0] 28) := ⟨_, rfl⟩
  have hb : Below w.heap.size w W := by rw [hW]; go_grown
  have KP : Blk W w.heap.size 33 #[.slice A n c, .int .i64 p.els] := by rw [hW]; exact ((Blk.new w _ _).alloc _).alloc _
  have KQ : Blk W (w.heap.size + 1) 33 #[.slice A' n' c', .int .i64 q.els] := by
    rw [hW]
    have h := (Blk.new (w.alloc (.cells #[.slice A n c, .int .i64 p.els] 33)) 33 #[.slice A' n' c', .int .i64 q.els]).alloc (.cells #[.int .i64 0, .slice none 0 0] 28)
    rwa [World.size_alloc] at h
  have KC : Blk W (w.heap.size + 1 + 1) 28 #[.int .i64 0, .slice none 0 0] := by
    rw [hW]
    have h := Blk.new ((w.alloc (.cells #[.slice A n c, .int .i64 p.els] 33)).alloc (.cells #[.slice A' n' c', .int .i64 q.els] 33)) 28 #[.int .i64 0, .slice none 0 0]
    rwa [World.size_alloc, World.size_alloc] at h
  have HW := Lib.hid hW; have HB := Lib.hid hb; have HKP := Lib.hid KP; have HKQ := Lib.hid KQ; have HKC := Lib.hid KC
  have x0 := (show _ = some (Value.slice A n c) from KP.cell 0); have x1 := (show _ = some (Value.int .i64 p.els) from KP.cell 1)
  clear hW hb KP KQ KC
  go_enter Tryz.func5, Tryz.ntmps5
  go_upto_region 1 with (fail)
  rw [← HW.out]
  go_wp2_with fail
  refine (PolicyOk_any p _ _ (HP.out.below HB.out)).mono ?_; rintro e w2 ⟨rfl, hb2⟩
  rw [HPO.out]
  have KQ2 := HKQ.out.below hb2 HKQ.out.lt
  have y0 := (show _ = some (Value.slice A' n' c') from KQ2.cell 0); have y1 := (show _ = some (Value.int .i64 q.els) from KQ2.cell 1)
  have HB2 := Lib.hid hb2; have HBW2 := Lib.hid (below_then HB.out hb2)
  clear x0 x1 KQ2 hb2
  go_wp2_with fail
  refine (PolicyOk_any q _ _ (HQ.out.below HBW2.out)).mono ?_; rintro e w3 ⟨rfl, hb3⟩
  rw [HQO.out]
  have HB3 := Lib.hid (HB2.out.trans (hb3.mono HB2.out.size)); have HBW3 := Lib.hid (below_then HBW2.out hb3)
  have KP3 := HKP.out.below HB3.out HKP.out.lt; have KQ3 := HKQ.out.below HB3.out HKQ.out.lt; have KC3 := HKC.out.below HB3.out HKC.out.lt
  replace y0 := (show _ = some (Value.slice A' n' c') from KQ3.cell 0); replace y1 := (show _ = some (Value.int .i64 q.els) from KQ3.cell 1)
  have x0 := (show _ = some (Value.slice A n c) from KP3.cell 0); have x1 := (show _ = some (Value.int .i64 p.els) from KP3.cell 1)
  have HKP3 := Lib.hid KP3; have HKQ3 := Lib.hid KQ3; have HKC3 := Lib.hid KC3
  have HSW3 := Lib.hid HBW3.out.size; have HQL3 := Lib.hid HKQ3.out.lt
  obtain ⟨hp1, hp2, _⟩ := polOk_bounds HPO.out
  obtain ⟨hq1, hq2, _⟩ := polOk_bounds HQO.out
  have hp3 := polOk_fields HPO.out
  have hq3 := polOk_fields HQO.out
  have HP1 := Lib.hid hp1; have HP2 := Lib.hid hp2; have HP3 := Lib.hid hp3; have HQ1 := Lib.hid hq1; have HQ2 := Lib.hid hq2; have HQ3 := Lib.hid hq3
  clear hb3 KP3 KQ3 KC3 hp1 hp2 hq1 hq2 hp3 hq3 HB2 HBW2
  go_upto_region 3 with (fail)
  have T1 := Lib.hid True.intro; have T2 := Lib.hid True.intro; have T3 := Lib.hid True.intro
  go_region_law (first
    | (clear T1; go_simp; go_at_call 15; refine (l13Near_any p _ _ (HP.out.below HBW3.out.drew) HP1.out HP2.out HP3.out).mono ?_; rintro e w4 ⟨v4, xs, rfl, o4, n4, b4⟩; obtain ⟨A4, c4, rfl⟩ := own_slV o4.row; replace y0 := (b4.cell (p := ⟨w.heap.size + 1, 0, none⟩) (by have := HQL3.out; simpa using this)).trans y0; replace y1 := (b4.cell (p := ⟨w.heap.size + 1, 1, none⟩) (by have := HQL3.out; simpa using this)).trans y1)
    | (clear T2; go_simp; go_at_call 15; refine (l13Near_any q _ _ (HQ.out.below (below_then HBW3.out.drew b4)) HQ1.out HQ2.out HQ3.out).mono ?_; rintro e w5 ⟨v5, ys, rfl, o5, n5, b5⟩; obtain ⟨e4, hm4, _⟩ := near_len n4; obtain ⟨e5, hm5, hp5⟩ := near_len n5; have i4 := (o4.items (base' := w3.heap.size) (Nat.le_refl _)).below b5; have i5 := o5.items (base' := w3.heap.size) b4.size; obtain ⟨g5, c5, rfl, hg5, hg5'⟩ := o5.row.form hp5)
    | (clear T3; refine step_appW rfl (.tmp 18) (.tmp 20) _ rfl w3.heap.size 28 Tryz.underlying42 info_Call rfl (by omega) (by omega) _ xs.length _ rfl ⟨g5, 0, none⟩ ys.length c5 _ rfl i4.row (own_src i5.row) (flat2_len ys) (flat2_one ys) (by omega) (Nat.le_trans b4.size b5.size) ?_; intro v6 w6 hown6 hg6 hb6))
  all_goals
    have hb36 : Below w3.heap.size w3 w6 := (below_then (below_then (Below.refl w3.heap.size w3).drew b4) b5).trans hb6
    obtain ⟨zs, hzs⟩ : ∃ zs, zs = xs ++ ys := ⟨_, rfl⟩
    have hI := i4.join i5 hg6 hown6
    rw [← hzs] at hI
    have hzl : xs.length + ys.length = zs.length := by rw [hzs, List.length_append]
    have HZM := Lib.hid (show zs.map NItem.c = nearL p ++ nearL q by rw [hzs, List.map_append, e4, e5])
    have HZL := Lib.hid (show zs.length ≤ 1200 by omega)
    have KP6 := HKP3.out.below hb36 HKP3.out.lt; have KQ6 := HKQ3.out.below hb36 HKQ3.out.lt; have KC6 := HKC3.out.below hb36 HKC3.out.lt
    obtain ⟨A6, c6, rfl, hc6, hc6', hget⟩ := hI.sl.get
    have HKP6 := Lib.hid KP6; have HKQ6 := Lib.hid KQ6; have HKC6 := Lib.hid KC6; have HGET := Lib.hid hget; have HI := Lib.hid hI
    have HBW6 := Lib.hid (below_then HBW3.out hb36); have HLC6 := Lib.hid HKC3.out.lt
    clear KP6 KQ6 KC6 hget hI hb36 i4 i5 o4 o5 n4 n5 b4 b5 hg6 hown6 hb6 e4 e5 hm4 hm5 hp5 hg5 hg5' x0 x1 y0 y1 hzs hzl
  all_goals go_wp2_with fail
  all_goals
    go_loopw [7] (fun i wr => ∃ j : Nat, j ≤ zs.length ∧ i = .int .i64 j ∧ Hid (∀ (k : Nat) (x : NItem), k < j → zs[k]? = some x → unlike p q x.c = false) ∧ Hid (Below w6.heap.size w6 wr)) (fun i _ => zs.length - (intOf i).toNat)
    case atStart => exact ⟨0, Nat.zero_le _, rfl, Lib.hid (fun k x hk => absurd hk (by omega)), Lib.hid (Below.refl _ _)⟩
    case round =>
      obtain ⟨j, hj, rfl, HNO, HBW⟩ := hrel
      have hbw : Below w.heap.size w wr := below_then HBW6.out HBW.out
      have KP7 := HKP6.out.below HBW.out HKP6.out.lt; have KQ7 := HKQ6.out.below HBW.out HKQ6.out.lt; have KC7 := HKC6.out.below HBW.out HKC6.out.lt
      by_cases hlt : j < zs.length
      · have hji : (j : Int) < zs.length := by omega
        obtain ⟨b, off, x, rfl, hab, hx, hsx, hcell⟩ := HGET.out j hlt
        obtain ⟨c0, c1⟩ := hcell wr _ HBW.out hab
        have hxm := List.mem_of_getElem? hx
        have hoa := HI.out.args x hxm
        have hxc : x.c ∈ nearL p ++ nearL q := by rw [← HZM.out]; exact List.mem_map_of_mem hxm
        have hco : callOkB x.c.num x.c.args = true := by
          rw [List.mem_append] at hxc
          rcases hxc with h | h <;> exact callsTo_ok _ _ _ h
        obtain ⟨xc, xg, xp⟩ := x
        simp only [NItem.args] at c1 hsx hoa hco
        obtain ⟨SA, sn, sc, es, hS⟩ := hsx
        obtain ⟨rfl, rfl, rfl⟩ : SA = some ⟨xg, 0, none⟩ ∧ sn = 4 ∧ xp = sc := by injection es with e1 e2 e3; exact ⟨e1.symm, e2.symm, e3⟩
        have p0 := (show _ = some (Value.slice A n c) from KP7.cell 0); have p1 := (show _ = some (Value.int .i64 p.els) from KP7.cell 1)
        have q0 := (show _ = some (Value.slice A' n' c') from KQ7.cell 0); have q1 := (show _ = some (Value.int .i64 q.els) from KQ7.cell 1)
        have HX := Lib.hid hx; have HS := Lib.hid (hS.below HBW.out); have HCO := Lib.hid hco; have HOA := Lib.hid hoa; have HBW7 := Lib.hid hbw; have HLT := Lib.hid hlt; have HKC7 := Lib.hid KC7
        clear hcell hx hS hxm hoa hxc hco es KP7 KQ7 KC7 hbw hlt hab
        go_upto_region 7 with (fail)
        have r0 := cell_regrown p0; have r1 := cell_regrown p1; have r2 := cell_regrown q0; have r3 := cell_regrown q1
        have s0 := cell_regrown c0; have s1 := cell_regrown c1
        refine wp_region_quiet_below (by kernel_rfl) (by kernel_rfl) ?_
        repeat (quiet_step (first | exact Calls.regrown_of (PolicyOf_any p xc _ _ _ ((HP.out.below HBW7.out).below (below_regrown _ _ _)) ⟨_, _, rfl, HS.out.below (below_regrown _ _ _)⟩ HPO.out HCO.out HFP.out) | exact Calls.regrown_of (PolicyOf_any q xc _ _ _ ((HQ.out.below HBW7.out).below (below_regrown _ _ _)) ⟨_, _, rfl, HS.out.below (below_regrown _ _ _)⟩ HQO.out HCO.out HFQ.out)))
        refine wpQuiet_nil ?_
        intro _ hw'
        obtain ⟨⟨dq, osq⟩, hw''⟩ := hw'
        subst hw''
        have hbq := below_regrown wr dq osq
        have z0 := s0 dq osq; have z1 := s1 dq osq
        have KC8 := HKC7.out.below hbq HKC7.out.lt
        have f0 := KC8.frozen 0; have f1 := KC8.frozen 1; have k0 := (show _ = some (Value.int .i64 0) from KC8.cell 0); have k1 := (show _ = some (Value.slice none 0 0) from KC8.cell 1); have l8 := KC8.lt
        have HB8 := Lib.hid (HBW.out.trans (hbq.mono HBW.out.size))
        have HKC8 := Lib.hid KC8
        clear r0 r1 r2 r3 s0 s1 p0 p1 q0 q1 c0 c1 hbq KC8
        cases hu : unlike p q xc with
        | true =>
          have hu' : (polOf p xc != polOf q xc) = true := hu
          have HF := Lib.hid (show findOf p q = some xc by
            rw [HFO.out, ← HZM.out]
            refine find_at (bs := (zs.take j).map NItem.c) (c := xc) (rest := (zs.drop (j + 1)).map NItem.c) ?_ (fun y hy => ?_) hu
            · have hz : zs = zs.take j ++ ⟨xc, xg, xp⟩ :: zs.drop (j + 1) := by
                have h1 := (List.getElem?_eq_some_iff.1 HX.out)
                obtain ⟨h2, h3⟩ := h1
                rw [← h3, ← List.drop_eq_getElem_cons h2, List.take_append_drop]
              have := congrArg (List.map NItem.c) hz
              simpa using this
            · obtain ⟨z, hz, rfl⟩ := List.mem_map.1 hy
              obtain ⟨k, hk⟩ := List.mem_iff_getElem?.1 hz
              rw [List.getElem?_take] at hk
              split at hk
              · rename_i h5; exact HNO.out k z h5 hk
              · cases hk)
          clear hu
          go_wp2
          have m0 := (show _ = some (Value.int .i64 xc.num) from (HKC8.out.set_ 0 (.int .i64 xc.num)).cell 0)
          have m1 := (show _ = some (Value.slice (some ⟨xg, 0, none⟩) 4 xp) from ((HKC8.out.set_ 0 (.int .i64 xc.num)).set_ 1 (.slice (some ⟨xg, 0, none⟩) 4 xp)).cell 1)
          refine bodyPost_ret_by (v := .tuple #[.agg #[.int .i64 xc.num, .slice (some ⟨xg, 0, none⟩) 4 xp], .bool true]) (by simp [results, Tryz.results5, go_sem, m0, m1]) rfl ?_
          rw [HF.out]
          refine ⟨_, rfl, ?_, ?_⟩
          · have h1 := own_below HOA.out.2 HB8.out
            rw [show (findV (some xc)).2.1.length = 4 from HOA.out.1]
            exact own_base (ownsRow_setCell_below (ownsRow_setCell_below h1 HLC6.out _) HLC6.out _) HSW3.out
          · exact ((below_then HBW6.out HB8.out).setCell (p := ⟨w.heap.size + 1 + 1, 0, none⟩) (by show w.heap.size ≤ w.heap.size + 1 + 1; omega) _).setCell (p := ⟨w.heap.size + 1 + 1, 1, none⟩) (by show w.heap.size ≤ w.heap.size + 1 + 1; omega) _
        | false =>
          have hu' : (polOf p xc != polOf q xc) = false := hu
          have HU := Lib.hid hu
          clear hu z0 z1 f0 f1 k0 k1 l8
          go_wp2
          exact ⟨⟨j + 1, HLT.out, by go_num, Lib.hid (fun k y hk hy => by
            by_cases e : k = j
            · subst e; rw [HX.out] at hy; cases hy; exact HU.out
            · exact HNO.out k y (by omega) hy), HB8⟩, by simp [intOf]; have := HLT.out; omega⟩
      · obtain rfl : j = zs.length := by omega
        have HF := Lib.hid (show findOf p q = none by
          rw [HFO.out, ← HZM.out]
          refine find_no (fun y hy => ?_)
          obtain ⟨z, hz, rfl⟩ := List.mem_map.1 hy
          obtain ⟨k, hk⟩ := List.mem_iff_getElem?.1 hz
          exact HNO.out k z (List.getElem?_eq_some_iff.1 hk).1 hk)
        have f0 := KC7.frozen 0; have f1 := KC7.frozen 1; have k0 := (show _ = some (Value.int .i64 0) from KC7.cell 0); have k1 := (show _ = some (Value.slice none 0 0) from KC7.cell 1); have l7 := KC7.lt
        have HKC7 := Lib.hid KC7; have HBW7 := Lib.hid hbw
        clear hbw KP7 KQ7 KC7
        go_wp2
        have m0 := (show _ = some (Value.int .i64 0) from (HKC7.out.set_ 0 (.int .i64 0)).cell 0)
        have m1 := (show _ = some (Value.slice none 0 0) from ((HKC7.out.set_ 0 (.int .i64 0)).set_ 1 (.slice none 0 0)).cell 1)
        refine bodyPost_ret_by (v := .tuple #[.agg #[.int .i64 0, .slice none 0 0], .bool false]) (by simp [results, Tryz.results5, go_sem, m0, m1]) rfl ?_
        rw [HF.out]
        exact ⟨_, rfl, World.ownsRow_nil _ _ _ _, (HBW7.out.setCell (p := ⟨w.heap.size + 1 + 1, 0, none⟩) (by show w.heap.size ≤ w.heap.size + 1 + 1; omega) _).setCell (p := ⟨w.heap.size + 1 + 1, 1, none⟩) (by show w.heap.size ≤ w.heap.size + 1 + 1; omega) _⟩
set_option maxHeartbeats 4000000 in
theorem sFind_no (p q : Pol) (pv qv : Value) (w : World) (hP : PolIs w p pv) (hQ : PolIs w q qv) (hn : (polOkB p && polOkB q) = false) :
    Calls Tryz.prog 5 #[pv, qv] w (FindPost (findOf p q) w) := by
  have HP := Lib.hid hP; have HQ := Lib.hid hQ
  have HF := Lib.hid (show findOf p q = none by unfold findOf; rw [hn]; rfl)
  obtain ⟨rv, css, rfl, ⟨A, n, c, rfl, hSA⟩, hR⟩ := hP
  obtain ⟨rv', css', rfl, ⟨A', n', c', rfl, hSA'⟩, hR'⟩ := hQ
  clear hSA hR hSA' hR'
  obtain ⟨W, hW⟩ : ∃ W, W = ((w.alloc (.cells #[.slice A n c, .int .i64 p.els] 33)).alloc (.cells #[.slice A' n' c', .int .i64 q.els] 33)).alloc (.cells #[.int .i64 0, .slice none 0 0] 28) := ⟨_, rfl⟩
  have hb : Below w.heap.size w W := by rw [hW]; go_grown
  have KP : Blk W w.heap.size 33 #[.slice A n c, .int .i64 p.els] := by rw [hW]; exact ((Blk.new w _ _).alloc _).alloc _
  have KQ : Blk W (w.heap.size + 1) 33 #[.slice A' n' c', .int .i64 q.els] := by
    rw [hW]
    have h := (Blk.new (w.alloc (.cells #[.slice A n c, .int .i64 p.els] 33)) 33 #[.slice A' n' c', .int .i64 q.els]).alloc (.cells #[.int .i64 0, .slice none 0 0] 28)
    rwa [World.size_alloc] at h
  have KC : Blk W (w.heap.size + 1 + 1) 28 #[.int .i64 0, .slice none 0 0] := by
    rw [hW]
    have h := Blk.new ((w.alloc (.cells #[.slice A n c, .int .i64 p.els] 33)).alloc (.cells #[.slice A' n' c', .int .i64 q.els] 33)) 28 #[.int .i64 0, .slice none 0 0]
    rwa [World.size_alloc, World.size_alloc] at h
  have HW := Lib.hid hW; have HB := Lib.hid hb; have HKP := Lib.hid KP; have HKQ := Lib.hid KQ; have HKC := Lib.hid KC; have HN := Lib.hid hn
  have x0 := (show _ = some (Value.slice A n c) from KP.cell 0); have x1 := (show _ = some (Value.int .i64 p.els) from KP.cell 1)
  clear hW hb KP KQ KC hn
  go_enter Tryz.func5, Tryz.ntmps5
  go_upto_region 1 with (fail)
  rw [← HW.out]
  go_wp2_with fail
  refine (PolicyOk_any p _ _ (HP.out.below HB.out)).mono ?_; rintro e w2 ⟨rfl, hb2⟩
  have KQ2 := HKQ.out.below hb2 HKQ.out.lt; have KC2 := HKC.out.below hb2 HKC.out.lt
  have HBW2 := Lib.hid (below_then HB.out hb2); have HKC2 := Lib.hid KC2
  clear x0 x1 hb2
  cases hp : polOkB p with
  | false =>
    have f0 := KC2.frozen 0; have f1 := KC2.frozen 1; have k0 := (show _ = some (Value.int .i64 0) from KC2.cell 0); have k1 := (show _ = some (Value.slice none 0 0) from KC2.cell 1); have l2 := KC2.lt
    clear KQ2 KC2
    go_wp2
    have m0 := (show _ = some (Value.int .i64 0) from (HKC2.out.set_ 0 (.int .i64 0)).cell 0)
    have m1 := (show _ = some (Value.slice none 0 0) from ((HKC2.out.set_ 0 (.int .i64 0)).set_ 1 (.slice none 0 0)).cell 1)
    refine bodyPost_ret_by (v := .tuple #[.agg #[.int .i64 0, .slice none 0 0], .bool false]) (by simp [results, Tryz.results5, go_sem, m0, m1]) rfl ?_
    rw [HF.out]
    exact ⟨_, rfl, World.ownsRow_nil _ _ _ _, (HBW2.out.setCell (p := ⟨w.heap.size + 1 + 1, 0, none⟩) (by show w.heap.size ≤ w.heap.size + 1 + 1; omega) _).setCell (p := ⟨w.heap.size + 1 + 1, 1, none⟩) (by show w.heap.size ≤ w.heap.size + 1 + 1; omega) _⟩
  | true =>
    have HQF := Lib.hid (show polOkB q = false by have := HN.out; rw [hp] at this; simpa using this)
    have y0 := (show _ = some (Value.slice A' n' c') from KQ2.cell 0); have y1 := (show _ = some (Value.int .i64 q.els) from KQ2.cell 1)
    clear KQ2 KC2
    go_wp2_with fail
    refine (PolicyOk_any q _ _ (HQ.out.below HBW2.out)).mono ?_; rintro e w3 ⟨rfl, hb3⟩
    rw [HQF.out]
    have KC3 := HKC2.out.below hb3 HKC2.out.lt
    have f0 := KC3.frozen 0; have f1 := KC3.frozen 1; have k0 := (show _ = some (Value.int .i64 0) from KC3.cell 0); have k1 := (show _ = some (Value.slice none 0 0) from KC3.cell 1); have l3 := KC3.lt
    have HKC3 := Lib.hid KC3; have HBW3 := Lib.hid (below_then HBW2.out hb3)
    clear y0 y1 KC3 hb3
    go_wp2
    have m0 := (show _ = some (Value.int .i64 0) from (HKC3.out.set_ 0 (.int .i64 0)).cell 0)
    have m1 := (show _ = some (Value.slice none 0 0) from ((HKC3.out.set_ 0 (.int .i64 0)).set_ 1 (.slice none 0 0)).cell 1)
    refine bodyPost_ret_by (v := .tuple #[.agg #[.int .i64 0, .slice none 0 0], .bool false]) (by simp [results, Tryz.results5, go_sem, m0, m1]) rfl ?_
    rw [HF.out]
    exact ⟨_, rfl, World.ownsRow_nil _ _ _ _, (HBW3.out.setCell (p := ⟨w.heap.size + 1 + 1, 0, none⟩) (by show w.heap.size ≤ w.heap.size + 1 + 1; omega) _).setCell (p := ⟨w.heap.size + 1 + 1, 1, none⟩) (by show w.heap.size ≤ w.heap.size + 1 + 1; omega) _⟩
theorem sPolicyFind_any (p q : Pol) (pv qv : Value) (w : World) (hP : PolIs w p pv) (hQ : PolIs w q qv) : Calls Tryz.prog 5 #[pv, qv] w (FindPost (findOf p q) w) := by
  cases h : polOkB p && polOkB q with
  | true =>
    simp only [Bool.and_eq_true] at h
    exact sFind_ok p q pv qv w hP hQ h.1 h.2
  | false => exact sFind_no p q pv qv w hP hQ h
end Go.Proofs.YtkiacbfpnidjlaaGreatDoor
