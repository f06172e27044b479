/- Joined texts: CopyP AnyTest SpoilP SpoilQ. -/
import Derived.Test.YtgdelnpielfhkaaGreatDoorDrawPol2
import Derived.Deep.DeepCutAuto
import Derived.Test.YtgdelnpielfhkaaGreatDoorDrawPol
import Derived.Test.YtgdelnpielfhkaaGreatDoorRelA
-- spec's draws: a policy in rows of its own.
namespace Go.Proofs.YtgdelnpielfhkaaGreatDoor
open Go.RowKit
set_option linter.unusedSimpArgs false
set_option linter.unusedVariables false

theorem ts_one (ts : List Ts) : ∀ u ∈ (tsR ts).flatten, u.oneCell' = true := fun u hu => by
  obtain ⟨r, hr, h⟩ := List.mem_flatten.1 hu
  obtain ⟨t, _, rfl⟩ := List.mem_map.1 hr
  simp [Ts.cells] at h
  rcases h with rfl | rfl | rfl | rfl <;> rfl
theorem own_gbK {w w' : World} {base n : Nat} {e : TypeId} {size : Nat} {v : Value} {xs : List Value} (h : w.ownsRow base e size v n xs) (hg : w.grownBy w' v.ownBlock) (hb : base ≤ w.heap.size) : Below base w w' :=
  (Below.refl base w).grown hg hb (fun k hk => (h.lt k hk).1)
theorem own_emptyK {W : World} {g base : Nat} {t : TypeId} {size : Nat} (h : Blk W g t #[]) (hb : base ≤ g) : W.ownsRow base t size (.slice (some ⟨g, 0, none⟩) 0 0) 0 [] :=
  ⟨by simp, .inr ⟨g, 0, #[], rfl, hb, h, Nat.le_refl _, Nat.zero_le _, by simp, by simp⟩⟩
/-- 'append([]Test{}, xs...)': a new row of what is read. -/
theorem wpList_copyT {ops : Array Oper} {rest : List Oper} {o : Oper} {a : Act} {Q : Exit → Act → World → Prop} {W : World} (hgd : o.guard = none) (s x : Operand) (ho : o.op = .call { callee := .builtin .append, args := #[s, x], argTypes := #[42, 42] })
    (B : Nat) (hs : a.eval s = .slice (some ⟨B, 0, none⟩) 0 0) (hB : Blk W B 47 #[]) (b2 n : Nat) (v2 : Value) (ts : List Ts) (hx : a.eval x = v2) (hO : W.ownsRow b2 47 4 v2 n (tsR ts).flatten) (hn : n ≤ 100000)
    (h : ∀ v' w', w'.ownsRow B 47 4 v' n (tsR ts).flatten → Below B W w' → wpList Tryz.prog ops Q rest (a.put o.dst v') w') : wpList Tryz.prog ops Q (o :: rest) a W := by
  obtain ⟨i0, hi0, hz0, hz1, hz2⟩ := info_parts info_TestM
  have hlt := hB.lt
  have hE := own_emptyK (base := B) (t := 47) (size := 4) hB (Nat.le_refl _)
  have hfl := hO.1
  rcases hO.2 with ⟨rfl, h0⟩ | ⟨g, cap, cur, rfl, hge, hg, hmc, hm, hcs, htake⟩
  · subst h0
    have hts : (tsR ts).flatten = [] := List.eq_nil_of_length_eq_zero (by simpa using hfl)
    exact wpList_append_own_none hgd s x _ ho B 47 i0 4 Tryz.underlying42 hi0 _ 0 [] hs hE hx (h _ W (by rw [hts]; exact hE) (Below.refl _ _))
  · exact wpList_append_own _ hgd s x _ ho B 47 i0 _ 4 32 Tryz.underlying42 hi0 hz0 hz1 hz2 rfl (by omega) _ 0 [] hs hE ⟨g, 0, none⟩ n cap (tsR ts).flatten hx hfl (hO.cells rfl) (ts_one ts) (by unfold maxLen; omega) (by omega) (by omega) (fun v' w' hown hg _ => h v' w' (by simpa using hown) (own_gbK hE hg (by omega)))

/-- The rows of tests are each rule's own. -/
def Apart (css : List (List Value)) : Prop := ∀ (i j : Nat) (ci cj : List Value) (u v : Value), css[i]? = some ci → css[j]? = some cj → i ≠ j → ci[3]? = some u → cj[3]? = some v → u.ownBlock = none ∨ u.ownBlock ≠ v.ownBlock
theorem Apart.nil : Apart [] := fun i j ci cj u v h => by simp at h
theorem Apart.snoc {w : World} {B : Nat} {rs : List Rl} {ds : List (List Value)} {cs : List Value} (h : Apart ds) (hr : RulesOwn w B rs ds) (hn : ∀ (u : Value) (b : Nat), cs[3]? = some u → u.ownBlock = some b → w.heap.size ≤ b) : Apart (ds ++ [cs]) := by
  have old : ∀ (i : Nat) (ci : List Value) (u : Value) (b : Nat), ds[i]? = some ci → ci[3]? = some u → u.ownBlock = some b → b < w.heap.size := fun i ci u b h1 h2 h3 => by
    obtain ⟨tv, e, ho⟩ := hr.2 i (rs[i]'(by rw [← hr.1]; exact (List.getElem?_eq_some_iff.1 h1).1)) ci (List.getElem?_eq_getElem _) h1
    rw [e] at h2
    cases h2
    exact (ho.lt b h3).2
  intro i j ci cj u v hi hj hij hu hv
  rcases Nat.lt_or_ge i ds.length with h1 | h1
  · rw [List.getElem?_append_left h1] at hi
    rcases Nat.lt_or_ge j ds.length with h2 | h2
    · rw [List.getElem?_append_left h2] at hj
      exact h i j ci cj u v hi hj hij hu hv
    · rw [List.getElem?_append_right h2] at hj
      have e : j - ds.length = 0 := by have := (List.getElem?_eq_some_iff.1 hj).1; simp at this; omega
      rw [e] at hj
      simp at hj
      subst hj
      rcases hb : u.ownBlock with _ | b
      · exact .inl rfl
      · refine .inr fun e => ?_
        have x1 := old i ci u b hi hu hb
        have x2 := hn v b hv e.symm
        omega
  · rw [List.getElem?_append_right h1] at hi
    have e : i - ds.length = 0 := by have := (List.getElem?_eq_some_iff.1 hi).1; simp at this; omega
    rw [e] at hi
    simp at hi
    subst hi
    have h2 : j < ds.length := by
      rcases Nat.lt_or_ge j ds.length with h2 | h2
      · exact h2
      · rw [List.getElem?_append_right h2] at hj
        have := (List.getElem?_eq_some_iff.1 hj).1
        simp at this
        omega
    rw [List.getElem?_append_left h2] at hj
    rcases hb : u.ownBlock with _ | b
    · exact .inl rfl
    · refine .inr fun e => ?_
      have x1 := old j cj v b hj hv e.symm
      have x2 := hn u b hu hb
      omega

/-- The copy takes one rule more. -/
theorem l2_app {V w2 : World} {g k : Nat} {els : Int} {rv v2 : Value} {rs : List Rl} {ds : List (List Value)} {r : Rl} {cs : List Value} (HB : Blk V g 25 #[rv, .int .i64 els]) (HO : V.ownsRow (g + 1) 44 4 rv k ds.flatten) (HW : RulesOwn V (g + 1) rs ds) (hr : RuleOwn V (g + 1) r cs) (ho : w2.ownsRow (g + 1) 44 4 v2 (k + 1) (ds ++ [cs]).flatten) (hg : V.grownBy w2 rv.ownBlock) :
    Blk (w2.setCell ⟨g, 0, none⟩ v2) g 25 #[v2, .int .i64 els] ∧ (w2.setCell ⟨g, 0, none⟩ v2).ownsRow (g + 1) 44 4 v2 (k + 1) (ds ++ [cs]).flatten ∧ RulesOwn (w2.setCell ⟨g, 0, none⟩ v2) (g + 1) (rs ++ [r]) (ds ++ [cs]) ∧ Below g V (w2.setCell ⟨g, 0, none⟩ v2) := by
  have hlt := HB.lt
  have hb : Below (g + 1) V w2 := (Below.refl (g + 1) V).grown hg (by omega) (fun k hk => (HO.lt k hk).1)
  have hk : ∀ (tv : Value) (n : Nat) (xs : List Value), V.ownsRow (g + 1) 47 4 tv n xs → (w2.setCell ⟨g, 0, none⟩ v2).ownsRow (g + 1) 47 4 tv n xs := fun tv n xs ht =>
    ownsRow_setCell_below (ht.kept hg (own_apart ht HO (by decide))) (by simp) _
  exact ⟨(HB.below hb (by omega)).set_ 0 _, ownsRow_setCell_below ho (by simp) _, (HW.imp hk).snoc (let ⟨tv, e, ht⟩ := hr; ⟨tv, e, hk _ _ _ ht⟩), (hb.mono (Nat.le_succ g)).setCell (p := ⟨g, 0, none⟩) (Nat.le_refl _) v2⟩

set_option maxRecDepth 100000 in
set_option maxHeartbeats 8000000 in
theorem l2Copy_any (p : Pol) (v : Value) (B : Nat) (w : World) (h : PolOwn w B p v) (hn : p.rules.length ≤ 100) (ht : ∀ r ∈ p.rules, r.tests.length ≤ 100) :
    Calls Tryz.prog 91 #[v] w fun e w' => ∃ rv css, e = .returned (.agg #[rv, .int .i64 p.els]) ∧ w'.ownsRow w.heap.size 44 4 rv css.length css.flatten ∧ RulesOwn w' w.heap.size p.rules css ∧ Apart css ∧ Below w.heap.size w w' := by
  obtain ⟨rs, els⟩ := p
  obtain ⟨rv, css, rfl, ho, hr⟩ := h
  simp only at hn ht hr ⊢
  obtain ⟨A, n, c, rfl, hSA⟩ := SlA.of_own ho rfl hr.are.rows
  have hcn : css.length = n := hSA.len
  have hln : rs.length = n := by rw [← hr.1]; exact hcn
  have hcc := hSA.cap
  have hmm := hSA.max
  unfold maxLen at hmm
  obtain ⟨X, hX⟩ : ∃ X, X = ((w.alloc (.cells #[.slice A n c, .int .i64 els] 25)).alloc (.cells #[.slice none 0 0, .int .i64 0] 25)).alloc (.cells #[.slice none 0 0, .int .i64 els] 25) := ⟨_, rfl⟩
  have hbX : Below w.heap.size w X := by rw [hX]; go_grown
  have hzX : X.heap.size = w.heap.size + 1 + 1 + 1 := by rw [hX]; simp
  have B0 : Blk X w.heap.size 25 #[.slice A n c, .int .i64 els] := by rw [hX]; exact ((Blk.new w _ _).alloc _).alloc _
  have B1 : Blk X (w.heap.size + 1) 25 #[.slice none 0 0, .int .i64 0] := by
    rw [hX]
    have := (Blk.new (w.alloc (.cells #[.slice A n c, .int .i64 els] 25)) 25 #[.slice none 0 0, .int .i64 0]).alloc (.cells #[.slice none 0 0, .int .i64 els] 25)
    simpa using this
  have B2 : Blk X (w.heap.size + 1 + 1) 25 #[.slice none 0 0, .int .i64 els] := by
    rw [hX]
    have := Blk.new ((w.alloc (.cells #[.slice A n c, .int .i64 els] 25)).alloc (.cells #[.slice none 0 0, .int .i64 0] 25)) 25 #[.slice none 0 0, .int .i64 els]
    simpa using this
  have HX := Lib.hid hX; have HB0 := Lib.hid B0; have HB1 := Lib.hid B1; have HB2 := Lib.hid B2; have HZ := Lib.hid hzX; have HBX := Lib.hid hbX
  have HSA := Lib.hid hSA; have HR := Lib.hid hr; have HL := Lib.hid hln; have HC := Lib.hid hcn; have HTT := Lib.hid ht
  have hn9 : n ≤ 100 := by omega
  clear hX B0 B1 B2 hzX hbX hSA hr hln hcn ht ho hn
  go_enter Tryz.func91, Tryz.ntmps91
  go_wp2_with fail
  rw [← HX.out]
  go_loopw [4] (fun i wr => ∃ (k : Nat) (rv : Value) (ds : List (List Value)), k ≤ n ∧ i = .int .i64 k ∧ Hid (Blk wr (w.heap.size + 1 + 1) 25 #[rv, .int .i64 els]) ∧ Hid (wr.ownsRow (w.heap.size + 1 + 1 + 1) 44 4 rv k ds.flatten) ∧ Hid (RulesOwn wr (w.heap.size + 1 + 1 + 1) (rs.take k) ds) ∧ Hid (Apart ds) ∧ Below (w.heap.size + 1 + 1) X wr) (fun i _ => n - (intOf i).toNat)
  case atStart => exact ⟨0, .slice none 0 0, [], Nat.zero_le _, rfl, HB2, Lib.hid (World.ownsRow_nil _ _ _ _), Lib.hid (by simpa using RulesOwn.nil _ _), Lib.hid Apart.nil, Below.refl _ _⟩
  case round =>
    obtain ⟨k, rv, ds, hk, rfl, HB, HO, HW, HAP, hb⟩ := hrel
    have hsz := hb.size
    have hzx := HZ.out
    have hz0 : w.heap.size < wr.heap.size := by omega
    have hz1 : w.heap.size + 1 + 1 < wr.heap.size := by omega
    have hbw := HBX.out.trans (hb.mono (by omega))
    have y0 := (show wr.cell? ⟨w.heap.size, 0, none⟩ = some (.slice A n c) from (hb.cell (p := ⟨w.heap.size, 0, none⟩) (by show w.heap.size < _; omega)).trans (HB0.out.cell 0))
    have hdl : ds.length = k := by rw [HW.out.1, List.length_take, HL.out]; omega
    by_cases hlt : k < n
    · obtain ⟨b, off, rfl, hab, hel⟩ := HSA.out.get hlt
      obtain ⟨r, hr⟩ : ∃ r, rs[k]? = some r := ⟨_, List.getElem?_eq_getElem (by rw [HL.out]; exact hlt)⟩
      have hcs : css[k]? = some (css[k]'(by rw [HC.out]; exact hlt)) := List.getElem?_eq_getElem _
      obtain ⟨tv, e, hot⟩ := HR.out.2 k r _ hr hcs
      rw [e] at hcs
      obtain ⟨A2, n2, c2, rfl, hS2⟩ := SlA.of_own hot (tsR_len _) (tsR_rows _)
      have c0 := (hbw.cell (p := ⟨b, off + k * 4, none⟩) hab).trans (hel _ hcs 0 _ rfl); have c1 := (hbw.cell (p := ⟨b, off + k * 4 + 1, none⟩) hab).trans (hel _ hcs 1 _ rfl); have c2' := (hbw.cell (p := ⟨b, off + k * 4 + 2, none⟩) hab).trans (hel _ hcs 2 _ rfl); have c3 := (hbw.cell (p := ⟨b, off + k * 4 + 3, none⟩) hab).trans (hel _ hcs 3 _ rfl)
      have hb2 : b < wr.heap.size := by omega
      have htl := HTT.out r (List.mem_of_getElem? hr)
      have HTK := Lib.hid (show rs.take (k + 1) = rs.take k ++ [r] by rw [List.take_add_one, hr]; rfl)
      obtain ⟨A9, n9, c9, rfl, hS9⟩ := SlA.of_own HO.out hdl HW.out.are.rows
      have x0 := (show _ = some (Value.slice A9 n9 c9) from HB.out.cell 0); have xf0 := HB.out.frozen 0
      have HOT := Lib.hid (own_below hot hbw)
      clear hel hr hcs e hot hS2 hS9 hbw hzx
      obtain ⟨W2, hW2⟩ : ∃ W2, W2 = (wr.alloc (.cells #[.int .i64 r.verdict, .int .i64 r.low, .int .i64 r.high, .slice A2 n2 c2] 44)).alloc (.cells #[] 47) := ⟨_, rfl⟩
      have hbW2 : Below wr.heap.size wr W2 := by rw [hW2]; go_grown
      have hzW2 : W2.heap.size = wr.heap.size + 1 + 1 := by rw [hW2]; simp
      have RB : Blk W2 wr.heap.size 44 #[.int .i64 r.verdict, .int .i64 r.low, .int .i64 r.high, .slice A2 n2 c2] := by rw [hW2]; exact (Blk.new wr _ _).alloc _
      have EB : Blk W2 (wr.heap.size + 1) 47 #[] := by
        rw [hW2]
        have := Blk.new (wr.alloc (.cells #[.int .i64 r.verdict, .int .i64 r.low, .int .i64 r.high, .slice A2 n2 c2] 44)) 47 #[]
        simpa using this
      have HW2 := Lib.hid hW2; have HRB := Lib.hid RB; have HEB := Lib.hid EB; have HBW2 := Lib.hid hbW2; have HZW2 := Lib.hid hzW2
      have HOT2 := Lib.hid (own_below HOT.out hbW2)
      clear hW2 RB EB hbW2 hzW2
      go_upto_region 7 with (at_builtin; rw [← HW2.out]; go_must (refine wpList_copyT rfl (.tmp 21) (.tmp 23) rfl (wr.heap.size + 1) rfl HEB.out B r.tests.length (.slice A2 n2 c2) r.tests rfl HOT2.out (by omega) ?_); intro v5 W5 hown5 hb5; obtain ⟨A5, n5, c5, rfl, -⟩ := SlA.of_own hown5 (tsR_len _) (tsR_rows _); have RB5 := HRB.out.below hb5 (Nat.lt_succ_self _); have r50 := (show _ = some (Value.int .i64 r.verdict) from RB5.cell 0); have r51 := (show _ = some (Value.int .i64 r.low) from RB5.cell 1); have r52 := (show _ = some (Value.int .i64 r.high) from RB5.cell 2); have r53 := (show _ = some (Value.slice A2 n2 c2) from RB5.cell 3); have rf53 := RB5.frozen 3; have hbw5 : Below wr.heap.size wr W5 := HBW2.out.trans (hb5.mono (Nat.le_succ _)); have XB5 := HB.out.below hbw5 hz1; have x50 := (show _ = some (Value.slice A9 n9 c9) from XB5.cell 0); have xf50 := XB5.frozen 0; have HOWN5 := Lib.hid hown5; have HBW5 := Lib.hid hbw5; have HRB5 := Lib.hid RB5; have HXB5 := Lib.hid XB5; clear hown5 hb5 RB5 XB5 hbw5)
      clear x0 xf0 c0 c1 c2' c3
      obtain ⟨V, hV⟩ : ∃ V, V = W5.setCell ⟨wr.heap.size, 3, none⟩ (.slice A5 n5 c5) := ⟨_, rfl⟩
      have hbV : Below wr.heap.size wr V := by rw [hV]; exact HBW5.out.setCell (p := ⟨wr.heap.size, 3, none⟩) (Nat.le_refl _) _
      have RV : Blk V wr.heap.size 44 #[.int .i64 r.verdict, .int .i64 r.low, .int .i64 r.high, .slice A5 n5 c5] := by rw [hV]; exact HRB5.out.set_ 3 _
      have XV := HB.out.below hbV hz1
      have OV := own_below HO.out hbV
      have TV : V.ownsRow (w.heap.size + 1 + 1 + 1) 47 4 (.slice A5 n5 c5) r.tests.length (tsR r.tests).flatten := by rw [hV]; exact own_base (ownsRow_setCell_below HOWN5.out (by simp) _) (by omega)
      have WV := HW.out.imp fun tv n' xs ho => own_below ho hbV
      have y70 := (show _ = some (Value.int .i64 r.verdict) from RV.cell 0); have y71 := (show _ = some (Value.int .i64 r.low) from RV.cell 1); have y72 := (show _ = some (Value.int .i64 r.high) from RV.cell 2); have y73 := (show _ = some (Value.slice A5 n5 c5) from RV.cell 3)
      have x70 := (show _ = some (Value.slice A9 n9 c9) from XV.cell 0)
      have HBV := Lib.hid hbV; have HXV := Lib.hid XV; have HOV := Lib.hid OV; have HTV := Lib.hid TV; have HWV := Lib.hid WV
      have hN := own_blk_ne OV XV (by decide)
      have HN := Lib.hid hN
      have HBX7 := Lib.hid hb
      have HAP2 := Lib.hid (HAP.out.snoc (cs := [.int .i64 r.verdict, .int .i64 r.low, .int .i64 r.high, .slice A5 n5 c5]) HW.out (fun u b hu hb => by cases hu; exact Nat.le_of_succ_le (HOWN5.out.lt b hb).1))
      have hV3 : w.heap.size + 1 + 1 + 1 ≤ V.heap.size := by have := hbV.size; omega
      rw [← hV]
      clear hV hbV RV XV OV TV WV hN x50 xf50 r50 r51 r52 r53 rf53 hb
      go_wp2_with (at_builtin; go_must (refine wpList_app1g rfl (.tmp 27) (.tmp 29) _ rfl (w.heap.size + 1 + 1 + 1) 44 Tryz.underlying23 info_RuleM rfl (by omega) (by omega) (.slice A9 n9 c9) k ds rfl HOV.out rfl (by simp [Value.oneCell']) rfl (by omega) (by omega) ?_); intro v9 w9 hown9 hg9 _; obtain ⟨g9, cap9, rfl, hg9', hg9''⟩ := hown9.form (by omega); have P9 := HXV.out.grown hg9 (fun e => HN.out e.symm); have p90 := (show _ = some (Value.slice A9 n9 c9) from P9.cell 0); have pf0 := P9.frozen 0)
      obtain ⟨q1, q2, q3, q4⟩ := l2_app HXV.out HOV.out HWV.out ⟨_, rfl, HTV.out⟩ hown9 hg9
      exact ⟨⟨k + 1, _, ds ++ [[.int .i64 r.verdict, .int .i64 r.low, .int .i64 r.high, .slice A5 n5 c5]], by omega, by go_num, Lib.hid q1, Lib.hid q2, Lib.hid (by rw [HTK.out]; exact q3), HAP2, (HBX7.out.trans (HBV.out.mono (by omega))).trans q4⟩, by simp [intOf]; omega⟩
    · obtain rfl : k = n := by omega
      obtain ⟨A9, n9, c9, rfl, hS9⟩ := SlA.of_own HO.out hdl HW.out.are.rows
      have RB := HB1.out.below hb (by omega)
      have x0 := (show _ = some (Value.slice A9 n9 c9) from HB.out.cell 0); have x1 := (show _ = some (Value.int .i64 els) from HB.out.cell 1)
      have t0 := (show _ = some (Value.slice none 0 0) from RB.cell 0); have t1 := (show _ = some (Value.int .i64 0) from RB.cell 1)
      have f0 := RB.frozen 0; have f1 := RB.frozen 1
      have hz2 : w.heap.size + 1 < wr.heap.size := by omega
      have hbw2 := Lib.hid hbw; have HD := Lib.hid hdl
      have HTA := Lib.hid (show rs.take k = rs by rw [List.take_of_length_le (by rw [HL.out]; exact Nat.le_refl _)])
      clear hbw RB hS9 hb hdl
      go_wp2
      refine bodyPost_ret (v := .agg #[.slice A9 n9 c9, .int .i64 els]) (by simp [results, Tryz.results91, go_sem, t0, t1]) rfl ⟨_, ds, rfl, ?_, ?_, HAP.out, ?_⟩
      · rw [HD.out]
        exact own_base (ownsRow_setCell_below (a := ⟨w.heap.size + 1, 1, none⟩) (ownsRow_setCell_below (a := ⟨w.heap.size + 1, 0, none⟩) HO.out (by simp) (.slice A9 n9 c9)) (by simp) (.int .i64 els)) (by omega)
      · have HW' := HW.out
        rw [HTA.out] at HW'
        exact HW'.imp fun tv n' xs ho => own_base (ownsRow_setCell_below (a := ⟨w.heap.size + 1, 1, none⟩) (ownsRow_setCell_below (a := ⟨w.heap.size + 1, 0, none⟩) ho (by simp) (.slice A9 n9 c9)) (by simp) (.int .i64 els)) (by omega)
      · exact (hbw2.out.setCell (p := ⟨w.heap.size + 1, 0, none⟩) (Nat.le_succ _) _).setCell (p := ⟨w.heap.size + 1, 1, none⟩) (Nat.le_succ _) _
end Go.Proofs.YtgdelnpielfhkaaGreatDoor

-- spec's draws: a test, wrong now and then.
namespace Go.Proofs.YtgdelnpielfhkaaGreatDoor
open Go.RowKit
set_option linter.unusedSimpArgs false
set_option linter.unusedVariables false
set_option maxHeartbeats 4000000 in
theorem l11AnyTest_any (g p : Nat) (w : World) (h : Rd w g p) (hp : p ≤ 790000000) :
    Calls Tryz.prog 92 #[.pointer (some ⟨g, 0, none⟩)] w fun e w' =>
      ∃ (t : Ts) (q : Nat), e = .returned (.agg #[.int .i64 t.field, .int .i64 t.mask, .int .i64 t.op, .int .i64 t.value]) ∧ w.grownBy w' (some g) ∧ Rd w' g q ∧ q ≤ p + 13 := by
  have D0 : Dq w (w.alloc (.cells #[.int .i64 0, .int .i64 0, .int .i64 0, .int .i64 0] 47)) g p := (Dq.start h).next (by go_grown)
  have R0 := Blk.new w 47 #[.int .i64 0, .int .i64 0, .int .i64 0, .int .i64 0]
  go_enter Tryz.func92, Tryz.ntmps92
  go_wp2_with fail
  refine (l11Test_any g p _ D0.rd (by omega)).mono ?_; rintro e w1 ⟨⟨t0, t1, t2, t3⟩, q, rfl, g1, r1, hq⟩
  have D1 := D0.step g1 r1
  have R1 := D0.blk R0 (Nat.le_refl _) g1
  have hs1 := D1.size
  have hl1 := R1.lt
  have T1 := Blk.new w1 47 #[.int .i64 t0, .int .i64 t1, .int .i64 t2, .int .i64 t3]
  have D2 : Dq w (w1.alloc (.cells #[.int .i64 t0, .int .i64 t1, .int .i64 t2, .int .i64 t3] 47)) g q := D1.next (by go_grown)
  have R2 : Blk (w1.alloc (.cells #[.int .i64 t0, .int .i64 t1, .int .i64 t2, .int .i64 t3] 47)) w.heap.size 47 #[.int .i64 0, .int .i64 0, .int .i64 0, .int .i64 0] := R1.alloc _
  clear D0 R0 g1 r1 D1 R1
  go_wp2_with fail
  refine (pick_any g q 14 _ D2.rd (by omega)).mono ?_; rintro e w2 ⟨k, rfl, a2, b2, g2, r2⟩
  have D3 := D2.step g2 r2
  have R3 := D2.blk R2 (Nat.le_refl _) g2
  have T3 := D2.blk T1 hs1 g2
  have hl3 := T3.lt
  have hs3 := D3.size
  clear D2 R2 T1 g2 r2 b2
  by_cases h0 : k = 0
  · subst h0
    have B3 := Blk.new w2 3 #[.int .i64 0, .int .i64 (-1), .int .i64 5]
    have D4 : Dq w (w2.alloc (.cells #[.int .i64 0, .int .i64 (-1), .int .i64 5] 3)) g (q + 1) := D3.next (by go_grown)
    have R4 := R3.alloc (.cells #[.int .i64 0, .int .i64 (-1), .int .i64 5] 3)
    have T4 := T3.alloc (.cells #[.int .i64 0, .int .i64 (-1), .int .i64 5] 3)
    clear D3 R3 T3
    go_wp2_with fail
    refine (pick_any g (q + 1) 3 _ D4.rd (by omega)).mono ?_; rintro e w3 ⟨j', rfl, a3, b3, g3, r3⟩
    have b3' := b3 (by omega)
    obtain ⟨j, rfl⟩ : ∃ j : Nat, j' = j := ⟨j'.toNat, by omega⟩
    have D5 := D4.step g3 r3
    have R5 := D4.blk R4 (Nat.le_refl _) g3
    have T5 := D4.blk T4 hs1 g3
    have B5 := D4.blk B3 hs3 g3
    obtain ⟨m, hm⟩ : ∃ m : Int, w3.cell? ⟨w2.heap.size, j, none⟩ = some (.int .i64 m) := by
      rw [B5.cell j]
      obtain rfl | rfl | rfl : j = 0 ∨ j = 1 ∨ j = 2 := by omega
      all_goals exact ⟨_, rfl⟩
    have hj : (j : Int) < 3 := by omega
    have fi := T5.frozen 0
    have qi := (show _ = some (Value.int .i64 t0) from T5.cell 0)
    have D := D5.set (a := w1.heap.size) (i := 0) hs1 (.int .i64 m)
    have R : Blk _ w.heap.size _ _ := R5.far (p := ⟨w1.heap.size, 0, none⟩) (by simp; omega) (.int .i64 m)
    have T : Blk _ w1.heap.size _ #[.int .i64 m, .int .i64 t1, .int .i64 t2, .int .i64 t3] := T5.set_ 0 (.int .i64 m)
    clear D4 R4 T4 B3 B5 D5 R5 T5 g3 r3 b3
    have f0 := R.frozen 0; have f1 := R.frozen 1; have f2 := R.frozen 2; have f3 := R.frozen 3
    have z0 := (show _ = some (Value.int .i64 0) from R.cell 0); have z1 := (show _ = some (Value.int .i64 0) from R.cell 1); have z2 := (show _ = some (Value.int .i64 0) from R.cell 2); have z3 := (show _ = some (Value.int .i64 0) from R.cell 3)
    have y0 := (show _ = some (Value.int .i64 m) from T.cell 0); have y1 := (show _ = some (Value.int .i64 t1) from T.cell 1); have y2 := (show _ = some (Value.int .i64 t2) from T.cell 2); have y3 := (show _ = some (Value.int .i64 t3) from T.cell 3)
    go_wp2
    refine bodyPost_ret (v := .agg #[.int .i64 m, .int .i64 t1, .int .i64 t2, .int .i64 t3]) (by simp [results, Tryz.results92, go_sem, z0, z1, z2, z3]) rfl ⟨⟨m, t1, t2, t3⟩, _, rfl, ((((D.set (a := w.heap.size) (i := 0) (Nat.le_refl _) (.int .i64 m)).set (a := w.heap.size) (i := 1) (Nat.le_refl _) (.int .i64 t1)).set (a := w.heap.size) (i := 2) (Nat.le_refl _) (.int .i64 t2)).set (a := w.heap.size) (i := 3) (Nat.le_refl _) (.int .i64 t3)).grown, ((((D.set (a := w.heap.size) (i := 0) (Nat.le_refl _) (.int .i64 m)).set (a := w.heap.size) (i := 1) (Nat.le_refl _) (.int .i64 t1)).set (a := w.heap.size) (i := 2) (Nat.le_refl _) (.int .i64 t2)).set (a := w.heap.size) (i := 3) (Nat.le_refl _) (.int .i64 t3)).rd, by omega⟩
  have d0 : (k == 0) = false := by simp; omega
  by_cases h1 : k = 1
  · subst h1
    have B3 := Blk.new w2 3 #[.int .i64 0, .int .i64 3, .int .i64 4294967296]
    have D4 : Dq w (w2.alloc (.cells #[.int .i64 0, .int .i64 3, .int .i64 4294967296] 3)) g (q + 1) := D3.next (by go_grown)
    have R4 := R3.alloc (.cells #[.int .i64 0, .int .i64 3, .int .i64 4294967296] 3)
    have T4 := T3.alloc (.cells #[.int .i64 0, .int .i64 3, .int .i64 4294967296] 3)
    clear D3 R3 T3
    go_wp2_with fail
    refine (pick_any g (q + 1) 3 _ D4.rd (by omega)).mono ?_; rintro e w3 ⟨j', rfl, a3, b3, g3, r3⟩
    have b3' := b3 (by omega)
    obtain ⟨j, rfl⟩ : ∃ j : Nat, j' = j := ⟨j'.toNat, by omega⟩
    have D5 := D4.step g3 r3
    have R5 := D4.blk R4 (Nat.le_refl _) g3
    have T5 := D4.blk T4 hs1 g3
    have B5 := D4.blk B3 hs3 g3
    obtain ⟨m, hm⟩ : ∃ m : Int, w3.cell? ⟨w2.heap.size, j, none⟩ = some (.int .i64 m) := by
      rw [B5.cell j]
      obtain rfl | rfl | rfl : j = 0 ∨ j = 1 ∨ j = 2 := by omega
      all_goals exact ⟨_, rfl⟩
    have hj : (j : Int) < 3 := by omega
    have fi := T5.frozen 1
    have qi := (show _ = some (Value.int .i64 t1) from T5.cell 1)
    have D := D5.set (a := w1.heap.size) (i := 1) hs1 (.int .i64 m)
    have R : Blk _ w.heap.size _ _ := R5.far (p := ⟨w1.heap.size, 1, none⟩) (by simp; omega) (.int .i64 m)
    have T : Blk _ w1.heap.size _ #[.int .i64 t0, .int .i64 m, .int .i64 t2, .int .i64 t3] := T5.set_ 1 (.int .i64 m)
    clear D4 R4 T4 B3 B5 D5 R5 T5 g3 r3 b3
    have f0 := R.frozen 0; have f1 := R.frozen 1; have f2 := R.frozen 2; have f3 := R.frozen 3
    have z0 := (show _ = some (Value.int .i64 0) from R.cell 0); have z1 := (show _ = some (Value.int .i64 0) from R.cell 1); have z2 := (show _ = some (Value.int .i64 0) from R.cell 2); have z3 := (show _ = some (Value.int .i64 0) from R.cell 3)
    have y0 := (show _ = some (Value.int .i64 t0) from T.cell 0); have y1 := (show _ = some (Value.int .i64 m) from T.cell 1); have y2 := (show _ = some (Value.int .i64 t2) from T.cell 2); have y3 := (show _ = some (Value.int .i64 t3) from T.cell 3)
    go_wp2
    refine bodyPost_ret (v := .agg #[.int .i64 t0, .int .i64 m, .int .i64 t2, .int .i64 t3]) (by simp [results, Tryz.results92, go_sem, z0, z1, z2, z3]) rfl ⟨⟨t0, m, t2, t3⟩, _, rfl, ((((D.set (a := w.heap.size) (i := 0) (Nat.le_refl _) (.int .i64 t0)).set (a := w.heap.size) (i := 1) (Nat.le_refl _) (.int .i64 m)).set (a := w.heap.size) (i := 2) (Nat.le_refl _) (.int .i64 t2)).set (a := w.heap.size) (i := 3) (Nat.le_refl _) (.int .i64 t3)).grown, ((((D.set (a := w.heap.size) (i := 0) (Nat.le_refl _) (.int .i64 t0)).set (a := w.heap.size) (i := 1) (Nat.le_refl _) (.int .i64 m)).set (a := w.heap.size) (i := 2) (Nat.le_refl _) (.int .i64 t2)).set (a := w.heap.size) (i := 3) (Nat.le_refl _) (.int .i64 t3)).rd, by omega⟩
  have d1 : (k == 1) = false := by simp; omega
  by_cases h2 : k = 2
  · subst h2
    have B3 := Blk.new w2 3 #[.int .i64 0, .int .i64 4]
    have D4 : Dq w (w2.alloc (.cells #[.int .i64 0, .int .i64 4] 3)) g (q + 1) := D3.next (by go_grown)
    have R4 := R3.alloc (.cells #[.int .i64 0, .int .i64 4] 3)
    have T4 := T3.alloc (.cells #[.int .i64 0, .int .i64 4] 3)
    clear D3 R3 T3
    go_wp2_with fail
    refine (pick_any g (q + 1) 2 _ D4.rd (by omega)).mono ?_; rintro e w3 ⟨j', rfl, a3, b3, g3, r3⟩
    have b3' := b3 (by omega)
    obtain ⟨j, rfl⟩ : ∃ j : Nat, j' = j := ⟨j'.toNat, by omega⟩
    have D5 := D4.step g3 r3
    have R5 := D4.blk R4 (Nat.le_refl _) g3
    have T5 := D4.blk T4 hs1 g3
    have B5 := D4.blk B3 hs3 g3
    obtain ⟨m, hm⟩ : ∃ m : Int, w3.cell? ⟨w2.heap.size, j, none⟩ = some (.int .i64 m) := by
      rw [B5.cell j]
      obtain rfl | rfl : j = 0 ∨ j = 1 := by omega
      all_goals exact ⟨_, rfl⟩
    have hj : (j : Int) < 2 := by omega
    have fi := T5.frozen 2
    have qi := (show _ = some (Value.int .i64 t2) from T5.cell 2)
    have D := D5.set (a := w1.heap.size) (i := 2) hs1 (.int .i64 m)
    have R : Blk _ w.heap.size _ _ := R5.far (p := ⟨w1.heap.size, 2, none⟩) (by simp; omega) (.int .i64 m)
    have T : Blk _ w1.heap.size _ #[.int .i64 t0, .int .i64 t1, .int .i64 m, .int .i64 t3] := T5.set_ 2 (.int .i64 m)
    clear D4 R4 T4 B3 B5 D5 R5 T5 g3 r3 b3
    have f0 := R.frozen 0; have f1 := R.frozen 1; have f2 := R.frozen 2; have f3 := R.frozen 3
    have z0 := (show _ = some (Value.int .i64 0) from R.cell 0); have z1 := (show _ = some (Value.int .i64 0) from R.cell 1); have z2 := (show _ = some (Value.int .i64 0) from R.cell 2); have z3 := (show _ = some (Value.int .i64 0) from R.cell 3)
    have y0 := (show _ = some (Value.int .i64 t0) from T.cell 0); have y1 := (show _ = some (Value.int .i64 t1) from T.cell 1); have y2 := (show _ = some (Value.int .i64 m) from T.cell 2); have y3 := (show _ = some (Value.int .i64 t3) from T.cell 3)
    go_wp2
    refine bodyPost_ret (v := .agg #[.int .i64 t0, .int .i64 t1, .int .i64 m, .int .i64 t3]) (by simp [results, Tryz.results92, go_sem, z0, z1, z2, z3]) rfl ⟨⟨t0, t1, m, t3⟩, _, rfl, ((((D.set (a := w.heap.size) (i := 0) (Nat.le_refl _) (.int .i64 t0)).set (a := w.heap.size) (i := 1) (Nat.le_refl _) (.int .i64 t1)).set (a := w.heap.size) (i := 2) (Nat.le_refl _) (.int .i64 m)).set (a := w.heap.size) (i := 3) (Nat.le_refl _) (.int .i64 t3)).grown, ((((D.set (a := w.heap.size) (i := 0) (Nat.le_refl _) (.int .i64 t0)).set (a := w.heap.size) (i := 1) (Nat.le_refl _) (.int .i64 t1)).set (a := w.heap.size) (i := 2) (Nat.le_refl _) (.int .i64 m)).set (a := w.heap.size) (i := 3) (Nat.le_refl _) (.int .i64 t3)).rd, by omega⟩
  have d2 : (k == 2) = false := by simp; omega
  by_cases h3 : k = 3
  · subst h3
    have B3 := Blk.new w2 3 #[.int .i64 (-1), .int .i64 4294967296]
    have D4 : Dq w (w2.alloc (.cells #[.int .i64 (-1), .int .i64 4294967296] 3)) g (q + 1) := D3.next (by go_grown)
    have R4 := R3.alloc (.cells #[.int .i64 (-1), .int .i64 4294967296] 3)
    have T4 := T3.alloc (.cells #[.int .i64 (-1), .int .i64 4294967296] 3)
    clear D3 R3 T3
    go_wp2_with fail
    refine (pick_any g (q + 1) 2 _ D4.rd (by omega)).mono ?_; rintro e w3 ⟨j', rfl, a3, b3, g3, r3⟩
    have b3' := b3 (by omega)
    obtain ⟨j, rfl⟩ : ∃ j : Nat, j' = j := ⟨j'.toNat, by omega⟩
    have D5 := D4.step g3 r3
    have R5 := D4.blk R4 (Nat.le_refl _) g3
    have T5 := D4.blk T4 hs1 g3
    have B5 := D4.blk B3 hs3 g3
    obtain ⟨m, hm⟩ : ∃ m : Int, w3.cell? ⟨w2.heap.size, j, none⟩ = some (.int .i64 m) := by
      rw [B5.cell j]
      obtain rfl | rfl : j = 0 ∨ j = 1 := by omega
      all_goals exact ⟨_, rfl⟩
    have hj : (j : Int) < 2 := by omega
    have fi := T5.frozen 3
    have qi := (show _ = some (Value.int .i64 t3) from T5.cell 3)
    have D := D5.set (a := w1.heap.size) (i := 3) hs1 (.int .i64 m)
    have R : Blk _ w.heap.size _ _ := R5.far (p := ⟨w1.heap.size, 3, none⟩) (by simp; omega) (.int .i64 m)
    have T : Blk _ w1.heap.size _ #[.int .i64 t0, .int .i64 t1, .int .i64 t2, .int .i64 m] := T5.set_ 3 (.int .i64 m)
    clear D4 R4 T4 B3 B5 D5 R5 T5 g3 r3 b3
    have f0 := R.frozen 0; have f1 := R.frozen 1; have f2 := R.frozen 2; have f3 := R.frozen 3
    have z0 := (show _ = some (Value.int .i64 0) from R.cell 0); have z1 := (show _ = some (Value.int .i64 0) from R.cell 1); have z2 := (show _ = some (Value.int .i64 0) from R.cell 2); have z3 := (show _ = some (Value.int .i64 0) from R.cell 3)
    have y0 := (show _ = some (Value.int .i64 t0) from T.cell 0); have y1 := (show _ = some (Value.int .i64 t1) from T.cell 1); have y2 := (show _ = some (Value.int .i64 t2) from T.cell 2); have y3 := (show _ = some (Value.int .i64 m) from T.cell 3)
    go_wp2
    refine bodyPost_ret (v := .agg #[.int .i64 t0, .int .i64 t1, .int .i64 t2, .int .i64 m]) (by simp [results, Tryz.results92, go_sem, z0, z1, z2, z3]) rfl ⟨⟨t0, t1, t2, m⟩, _, rfl, ((((D.set (a := w.heap.size) (i := 0) (Nat.le_refl _) (.int .i64 t0)).set (a := w.heap.size) (i := 1) (Nat.le_refl _) (.int .i64 t1)).set (a := w.heap.size) (i := 2) (Nat.le_refl _) (.int .i64 t2)).set (a := w.heap.size) (i := 3) (Nat.le_refl _) (.int .i64 m)).grown, ((((D.set (a := w.heap.size) (i := 0) (Nat.le_refl _) (.int .i64 t0)).set (a := w.heap.size) (i := 1) (Nat.le_refl _) (.int .i64 t1)).set (a := w.heap.size) (i := 2) (Nat.le_refl _) (.int .i64 t2)).set (a := w.heap.size) (i := 3) (Nat.le_refl _) (.int .i64 m)).rd, by omega⟩
  have d3 : (k == 3) = false := by simp; omega
  have D := D3; have R := R3; have T := T3; clear D3 R3 T3
  have f0 := R.frozen 0; have f1 := R.frozen 1; have f2 := R.frozen 2; have f3 := R.frozen 3
  have z0 := (show _ = some (Value.int .i64 0) from R.cell 0); have z1 := (show _ = some (Value.int .i64 0) from R.cell 1); have z2 := (show _ = some (Value.int .i64 0) from R.cell 2); have z3 := (show _ = some (Value.int .i64 0) from R.cell 3)
  have y0 := (show _ = some (Value.int .i64 t0) from T.cell 0); have y1 := (show _ = some (Value.int .i64 t1) from T.cell 1); have y2 := (show _ = some (Value.int .i64 t2) from T.cell 2); have y3 := (show _ = some (Value.int .i64 t3) from T.cell 3)
  go_wp2
  refine bodyPost_ret (v := .agg #[.int .i64 t0, .int .i64 t1, .int .i64 t2, .int .i64 t3]) (by simp [results, Tryz.results92, go_sem, z0, z1, z2, z3]) rfl ⟨⟨t0, t1, t2, t3⟩, _, rfl, ((((D.set (a := w.heap.size) (i := 0) (Nat.le_refl _) (.int .i64 t0)).set (a := w.heap.size) (i := 1) (Nat.le_refl _) (.int .i64 t1)).set (a := w.heap.size) (i := 2) (Nat.le_refl _) (.int .i64 t2)).set (a := w.heap.size) (i := 3) (Nat.le_refl _) (.int .i64 t3)).grown, ((((D.set (a := w.heap.size) (i := 0) (Nat.le_refl _) (.int .i64 t0)).set (a := w.heap.size) (i := 1) (Nat.le_refl _) (.int .i64 t1)).set (a := w.heap.size) (i := 2) (Nat.le_refl _) (.int .i64 t2)).set (a := w.heap.size) (i := 3) (Nat.le_refl _) (.int .i64 t3)).rd, by omega⟩
end Go.Proofs.YtgdelnpielfhkaaGreatDoor

-- spec's draws: writing into a rule of a policy of its own rows.
namespace Go.Proofs.YtgdelnpielfhkaaGreatDoor
open Go.RowKit
set_option linter.unusedSimpArgs false
set_option linter.unusedVariables false

theorem own_setrow {w : World} {base n size g cap : Nat} {e : TypeId} {xs : List Value} (h : w.ownsRow base e size (.slice (some ⟨g, 0, none⟩) n cap) n xs) (i : Nat) (u : Value) : (w.setCell ⟨g, i, none⟩ u).ownsRow base e size (.slice (some ⟨g, 0, none⟩) n cap) n (xs.set i u) := by
  refine ⟨by simpa using h.1, ?_⟩
  rcases h.2 with ⟨hn, _⟩ | ⟨g', cap', cur, hv, hb, hg, h3, h4, h5, h6⟩
  · cases hn
  · cases hv
    refine .inr ⟨g, cap, cur.setIfInBounds i u, rfl, hb, by simp [World.setCell, Array.getElem?_modify, hg], h3, h4, by simpa using h5, ?_⟩
    rw [Array.toList_setIfInBounds, List.take_set, h6]
theorem flatten_set4 : ∀ (css : List (List Value)) (k j : Nat) (u : Value) (c : List Value), (∀ c ∈ css, c.length = 4) → css[k]? = some c → j < 4 → css.flatten.set (k * 4 + j) u = (css.set k (c.set j u)).flatten
  | [], k, j, u, c, _, h, _ => by simp at h
  | x :: xs, 0, j, u, c, hl, h, hj => by
    have e : x = c := by simpa using h
    subst e
    have := hl x (by simp)
    simp only [List.flatten_cons, List.set_cons_zero, Nat.zero_mul, Nat.zero_add]
    rw [List.set_append_left _ _ (by omega)]
  | x :: xs, k + 1, j, u, c, hl, h, hj => by
    have h' : xs[k]? = some c := by simpa using h
    have hx := hl x (by simp)
    have := flatten_set4 xs k j u c (fun c hc => hl c (by simp [hc])) h' hj
    simp only [List.flatten_cons, List.set_cons_succ]
    rw [List.set_append_right _ _ (by omega), show (k + 1) * 4 + j - x.length = k * 4 + j by omega, this]
theorem RulesOwn.set {w : World} {B : Nat} {rs : List Rl} {css : List (List Value)} (h : RulesOwn w B rs css) (k : Nat) {r : Rl} {cs : List Value} (hr : RuleOwn w B r cs) : RulesOwn w B (rs.set k r) (css.set k cs) := by
  refine ⟨by simp [h.1], fun i r' cs' h1 h2 => ?_⟩
  by_cases hi : k = i
  · subst hi
    have l1 : k < rs.length := by have := (List.getElem?_eq_some_iff.1 h1).1; simpa using this
    have l2 : k < css.length := by rw [h.1]; exact l1
    rw [List.getElem?_set_self l1] at h1
    rw [List.getElem?_set_self l2] at h2
    cases h1; cases h2
    exact hr
  · rw [List.getElem?_set_ne hi] at h1
    rw [List.getElem?_set_ne hi] at h2
    exact h.2 i r' cs' h1 h2
/-- One number of one rule is written. -/
theorem rule_put {w : World} {B n g cap k j : Nat} {rs : List Rl} {css : List (List Value)} {c : List Value} (u : Value) (HO : w.ownsRow B 44 4 (.slice (some ⟨g, 0, none⟩) n cap) n css.flatten) (HR : RulesOwn w B rs css) (hc : css[k]? = some c) (hj : j < 4) :
    (w.setCell ⟨g, k * 4 + j, none⟩ u).ownsRow B 44 4 (.slice (some ⟨g, 0, none⟩) n cap) n (css.set k (c.set j u)).flatten ∧
      ∀ r', RuleOwn w B r' (c.set j u) → RulesOwn (w.setCell ⟨g, k * 4 + j, none⟩ u) B (rs.set k r') (css.set k (c.set j u)) := by
  have hk : ∀ (tv : Value) (m : Nat) (xs : List Value), w.ownsRow B 47 4 tv m xs → (w.setCell ⟨g, k * 4 + j, none⟩ u).ownsRow B 47 4 tv m xs := fun tv m xs ht =>
    ownsRow_setCell_other ht (by
      rcases own_apart ht HO (by decide) with h | h
      · rw [h]; intro e; cases e
      · exact h) u
  refine ⟨?_, fun r' hr => (HR.imp hk).set k (let ⟨tv, e, ht⟩ := hr; ⟨tv, e, hk _ _ _ ht⟩)⟩
  rw [← flatten_set4 css k j u c HR.are.rows hc hj]
  exact own_setrow HO _ u
/-- How the world stands while a policy is spoilt. -/
structure Ds (w wr : World) (g q hx : Nat) (els : Int) (rv : Value) (n : Nat) (rs : List Rl) (css : List (List Value)) : Prop where
  dq : Dq w wr g q
  r0 : Blk wr (w.heap.size + 1) 25 #[.slice none 0 0, .int .i64 0]
  x0 : Blk wr hx 25 #[rv, .int .i64 els]
  after : w.heap.size + 1 < hx
  own : wr.ownsRow w.heap.size 44 4 rv n css.flatten
  rules : RulesOwn wr w.heap.size rs css
  len : css.length = n
theorem Ds.step {w wr w1 : World} {g q q' hx n : Nat} {els : Int} {rv : Value} {rs : List Rl} {css : List (List Value)} (h : Ds w wr g q hx els rv n rs css) (hg : wr.grownBy w1 (some g)) (hr : Rd w1 g q') : Ds w w1 g q' hx els rv n rs css :=
  ⟨h.dq.step hg hr, h.dq.blk h.r0 (Nat.le_succ _) hg, h.dq.blk h.x0 (Nat.le_of_lt (Nat.lt_trans (Nat.lt_succ_self _) h.after)) hg, h.after, own_low h.own hg h.dq.lt, h.rules.imp fun tv n xs ho => own_low ho hg h.dq.lt, h.len⟩
theorem Ds.next {w wr w1 : World} {g q hx n : Nat} {els : Int} {rv : Value} {rs : List Rl} {css : List (List Value)} (h : Ds w wr g q hx els rv n rs css) (hb : Below wr.heap.size wr w1) : Ds w w1 g q hx els rv n rs css :=
  ⟨h.dq.next hb, h.r0.below hb h.r0.lt, h.x0.below hb h.x0.lt, h.after, own_below h.own hb, h.rules.imp fun tv n xs ho => own_below ho hb, h.len⟩
/-- What is returned: the policy is read into the result's block. -/
theorem Ds.done {w wr : World} {g q hx n : Nat} {els : Int} {rv : Value} {rs : List Rl} {css : List (List Value)} (h : Ds w wr g q hx els rv n rs css) :
    PolOwn ((wr.setCell ⟨w.heap.size + 1, 0, none⟩ rv).setCell ⟨w.heap.size + 1, 1, none⟩ (.int .i64 els)) w.heap.size ⟨rs, els⟩ (.agg #[rv, .int .i64 els]) ∧ w.grownBy ((wr.setCell ⟨w.heap.size + 1, 0, none⟩ rv).setCell ⟨w.heap.size + 1, 1, none⟩ (.int .i64 els)) (some g) ∧ Rd ((wr.setCell ⟨w.heap.size + 1, 0, none⟩ rv).setCell ⟨w.heap.size + 1, 1, none⟩ (.int .i64 els)) g q := by
  have D := (h.dq.set (a := w.heap.size + 1) (i := 0) (Nat.le_succ _) rv).set (a := w.heap.size + 1) (i := 1) (Nat.le_succ _) (.int .i64 els)
  have R1 := h.r0.set_ 0 rv
  have hk : ∀ (e : TypeId) (tv : Value) (m : Nat) (xs : List Value), wr.ownsRow w.heap.size e 4 tv m xs → 25 ≠ e → ((wr.setCell ⟨w.heap.size + 1, 0, none⟩ rv).setCell ⟨w.heap.size + 1, 1, none⟩ (.int .i64 els)).ownsRow w.heap.size e 4 tv m xs := fun e tv m xs ht hne =>
    ownsRow_setCell_other (ownsRow_setCell_other ht (own_blk_ne ht h.r0 hne) rv) (own_blk_ne ht h.r0 hne) _
  exact ⟨⟨rv, css, rfl, by rw [h.len]; exact hk _ _ _ _ h.own (by decide), h.rules.imp fun tv n xs ho => hk _ _ _ _ ho (by decide)⟩, D.grown, D.rd⟩
/-- One number of one rule is written, in the policy that is spoilt. -/
theorem Ds.put {w wr : World} {g q hx n b cap k j : Nat} {els : Int} {rs : List Rl} {css : List (List Value)} {c : List Value} (h : Ds w wr g q hx els (.slice (some ⟨b, 0, none⟩) n cap) n rs css) (u : Value) (hc : css[k]? = some c) (hj : j < 4) {r' : Rl} (hr : RuleOwn wr w.heap.size r' (c.set j u)) :
    Ds w (wr.setCell ⟨b, k * 4 + j, none⟩ u) g q hx els (.slice (some ⟨b, 0, none⟩) n cap) n (rs.set k r') (css.set k (c.set j u)) := by
  obtain ⟨p1, p2⟩ := rule_put u h.own h.rules hc hj
  have hb := (h.own.lt b rfl).1
  exact ⟨h.dq.set hb u, h.r0.far (p := ⟨b, k * 4 + j, none⟩) (fun e => own_blk_ne h.own h.r0 (by decide) (congrArg some e.symm)) u, h.x0.far (p := ⟨b, k * 4 + j, none⟩) (fun e => own_blk_ne h.own h.x0 (by decide) (congrArg some e.symm)) u, h.after, p1, p2 r' hr, by simpa using h.len⟩
theorem Ds.cell {w wr : World} {g q hx n b cap k : Nat} {els : Int} {rs : List Rl} {css : List (List Value)} {c : List Value} (h : Ds w wr g q hx els (.slice (some ⟨b, 0, none⟩) n cap) n rs css) (hc : css[k]? = some c) (hk : k < n) (j : Nat) (v : Value) (hv : c[j]? = some v) : wr.cell? ⟨b, k * 4 + j, none⟩ = some v := by
  obtain ⟨A, n', c', e, hS⟩ := SlA.of_own h.own h.len h.rules.are.rows
  cases e
  obtain ⟨b', off, e, _, he⟩ := hS.get hk
  cases e
  have := he c hc j v hv
  simpa using this
theorem Ds.frozen {w wr : World} {g q hx n b cap : Nat} {els : Int} {rs : List Rl} {css : List (List Value)} (h : Ds w wr g q hx els (.slice (some ⟨b, 0, none⟩) n cap) n rs css) (i : Nat) : wr.frozen? ⟨b, i, none⟩ = false := by
  rcases h.own.2 with ⟨e, _⟩ | ⟨b', cap', cur, e, _, hg, _⟩
  · cases e
  · cases e
    exact Blk.frozen (show Blk wr b _ cur from hg) i
theorem set_small {rs : List Rl} {k : Nat} {r : Rl} (hl : rs.length ≤ 8) (ht : ∀ r ∈ rs, r.tests.length ≤ 8) (h : r.tests.length ≤ 11) : (rs.set k r).length ≤ 9 ∧ ∀ r' ∈ rs.set k r, r'.tests.length ≤ 11 := by
  refine ⟨by simp; omega, fun r' hr => ?_⟩
  rcases List.mem_or_eq_of_mem_set hr with h1 | rfl
  · have := ht r' h1; omega
  · exact h
/-- The verdict of no rule is written. -/
theorem Ds.els_ {w wr : World} {g q hx n : Nat} {els : Int} {rv : Value} {rs : List Rl} {css : List (List Value)} (h : Ds w wr g q hx els rv n rs css) (m : Int) : Ds w (wr.setCell ⟨hx, 1, none⟩ (.int .i64 m)) g q hx m rv n rs css :=
  ⟨h.dq.set (Nat.le_of_lt (Nat.lt_trans (Nat.lt_succ_self _) h.after)) _, h.r0.far (p := ⟨hx, 1, none⟩) (Nat.ne_of_lt h.after) _, h.x0.set_ 1 _, h.after, ownsRow_setCell_other h.own (own_blk_ne h.own h.x0 (by decide)) _, h.rules.imp fun tv m xs ho => ownsRow_setCell_other ho (own_blk_ne ho h.x0 (by decide)) _, h.len⟩
theorem none_small {rs : List Rl} (hl : rs.length ≤ 8) (ht : ∀ r ∈ rs, r.tests.length ≤ 8) : rs.length ≤ 9 ∧ ∀ r' ∈ rs, r'.tests.length ≤ 11 := ⟨by omega, fun r h => by have := ht r h; omega⟩
end Go.Proofs.YtgdelnpielfhkaaGreatDoor

-- spec's draws: tests appended to a rule, and a rule appended, of a policy that is spoilt; what the two regions that write a drawn number keep.
namespace Go.Proofs.YtgdelnpielfhkaaGreatDoor
open Go.RowKit
set_option linter.unusedSimpArgs false
set_option linter.unusedVariables false

/-- Tests are appended to one rule. -/
theorem Ds.app {w wr w2 : World} {g q hx n b cap k : Nat} {els : Int} {rs : List Rl} {css : List (List Value)} {r : Rl} {tv v2 : Value} {ts : List Ts}
    (h : Ds w wr g q hx els (.slice (some ⟨b, 0, none⟩) n cap) n rs css) (hap : Apart css) (hr : rs[k]? = some r) (hc : css[k]? = some [.int .i64 r.verdict, .int .i64 r.low, .int .i64 r.high, tv])
    (ht : wr.ownsRow w.heap.size 47 4 tv r.tests.length (tsR r.tests).flatten)
    (ho : w2.ownsRow w.heap.size 47 4 v2 (r.tests.length + ts.length) ((tsR r.tests).flatten ++ (tsR ts).flatten)) (hg : wr.grownBy w2 tv.ownBlock) :
    Ds w (w2.setCell ⟨b, k * 4 + 3, none⟩ v2) g q hx els (.slice (some ⟨b, 0, none⟩) n cap) n (rs.set k ⟨r.verdict, r.low, r.high, r.tests ++ ts⟩) (css.set k [.int .i64 r.verdict, .int .i64 r.low, .int .i64 r.high, v2]) := by
  have hb : Below w.heap.size wr w2 := own_gbK ht hg h.dq.size
  have hO2 : w2.ownsRow w.heap.size 44 4 (.slice (some ⟨b, 0, none⟩) n cap) n css.flatten := h.own.kept hg (own_apart h.own ht (by decide))
  have hb0 := (h.own.lt b rfl).1
  have hR2 : Blk w2 (w.heap.size + 1) 25 #[.slice none 0 0, .int .i64 0] := h.r0.grown hg (fun e => own_blk_ne ht h.r0 (by decide) e.symm)
  have hX2 := h.x0.grown hg (fun e => own_blk_ne ht h.x0 (by decide) e.symm)
  have hk : ∀ (tv : Value) (m : Nat) (xs : List Value), w2.ownsRow w.heap.size 47 4 tv m xs → (w2.setCell ⟨b, k * 4 + 3, none⟩ v2).ownsRow w.heap.size 47 4 tv m xs := fun tv m xs ht =>
    ownsRow_setCell_other ht (by
      rcases own_apart ht hO2 (by decide) with h | h
      · rw [h]; intro e; cases e
      · exact h) v2
  refine ⟨(h.dq.app hb (Nat.le_refl _)).set hb0 v2, hR2.far (p := ⟨b, k * 4 + 3, none⟩) (fun e => own_blk_ne h.own h.r0 (by decide) (congrArg some e.symm)) v2, hX2.far (p := ⟨b, k * 4 + 3, none⟩) (fun e => own_blk_ne h.own h.x0 (by decide) (congrArg some e.symm)) v2, h.after, ?_, ?_, by simpa using h.len⟩
  · have := own_setrow hO2 (k * 4 + 3) v2
    rw [flatten_set4 css k 3 v2 _ h.rules.are.rows hc (by omega)] at this
    exact this
  · refine ⟨by simp [h.rules.1], fun i r' cs' h1 h2 => ?_⟩
    by_cases hi : k = i
    · subst hi
      rw [List.getElem?_set_self (List.getElem?_eq_some_iff.1 hr).1] at h1
      rw [List.getElem?_set_self (List.getElem?_eq_some_iff.1 hc).1] at h2
      cases h1; cases h2
      refine ⟨v2, rfl, hk _ _ _ ?_⟩
      simpa [tsR] using ho
    · rw [List.getElem?_set_ne hi] at h1
      rw [List.getElem?_set_ne hi] at h2
      obtain ⟨tv', e, ht'⟩ := h.rules.2 i r' cs' h1 h2
      exact ⟨tv', e, hk _ _ _ (ht'.kept hg (hap i k cs' _ tv' tv h2 hc (fun e => hi e.symm) (by rw [e]; rfl) rfl))⟩
/-- A rule is appended. -/
theorem Ds.more {w wr w2 : World} {g q hx n k : Nat} {els : Int} {rv v2 : Value} {rs : List Rl} {css : List (List Value)} {r : Rl} {c : List Value}
    (h : Ds w wr g q hx els rv n rs css) (hr : rs[k]? = some r) (hc : css[k]? = some c) (ho : w2.ownsRow w.heap.size 44 4 v2 (n + 1) (css ++ [c]).flatten) (hg : wr.grownBy w2 rv.ownBlock) :
    Ds w (w2.setCell ⟨hx, 0, none⟩ v2) g q hx els v2 (n + 1) (rs ++ [r]) (css ++ [c]) := by
  have hb : Below w.heap.size wr w2 := own_gbK h.own hg h.dq.size
  have hR2 : Blk w2 (w.heap.size + 1) 25 #[.slice none 0 0, .int .i64 0] := h.r0.grown hg (fun e => own_blk_ne h.own h.r0 (by decide) e.symm)
  have hX2 := h.x0.grown hg (fun e => own_blk_ne h.own h.x0 (by decide) e.symm)
  have haf := h.after
  have hk : ∀ (tv : Value) (m : Nat) (xs : List Value), wr.ownsRow w.heap.size 47 4 tv m xs → (w2.setCell ⟨hx, 0, none⟩ v2).ownsRow w.heap.size 47 4 tv m xs := fun tv m xs ht =>
    ownsRow_setCell_other (ht.kept hg (own_apart ht h.own (by decide))) (own_blk_ne (ht.kept hg (own_apart ht h.own (by decide))) hX2 (by decide)) v2
  exact ⟨(h.dq.app hb (Nat.le_refl _)).set (a := hx) (i := 0) (by omega) v2, hR2.far (p := ⟨hx, 0, none⟩) (Nat.ne_of_lt h.after) v2, hX2.set_ 0 v2, h.after, ownsRow_setCell_other ho (own_blk_ne ho hX2 (by decide)) v2, (h.rules.imp hk).snoc (let ⟨tv, e, ht⟩ := h.rules.2 k r c hr hc; ⟨tv, e, hk _ _ _ ht⟩), by simp [h.len]⟩

/-- All blocks but two stay. -/
def KeepsBut (b g : Nat) (w w' : World) : Prop := ∀ (x : Nat) (t : TypeId) (cs : Array Value), x ≠ b → x ≠ g → Blk w x t cs → Blk w' x t cs
theorem KeepsBut.refl (b g : Nat) (w : World) : KeepsBut b g w w := fun _ _ _ _ _ h => h
theorem KeepsBut.alloc (b g : Nat) (w : World) (o : Obj) : KeepsBut b g w (w.alloc o) := fun _ _ _ _ _ h => h.alloc o
theorem KeepsBut.grown {b g : Nat} {w w' : World} (h : w.grownBy w' (some g)) : KeepsBut b g w w' := fun _ _ _ _ h2 h3 => h3.grown h (fun e => h2 (by injection e))
theorem KeepsBut.set_ (b g : Nat) (w : World) (i : Nat) (v : Value) : KeepsBut b g w (w.setCell ⟨b, i, none⟩ v) := fun _ _ _ h1 _ h3 => h3.far (p := ⟨b, i, none⟩) h1 v

/-- What a spoilt policy is. -/
def SpoilPost (w : World) (g p : Nat) (e : Ending) (w' : World) : Prop := ∃ (po' : Pol) (v' : Value) (q : Nat), e = .returned v' ∧ PolOwn w' w.heap.size po' v' ∧ w.grownBy w' (some g) ∧ Rd w' g q ∧ q ≤ p + 400 ∧ (po'.rules.length ≤ 9 ∧ ∀ r ∈ po'.rules, r.tests.length ≤ 11)
theorem SpoilPost.mk {w w' : World} {g p q : Nat} {po' : Pol} {v' : Value} (h1 : PolOwn w' w.heap.size po' v') (h2 : w.grownBy w' (some g)) (h3 : Rd w' g q) (h4 : q ≤ p + 400) (h5 : po'.rules.length ≤ 9 ∧ ∀ r ∈ po'.rules, r.tests.length ≤ 11) : SpoilPost w g p (.returned v') w' := ⟨po', v', q, rfl, h1, h2, h3, h4, h5⟩

/-! A drawn one of two numbers is written into a rule. -/
def putT (hx b n c k j g : Nat) (cs : Array Value) : Nat → World → Value → Prop
  | 0, _, u => u = .pointer (some ⟨hx, 0, none⟩)
  | 1, _, u => u = .slice (some ⟨b, 0, none⟩) n c
  | 2, _, u => u = .int .i64 k
  | 3, w, u => ∃ x, u = .slice (some ⟨x, 0, none⟩) 2 2 ∧ x ≠ b ∧ x ≠ g ∧ Blk w x 3 cs
  | 4, _, u => u = .pointer (some ⟨g, 0, none⟩)
  | 5, _, u => ∃ i : Nat, i < 2 ∧ u = .int .i64 i
  | 6, w, u => ∃ x i : Nat, i < 2 ∧ u = .pointer (some ⟨x, i, none⟩) ∧ x ≠ b ∧ x ≠ g ∧ Blk w x 3 cs
  | 7, _, u => ∃ m : Int, u = .int .i64 m
  | 8, _, u => u = .pointer (some ⟨b, k * 4, none⟩)
  | 9, _, u => u = .pointer (some ⟨b, k * 4 + j, none⟩)
  | _, _, _ => True
theorem putT_keep {hx b n c k j g : Nat} {cs : Array Value} (i : Nat) {w w' : World} {u : Value} (h : KeepsBut b g w w') (hT : putT hx b n c k j g cs i w u) : putT hx b n c k j g cs i w' u := by
  match i, hT with
  | 0, hT => exact hT
  | 1, hT => exact hT
  | 2, hT => exact hT
  | 3, ⟨x, h1, h2, h3, h4⟩ => exact ⟨x, h1, h2, h3, h _ _ _ h2 h3 h4⟩
  | 4, hT => exact hT
  | 5, hT => exact hT
  | 6, ⟨x, i, h0, h1, h2, h3, h4⟩ => exact ⟨x, i, h0, h1, h2, h3, h _ _ _ h2 h3 h4⟩
  | 7, hT => exact hT
  | 8, hT => exact hT
  | 9, hT => exact hT
  | (m + 10), _ => exact trivial
/-- One rule is another one in one number. -/
def putI (w : World) (g p hx b n c k j : Nat) (els : Int) (rs : List Rl) (css : List (List Value)) (F : Int → Rl) (C : Int → List Value) (L : Nat → Bool) (w' : World) : Prop :=
  ∃ q, q ≤ p + 4 ∧ (L 5 = false → q = p + 3) ∧ ((L 10 = false → Ds w w' g q hx els (.slice (some ⟨b, 0, none⟩) n c) n rs css) ∧ (L 10 = true → ∃ m, Ds w w' g q hx els (.slice (some ⟨b, 0, none⟩) n c) n (rs.set k (F m)) (css.set k (C m))))
theorem putI.pure {w w' : World} {g p hx b n c k j : Nat} {els : Int} {rs : List Rl} {css : List (List Value)} {F : Int → Rl} {C : Int → List Value} {L : Nat → Bool} {i : Nat} (h : putI w g p hx b n c k j els rs css F C L w') (h5 : i ≠ 5) (h10 : i ≠ 10) : putI w g p hx b n c k j els rs css F C (putL L i) w' := by
  have e5 : putL L i 5 = L 5 := by unfold putL; simp [Ne.symm h5]
  have e10 : putL L i 10 = L 10 := by unfold putL; simp [Ne.symm h10]
  unfold putI
  rw [e5, e10]
  exact h
theorem putI.box {w w' : World} {g p hx b n c k j : Nat} {els : Int} {rs : List Rl} {css : List (List Value)} {F : Int → Rl} {C : Int → List Value} {L : Nat → Bool} (h : putI w g p hx b n c k j els rs css F C L w') : Blk w' hx 25 #[.slice (some ⟨b, 0, none⟩) n c, .int .i64 els] := by
  obtain ⟨q, _, _, h1, h2⟩ := h
  cases e : L 10 with
  | false => exact (h1 e).x0
  | true => obtain ⟨m, h⟩ := h2 e; exact h.x0
theorem putI.next {w w' w2 : World} {g p hx b n c k j : Nat} {els : Int} {rs : List Rl} {css : List (List Value)} {F : Int → Rl} {C : Int → List Value} {L : Nat → Bool} (h : putI w g p hx b n c k j els rs css F C L w') (hb : Below w'.heap.size w' w2) : putI w g p hx b n c k j els rs css F C L w2 := by
  obtain ⟨q, h0, h5, h1, h2⟩ := h
  exact ⟨q, h0, h5, fun e => (h1 e).next hb, fun e => let ⟨m, h⟩ := h2 e; ⟨m, h.next hb⟩⟩
theorem Ds.ltb {w wr : World} {g q hx n b cap : Nat} {els : Int} {rs : List Rl} {css : List (List Value)} (h : Ds w wr g q hx els (.slice (some ⟨b, 0, none⟩) n cap) n rs css) : b < wr.heap.size ∧ g < wr.heap.size := by
  refine ⟨?_, Nat.lt_of_lt_of_le h.dq.lt h.dq.size⟩
  rcases h.own.2 with ⟨e, _⟩ | ⟨b', cap', cur, e, _, hg, _⟩
  · cases e
  · cases e
    exact Blk.lt (show Blk wr b _ cur from hg)
theorem putI.lt {w w' : World} {g p hx b n c k j : Nat} {els : Int} {rs : List Rl} {css : List (List Value)} {F : Int → Rl} {C : Int → List Value} {L : Nat → Bool} (h : putI w g p hx b n c k j els rs css F C L w') : b < w'.heap.size ∧ g < w'.heap.size := by
  obtain ⟨q, _, _, h1, h2⟩ := h
  cases e : L 10 with
  | false => exact (h1 e).ltb
  | true => obtain ⟨m, h⟩ := h2 e; exact h.ltb
/-! Three drawn tests are appended to a rule's. -/
def tstV (t : Ts) : Value := .agg #[.int .i64 t.field, .int .i64 t.mask, .int .i64 t.op, .int .i64 t.value]
def appT (hx b n c k g : Nat) (tv : Value) (W : World → Value → Prop) : Nat → World → Value → Prop
  | 0, _, u => u = .pointer (some ⟨hx, 0, none⟩)
  | 1, _, u => u = .slice (some ⟨b, 0, none⟩) n c
  | 2, _, u => u = .int .i64 k
  | 3, _, u => u = .pointer (some ⟨hx, 0, none⟩)
  | 4, _, u => u = .slice (some ⟨b, 0, none⟩) n c
  | 5, _, u => u = .int .i64 k
  | 6, _, u => u = .pointer (some ⟨b, k * 4, none⟩)
  | 7, _, u => u = .pointer (some ⟨b, k * 4 + 3, none⟩)
  | 8, _, u => u = tv
  | 9, _, u => u = .pointer (some ⟨g, 0, none⟩)
  | 10, _, u => ∃ t, u = tstV t
  | 11, _, u => u = .pointer (some ⟨g, 0, none⟩)
  | 12, _, u => ∃ t, u = tstV t
  | 13, _, u => u = .pointer (some ⟨g, 0, none⟩)
  | 14, _, u => ∃ t, u = tstV t
  | 15, w, u => ∃ (x : Nat) (ts : List Ts), ts.length = 3 ∧ u = .slice (some ⟨x, 0, none⟩) 3 3 ∧ x ≠ b ∧ x ≠ g ∧ Blk w x 47 (tsR ts).flatten.toArray
  | 16, w, u => W w u
  | 17, _, u => u = .pointer (some ⟨b, k * 4, none⟩)
  | 18, _, u => u = .pointer (some ⟨b, k * 4 + 3, none⟩)
  | _, _, _ => True
def appC : Nat → Option Nat
  | 15 => some 16
  | 16 => some 19
  | _ => none
def appR (b g : Nat) (i : Nat) (w w' : World) : Prop := ((i = 10 ∨ i = 12 ∨ i = 14 ∨ i = 15 ∨ i = 19) ∧ KeepsBut b g w w') ∨ i = 16 ∨ w = w'
/-- What is appended, ahead of its being stored. -/
def appW (w : World) (g p hx b n c k : Nat) (els : Int) (rs : List Rl) (css : List (List Value)) (r : Rl) (w' : World) (u : Value) : Prop :=
  ∃ (x m cap q : Nat) (ts : List Ts), u = .slice (some ⟨x, 0, none⟩) m cap ∧ q ≤ p + 300 ∧ ts.length ≤ 3 ∧ (∃ y, w'.cell? ⟨b, k * 4 + 3, none⟩ = some y) ∧ w'.frozen? ⟨b, k * 4 + 3, none⟩ = false ∧
    Ds w (w'.setCell ⟨b, k * 4 + 3, none⟩ u) g q hx els (.slice (some ⟨b, 0, none⟩) n c) n (rs.set k ⟨r.verdict, r.low, r.high, r.tests ++ ts⟩) (css.set k [.int .i64 r.verdict, .int .i64 r.low, .int .i64 r.high, u])
def appI (w : World) (g p hx b n c k : Nat) (els : Int) (rs : List Rl) (css : List (List Value)) (r : Rl) (L : Nat → Bool) (kk : Nat) (w' : World) : Prop :=
  (Blk w' hx 25 #[.slice (some ⟨b, 0, none⟩) n c, .int .i64 els] ∧ b < w'.heap.size ∧ g < w'.heap.size) ∧
  (L 16 = false → ∃ q, q ≤ p + 3 + 13 * kk ∧ Ds w w' g q hx els (.slice (some ⟨b, 0, none⟩) n c) n rs css) ∧
  (L 19 = true → ∃ (q : Nat) (u : Value) (ts : List Ts), q ≤ p + 300 ∧ ts.length ≤ 3 ∧ Ds w w' g q hx els (.slice (some ⟨b, 0, none⟩) n c) n (rs.set k ⟨r.verdict, r.low, r.high, r.tests ++ ts⟩) (css.set k [.int .i64 r.verdict, .int .i64 r.low, .int .i64 r.high, u]))
theorem appI.pure {w w' : World} {g p hx b n c k kk : Nat} {els : Int} {rs : List Rl} {css : List (List Value)} {r : Rl} {L : Nat → Bool} {i : Nat} (h : appI w g p hx b n c k els rs css r L kk w') (h16 : i ≠ 16) (h19 : i ≠ 19) : appI w g p hx b n c k els rs css r (putL L i) (kk + 1) w' := by
  have e16 : putL L i 16 = L 16 := by unfold putL; simp [Ne.symm h16]
  have e19 : putL L i 19 = L 19 := by unfold putL; simp [Ne.symm h19]
  unfold appI
  rw [e16, e19]
  exact ⟨h.1, fun e => let ⟨q, h1, h2⟩ := h.2.1 e; ⟨q, by omega, h2⟩, h.2.2⟩
theorem appT_keep {hx b n c k g : Nat} {tv : Value} {W : World → Value → Prop} (l : List Oper) (hl : waitsG l.toArray l.toArray.size 16 10 = true ∧ waitsG l.toArray l.toArray.size 16 12 = true ∧ waitsG l.toArray l.toArray.size 16 14 = true ∧ waitsG l.toArray l.toArray.size 16 15 = true) (i j : Nat) {w w' : World} {u : Value} (hji : j ≠ i) (hc : appC j ≠ some i) (hw : waitsG l.toArray l.toArray.size j i = false) (hR : appR b g i w w') (hT : appT hx b n c k g tv W j w u) : appT hx b n c k g tv W j w' u := by
  rcases hR with ⟨hi, hR⟩ | rfl | rfl
  · match j, hji, hc, hw, hT with
    | 0, _, _, _, h => exact h
    | 1, _, _, _, h => exact h
    | 2, _, _, _, h => exact h
    | 3, _, _, _, h => exact h
    | 4, _, _, _, h => exact h
    | 5, _, _, _, h => exact h
    | 6, _, _, _, h => exact h
    | 7, _, _, _, h => exact h
    | 8, _, _, _, h => exact h
    | 9, _, _, _, h => exact h
    | 10, _, _, _, h => exact h
    | 11, _, _, _, h => exact h
    | 12, _, _, _, h => exact h
    | 13, _, _, _, h => exact h
    | 14, _, _, _, h => exact h
    | 15, _, _, _, ⟨x, ts, h1, h2, h3, h4, h5⟩ => exact ⟨x, ts, h1, h2, h3, h4, hR _ _ _ h3 h4 h5⟩
    | 16, h1, h2, h3, _ =>
      rcases hi with rfl | rfl | rfl | rfl | rfl
      · exact (Bool.false_ne_true (h3.symm.trans hl.1)).elim
      · exact (Bool.false_ne_true (h3.symm.trans hl.2.1)).elim
      · exact (Bool.false_ne_true (h3.symm.trans hl.2.2.1)).elim
      · exact (Bool.false_ne_true (h3.symm.trans hl.2.2.2)).elim
      · exact absurd rfl h2
    | 17, _, _, _, h => exact h
    | 18, _, _, _, h => exact h
    | (m + 19), _, _, _, _ => exact trivial
  · match j, hji, hc, hw, hT with
    | 0, _, _, _, h => exact h
    | 1, _, _, _, h => exact h
    | 2, _, _, _, h => exact h
    | 3, _, _, _, h => exact h
    | 4, _, _, _, h => exact h
    | 5, _, _, _, h => exact h
    | 6, _, _, _, h => exact h
    | 7, _, _, _, h => exact h
    | 8, _, _, _, h => exact h
    | 9, _, _, _, h => exact h
    | 10, _, _, _, h => exact h
    | 11, _, _, _, h => exact h
    | 12, _, _, _, h => exact h
    | 13, _, _, _, h => exact h
    | 14, _, _, _, h => exact h
    | 15, _, h, _, _ => exact absurd rfl h
    | 16, h, _, _, _ => exact absurd rfl h
    | 17, _, _, _, h => exact h
    | 18, _, _, _, h => exact h
    | (m + 19), _, _, _, _ => exact trivial
  · exact hT
theorem ts_flat3 {ts : List Ts} {m : Nat} (h : ts.length = m) : (tsR ts).flatten.length = m * 4 := by
  subst h
  induction ts with
  | nil => rfl
  | cons t ts ih =>
    simp only [tsR, List.map_cons, List.flatten_cons, List.length_append, List.length_cons] at ih ⊢
    rw [ih]
    simp [Ts.cells]
    omega
theorem blk_news {w : World} {x : Nat} {t : TypeId} {l : List Value} (h : Blk w x t l.toArray) {j : Nat} {u : Value} (hu : l[j]? = some u) : w.cell? ((⟨x, 0, none⟩ : Addr).add j) = some u := by
  rw [add_at, h.cell, List.getElem?_toArray]
  simpa using hu
theorem own_cell {w : World} {base n b cap k j : Nat} {e : TypeId} {css : List (List Value)} (h : w.ownsRow base e 4 (.slice (some ⟨b, 0, none⟩) n cap) n css.flatten) (hs : ∀ r ∈ css, r.length = 4) (hl : css.length = n) (hk : k < n) (hj : j < 4) : ∃ y, w.cell? ⟨b, k * 4 + j, none⟩ = some y := by
  obtain ⟨A, n', c', e, hS⟩ := SlA.of_own h hl hs
  cases e
  obtain ⟨b', off, e, _, he⟩ := hS.get hk
  cases e
  have hkl : k < css.length := by omega
  have h4 := hs _ (List.getElem_mem hkl)
  have := he css[k] (List.getElem?_eq_getElem hkl) j (css[k][j]'(by omega)) (List.getElem?_eq_getElem _)
  exact ⟨_, by simpa using this⟩
theorem own_unfrozen {w : World} {base n b cap : Nat} {e : TypeId} {size : Nat} {xs : List Value} (h : w.ownsRow base e size (.slice (some ⟨b, 0, none⟩) n cap) n xs) (i : Nat) : w.frozen? ⟨b, i, none⟩ = false := by
  rcases h.2 with ⟨e, _⟩ | ⟨b', cap', cur, e, _, hg, _⟩
  · cases e
  · cases e
    exact Blk.frozen (show Blk w b _ cur from hg) i
theorem own_le {w : World} {base n b cap : Nat} {e : TypeId} {size : Nat} {xs : List Value} (h : w.ownsRow base e size (.slice (some ⟨b, 0, none⟩) n cap) n xs) : n ≤ cap := by
  rcases h.2 with ⟨e, _⟩ | ⟨b', cap', cur, e, _, hg, h3, _⟩
  · cases e
  · cases e
    first | exact h3 | omega
theorem app_small {rs : List Rl} {k : Nat} {r : Rl} {ts : List Ts} (hl : rs.length ≤ 8) (ht : ∀ r ∈ rs, r.tests.length ≤ 8) (hr : rs[k]? = some r) (h3 : ts.length ≤ 3) : (rs.set k ⟨r.verdict, r.low, r.high, r.tests ++ ts⟩).length ≤ 9 ∧ ∀ r' ∈ rs.set k ⟨r.verdict, r.low, r.high, r.tests ++ ts⟩, r'.tests.length ≤ 11 :=
  set_small hl ht (by have := ht r (List.mem_of_getElem? hr); show (r.tests ++ ts).length ≤ 11; rw [List.length_append]; omega)
end Go.Proofs.YtgdelnpielfhkaaGreatDoor
