/- impl.CallNear: the near calls of a policy that is ok, but not more than 600. -/
import Derived.Test.YtkiacbfpnidjlaaDoorNearI
import Derived.Test.YtkiacbfpnidjlaaDoorPolK
import Derived.Test.YtkiacbfpnidjlaaDoorMarks
namespace Go.Proofs.YtkiacbfpnidjlaaDoor
open Go.RowKit Go.Shelf
set_option linter.unusedSimpArgs false
set_option linter.unusedVariables false
attribute [local go_sem] Oper.semAt_some

theorem info_Call : (Tryd.prog.info? 42).map (fun i => (i.zero, i.size, i.bytes)) = some (some (.agg #[.int .i64 0, .slice none 0 0]), 2, 32) := by kernel_rfl
theorem own_grownN {W W' : World} {base n size : Nat} {t : TypeId} {v : Value} {xs : List Value} {row : Option Nat} (ho : W.ownsRow base t size v n xs) (hg : W.grownBy W' row) (hne : ∀ r, row = some r → v.ownBlock ≠ some r) : W'.ownsRow base t size v n xs := by
  refine ⟨ho.1, ?_⟩
  rcases ho.2 with h0 | ⟨g, cap, cur, e, hge, hh, rest⟩
  · exact .inl h0
  · refine .inr ⟨g, cap, cur, e, hge, (hg.block g (Array.getElem?_eq_some_iff.1 hh).1 (fun e2 => hne g e2.symm (by rw [e]; rfl))).trans hh, rest⟩
theorem own_typeN {W : World} {base n size r : Nat} {t : TypeId} {v : Value} {xs : List Value} (ho : W.ownsRow base t size v n xs) (hr : ∀ cs fr, W.heap[r]? ≠ some (.cells cs t fr)) : v.ownBlock ≠ some r := by
  rcases ho.2 with ⟨rfl, _⟩ | ⟨g, cap, cur, rfl, _, hh, _⟩
  · intro e; cases e
  · intro e; cases e; exact hr _ _ hh
theorem two_src (W : World) (t : TypeId) (a b : Value) : ∀ (j : Nat) (u : Value), ([a, b])[j]? = some u → (W.alloc (.cells #[a, b] t)).cell? ((⟨W.heap.size, 0, none⟩ : Addr).add j) = some u := fun j u hu => by
  rw [add_at, (Blk.new W t #[a, b]).cell j]
  simpa using hu
/-- A row of calls of the call's own. -/
structure CallsRow (W : World) (base : Nat) (v : Value) (xs : List NItem) : Prop where
  row : W.ownsRow base 42 2 v xs.length (xs.map fun x => [Value.int .i64 x.c.num, x.args]).flatten
  args : ∀ x ∈ xs, x.c.args.length = 4 ∧ W.ownsRow base 3 1 x.args 4 (ints x.c.args).flatten
  up : xs.Pairwise (fun x y => x.g < y.g)
theorem CallsRow.nil (W : World) (base : Nat) : CallsRow W base (.slice none 0 0) [] := ⟨World.ownsRow_nil _ _ _ _, fun x h => by simp at h, .nil⟩
theorem CallsRow.grown {W W' : World} {base : Nat} {v : Value} {xs : List NItem} {row : Option Nat} (h : CallsRow W base v xs) (hg : W.grownBy W' row) (hr : ∀ r, row = some r → ∀ cs fr, W.heap[r]? ≠ some (.cells cs 42 fr) ∧ W.heap[r]? ≠ some (.cells cs 3 fr)) : CallsRow W' base v xs :=
  ⟨own_grownN h.row hg (fun r e => own_typeN h.row (fun cs fr => (hr r e cs fr).1)), fun x hx => ⟨(h.args x hx).1, own_grownN (h.args x hx).2 hg (fun r e => own_typeN (h.args x hx).2 (fun cs fr => (hr r e cs fr).2))⟩, h.up⟩
theorem CallsRow.lt {W : World} {base : Nat} {v : Value} {xs : List NItem} (h : CallsRow W base v xs) {x : NItem} (hx : x ∈ xs) : x.g < W.heap.size := ((h.args x hx).2.lt x.g rfl).2

def NearPost (p : Pol) (w : World) (e : Ending) (w' : World) : Prop := ∃ v xs, e = .returned v ∧ CallsRow w' w.heap.size v xs ∧ (polOkB p = true → NearIs (nearWs p.rules) 600 (xs.map NItem.c)) ∧ (polOkB p = false → xs = []) ∧ Below w.heap.size w w'

/-- What a round has gathered. -/
structure NearG (w : World) (cb : Nat) (pre : List NItem) (W : World) : Prop where
  box : ∃ v, Blk W cb 26 #[v] ∧ CallsRow W w.heap.size v pre
  below : Below w.heap.size w W
  few : pre.length ≤ 600
theorem NearG.own {w : World} {cb B : Nat} (hcb : w.heap.size ≤ cb) (hB : w.heap.size ≤ B) : OwnM B 101 (NearG w cb) := fun s W W' row hs hg hr => by
  obtain ⟨⟨v, hb, hv⟩, hbl, hf⟩ := hs
  refine ⟨⟨v, hb.grown hg (fun e => ?_), hv.grown hg (fun r e cs fr => ?_)⟩, hbl.grown hg hbl.size (fun r e => ?_), hf⟩
  · rcases hr cb e.symm with ⟨_, cs, fr, h⟩ | ⟨_, o, h, hc⟩
    · have := hb.symm.trans h; cases this
    · have := hb.symm.trans h; cases this; cases hc
  · rcases hr r e with ⟨_, cs', fr', h⟩ | ⟨_, o, h, hc⟩
    · rw [h]
      refine ⟨fun e2 => ?_, fun e2 => ?_⟩ <;> cases e2
    · rw [h]
      refine ⟨fun e2 => ?_, fun e2 => ?_⟩ <;> (cases e2; cases hc)
  · rcases hr r e with ⟨h, _⟩ | ⟨h, _⟩ <;> omega
theorem CallsRow.app {base : Nat} {W W2 : World} {v v2 : Value} {xs : List NItem} {x : NItem} (h : CallsRow W base v xs) (hl : x.c.args.length = 4) (hx : W.ownsRow base 3 1 x.args 4 (ints x.c.args).flatten) (hup : ∀ y ∈ xs, y.g < x.g) (hg : W.grownBy W2 v.ownBlock)
    (ho : W2.ownsRow base 42 2 v2 (xs.length + 1) ((xs.map fun x => [Value.int .i64 x.c.num, x.args]).flatten ++ [.int .i64 x.c.num, x.args])) : CallsRow W2 base v2 (xs ++ [x]) := by
  have hk : ∀ (v3 : Value) (n : Nat) (ys : List Value), W.ownsRow base 3 1 v3 n ys → W2.ownsRow base 3 1 v3 n ys := fun v3 n ys h3 => own_grownN h3 hg (fun r e => by
    rcases h.row.2 with ⟨rfl, _⟩ | ⟨g, cap, cur, rfl, _, hh, _⟩
    · cases e
    · cases e
      exact own_typeN h3 (fun cs fr e2 => by rw [hh] at e2; cases e2))
  refine ⟨by simpa using ho, fun y hy => ?_, ?_⟩
  · rcases List.mem_append.1 hy with hy | hy
    · exact ⟨(h.args y hy).1, hk _ _ _ (h.args y hy).2⟩
    · rw [List.mem_singleton] at hy; subst hy; exact ⟨hl, hk _ _ _ hx⟩
  · rw [List.pairwise_append]
    exact ⟨h.up, by simp, fun a ha b hb => by rw [List.mem_singleton] at hb; subst hb; exact hup a ha⟩
theorem polOk_rulesN {p : Pol} (h : polOkB p = true) : ∀ r ∈ p.rules, ruleOkB r = true := by
  unfold polOkB polShapeB at h
  simp only [Bool.and_eq_true] at h
  exact List.all_eq_true.1 h.1.2
theorem polOk_bounds {p : Pol} (hok : polOkB p = true) : p.rules.length ≤ 8 ∧ (∀ r ∈ p.rules, r.tests.length ≤ 4) ∧ ∀ r ∈ p.rules, (0 ≤ r.low ∧ r.low ≤ 4294967295) ∧ (0 ≤ r.high ∧ r.high ≤ 4294967295) ∧ ∀ t ∈ r.tests, 0 ≤ t.value ∧ t.value ≤ 4294967295 := by
  have hro := polOk_rulesN hok
  have h8 : p.rules.length ≤ 8 := by
    unfold polOkB polShapeB at hok
    simp only [Bool.and_eq_true, decide_eq_true_eq] at hok
    exact hok.1.1.1
  refine ⟨h8, fun r hr => ?_, fun r hr => ?_⟩
  all_goals
    have h := hro r hr
    unfold ruleOkB at h
    simp only [Bool.and_eq_true, decide_eq_true_eq] at h
  · exact h.1.2
  · obtain ⟨⟨⟨⟨h1, h2⟩, h3⟩, h4⟩, h5⟩ := h
    unfold inB at h2 h3
    simp only [Bool.and_eq_true, decide_eq_true_eq] at h2 h3
    refine ⟨⟨by omega, by omega⟩, ⟨by omega, by omega⟩, fun t ht => ?_⟩
    have := List.all_eq_true.1 h5 t ht
    unfold testOkB inB at this
    simp only [Bool.and_eq_true, decide_eq_true_eq] at this
    omega

set_option maxRecDepth 100000 in
set_option maxHeartbeats 8000000 in
theorem CallNear_ok (p : Pol) (v : Value) (w : World) (hP : PolIs w p v) (hpw : Pow w) (hok : polOkB p = true) :
    Calls Tryd.prog 9 #[v] w (NearPost p w) := by
  have HOK := Lib.hid hok
  obtain ⟨hn8, ht4, hbd⟩ := polOk_bounds hok
  have HP := Lib.hid hP
  obtain ⟨rv, css, rfl, ⟨A, n, c, rfl, hSA⟩, hR⟩ := hP
  obtain ⟨W1, hW1⟩ : ∃ W1, W1 = w.alloc (.cells #[.slice A n c, .int .i64 p.els] 30) := ⟨_, rfl⟩
  have hb1 : Below w.heap.size w W1 := by rw [hW1]; go_grown
  have K1 : Blk W1 w.heap.size 30 #[.slice A n c, .int .i64 p.els] := by rw [hW1]; exact Blk.new w _ _
  have y0 : W1.cell? ⟨w.heap.size, 0, none⟩ = some (.slice A n c) := K1.cell 0
  have y1 : W1.cell? ⟨w.heap.size, 1, none⟩ = some (.int .i64 p.els) := K1.cell 1
  have HW := Lib.hid hW1; have HB1 := Lib.hid hb1; have HK1 := Lib.hid K1; have HPW := Lib.hid hpw; have HN8 := Lib.hid hn8; have HT4 := Lib.hid ht4; have HBD := Lib.hid hbd
  clear hW1 hb1 K1 hpw hn8 ht4 hbd hSA hR hok
  refine (callsIn_wide (n := 9)).1 ?_
  refine callsIn_of_wp_marks Tryd.func9 rfl trivial ?_ rfl
  simp only [Tryd.ntmps9, List.size_toArray, List.length_cons, List.length_nil, Nat.reduceAdd, Nat.reduceSub, Array.replicate_succ, Array.replicate_zero, List.push_toArray, List.append_toArray, List.nil_append, List.cons_append]
  gi_wp2_with fail
  refine ⟨trivial, ?_⟩
  rw [← HW.out]
  refine (callsIn_wide.2 (iPolicyOk_any p _ _ (HP.out.below HB1.out) (HPW.out.below HB1.out))).mono ?_; rintro e w2 ⟨rfl, hb2⟩
  rw [HOK.out]
  have K2 := HK1.out.below hb2 HK1.out.lt
  have P2 := HP.out.below (below_then HB1.out hb2)
  have hbw2 := below_then HB1.out hb2
  obtain ⟨W3, hW3⟩ : ∃ W3, W3 = w2.alloc (.cells #[.slice none 0 0] 26) := ⟨_, rfl⟩
  have hb3 : Below w2.heap.size w2 W3 := by rw [hW3]; go_grown
  have hz3 : W3.heap.size = w2.heap.size + 1 := by rw [hW3]; simp
  have hsw : w.heap.size ≤ w2.heap.size := hbw2.size
  have C3 : Blk W3 w2.heap.size 26 #[.slice none 0 0] := by rw [hW3]; exact Blk.new w2 _ _
  have K3 := K2.below hb3 K2.lt
  have P3 := P2.below hb3
  have hbw3 := below_then hbw2 hb3
  have z0 : W3.cell? ⟨w.heap.size, 0, none⟩ = some (.slice A n c) := K3.cell 0
  have z1 : W3.cell? ⟨w.heap.size, 1, none⟩ = some (.int .i64 p.els) := K3.cell 1
  have HW3 := Lib.hid hW3
  clear hW3 y0 y1
  gi_upto_region 4 with (fail)
  rw [← HW3.out]
  gi_wp2_with fail
  refine ⟨trivial, ?_⟩
  refine (callsIn_wide.2 (nearCalls_any (.slice A n c) p.els _)).mono ?_; rintro e w4 ⟨rfl, hw4⟩
  have hb4 : Below W3.heap.size W3 w4 := by rw [hw4]; go_grown
  have B4 : Blk w4 W3.heap.size 30 #[.slice A n c, .int .i64 p.els] := by rw [hw4]; exact Blk.new W3 _ _
  have hz4 : w4.heap.size = W3.heap.size + 1 := by rw [hw4]; simp
  have P4 := P3.below hb4
  have C4 := C3.below hb4 C3.lt
  have hbw4 := below_then hbw3 hb4
  have HP4 := Lib.hid P4; have HB4 := Lib.hid B4; have HC4 := Lib.hid C4; have HBW4 := Lib.hid hbw4; have HSW := Lib.hid hsw
  have HZ4 := Lib.hid (show w4.heap.size = w2.heap.size + 2 by rw [hz4, hz3])
  clear hw4 z0 z1 hb2 hb3 hb4 K2 K3 P2 P3 C3 hbw3 hbw2 P4 B4 C4 hbw4 hsw hz3 hz4
  gi_wp2_with fail
  obtain ⟨i0, hi0, hi1, hi2, hi3⟩ := info_parts info_Call
  refine wpIn_rangeFunc_mem (F := Fence.wide) rfl (by omega) (gf := 67) (lb := #[.pointer (some ⟨W3.heap.size, 0, none⟩)]) rfl trivial (enters_of Tryd.func67 (by kernel_rfl) rfl)
    (near_seq 8 (by omega) p A n c W3.heap.size w4 HB4.out HP4.out HN8.out HT4.out HBD.out) (fun h k => h.trans k) (fun B W l o o' h hc => KeepN.putObj W l o o' h hc)
    (fun W0 x W l o o' h hc hR => ⟨hR.1, own_grownN hR.2 (grownBy_putObj' W l o') (fun r e => by cases e; exact own_typeN hR.2 (fun cs fr e2 => by rw [h] at e2; cases e2; cases hc))⟩)
    (fun B W W' hg => ⟨hg.size, fun k cs t fr _ _ ho => (hg.block k (Array.getElem?_eq_some_iff.1 ho).1 (by simp)).trans ho⟩)
    (fun W0 x W W' hg hR => ⟨hR.1, own_grownN hR.2 hg (fun r e => by cases e)⟩) (Below.refl _ _) (fun _ => rfl)
    (NearG w w2.heap.size) (fun c' pre W => c' = .exit 0 ∧ ∃ (p' : List NItem) (x : NItem), pre = p' ++ [x] ∧ p'.length = 600 ∧ NearG w w2.heap.size p' W)
    (NearG.own HSW.out HBW4.out.size)
    (fun c' s W W' row hs hg hr => by
      obtain ⟨rfl, p', x, rfl, h6, hI⟩ := hs
      exact ⟨rfl, p', x, rfl, h6, NearG.own HSW.out HBW4.out.size p' W W' row hI hg hr⟩)
    ⟨⟨_, HC4.out, CallsRow.nil _ _⟩, HBW4.out, by simp⟩
    (fun x a W => ∃ b, Blk W b 42 #[.int .i64 x.c.num, x.args] ∧ a = { tmps := #[.agg #[.slice A n c, .int .i64 p.els], .pointer (some ⟨w.heap.size, 0, none⟩), .slice none 0 0, .pointer (some ⟨w2.heap.size, 0, none⟩), .pointer (some ⟨b, 0, none⟩), .agg #[.slice A n c, .int .i64 p.els], .bool true, .bool false, .agg #[.slice A n c, .int .i64 p.els], .func (.func 67) #[] #[.pointer (some ⟨W3.heap.size, 0, none⟩)], .agg #[.int .i64 x.c.num, x.args], undef, undef, undef, undef, undef, undef, undef, undef], defers := [] })
    (fun x a W l o o' h hc ⟨b, hb, e⟩ => ⟨b, hb.grown (grownBy_putObj' W l o') (fun e2 => by cases e2; have := hb.symm.trans h; cases this; cases hc), e⟩) ?assign ?body ?done ?stop
  case assign =>
    rintro l ⟨⟨num, args⟩, g, cap⟩ W K hK
    dsimp only [NItem.enc, NItem.args]
    gi_wp2
    exact hK _ _ (World.grownBy_alloc W _ _) ⟨W.heap.size, Blk.new W _ _, rfl⟩
  case body =>
    rintro l pre ⟨⟨num, args⟩, g, cap⟩ a' W0 W hI0 hIW hsz ⟨hal, hao⟩ ⟨b, hbk, rfl⟩ hlen
    obtain ⟨⟨v, hcb, hrow⟩, hbl, hfew⟩ := hIW
    dsimp only [NItem.args] at hbk hao hal ⊢
    obtain ⟨A5, n5, c5, rfl, hS5⟩ := SlA.of_own hrow.row (by simp) (fun r hr => by obtain ⟨x, _, rfl⟩ := List.mem_map.1 hr; rfl)
    have hn5 : n5 = pre.length := by have := hS5.len; simp at this; omega
    subst hn5
    have c0 : W.cell? ⟨w2.heap.size, 0, none⟩ = some (.slice A5 pre.length c5) := hcb.cell 0
    have cf : W.frozen? ⟨w2.heap.size, 0, none⟩ = false := hcb.frozen 0
    have b0 : W.cell? ⟨b, 0, none⟩ = some (.int .i64 num) := hbk.cell 0
    have b1 : W.cell? ⟨b, 1, none⟩ = some (.slice (some ⟨g, 0, none⟩) 4 cap) := hbk.cell 1
    have hcl := hcb.lt
    by_cases h6 : pre.length = 600
    · have h6' : ((pre.length : Int) == 600) = true := by simp [h6]
      gi_wp2
      exact ⟨KeepsFrom.refl _ _, rfl, pre, _, rfl, h6, ⟨_, hcb, hrow⟩, hbl, hfew⟩
    · have h6' : ((pre.length : Int) == 600) = false := by simp; omega
      have hsw := hbl.size
      gi_wp2_with (gi_at_builtin; refine wpListIn_append_own _ rfl (.tmp 14) (.tmp 16) _ rfl w.heap.size 42 i0 _ 2 32 Tryd.underlying26 hi0 hi1 hi2 hi3 rfl (by decide) (.slice A5 pre.length c5) pre.length _ rfl (hrow.row.alloc _) ⟨W.heap.size, 0, none⟩ 1 1 [.int .i64 num, .slice (some ⟨g, 0, none⟩) 4 cap] rfl rfl (two_src W _ _ _) (by simp [Value.oneCell']) (by unfold maxLen; omega) (by omega) (by simp; omega) ?_; intro v6 w6 own6 hg6 _; obtain ⟨g6, cap6, rfl, hg6', hg6''⟩ := own6.form (by omega); have C6 : Blk w6 w2.heap.size 26 #[.slice A5 pre.length c5] := (hcb.alloc _).grown hg6 (fun e => own_ne_blk_some hrow.row hcb (by decide) e.symm); have y1 := (show _ = some (Value.slice A5 pre.length c5) from C6.cell 0); have y2 := C6.frozen 0)
      have G1 : W.grownBy w6 (Value.slice A5 pre.length c5).ownBlock := (World.grownBy_alloc W _ _).trans hg6
      have hz4 := HZ4.out
      have hcells : ∀ (j : Nat) (o : Obj), (Value.slice A5 pre.length c5).ownBlock = some j → W.heap[j]? = some o → ∃ cs fr, o = .cells cs 42 fr := fun j o e ho => by
        rcases hrow.row.2 with ⟨e1, _⟩ | ⟨g', cap', cur, e1, _, hh, _⟩
        · rw [e1] at e; cases e
        · rw [e1] at e; cases e; rw [hh] at ho; cases ho; exact ⟨_, _, rfl⟩
      refine ⟨((KeepsOthers.of_grownBy G1 (fun j o e ho => by obtain ⟨cs, fr, rfl⟩ := hcells j o e ho; rfl)).trans (KeepsOthers.of_grownBy (grown_set w6 w2.heap.size 0 _) (fun j o e ho => by cases e; have := C6.symm.trans ho; cases this; rfl))).from _, ⟨?_, fun k cs t fr hk ht ho => ?_⟩, ⟨⟨_, by simpa using C6.set_ 0 (.slice (some ⟨g6, 0, none⟩) (pre.length + 1) cap6), ?_⟩, ?_, by simp; omega⟩⟩
      · exact Nat.le_trans G1.size (grown_set w6 w2.heap.size 0 _).size
      · have hlt := (Array.getElem?_eq_some_iff.1 ho).1
        have h1 := (G1.block k hlt (fun e => by obtain ⟨cs', fr', e2⟩ := hcells k _ e.symm ho; cases e2; exact ht rfl)).trans ho
        exact ((grown_set w6 w2.heap.size 0 _).block k (Array.getElem?_eq_some_iff.1 h1).1 (by simp; omega)).trans h1
      · refine (CallsRow.app hrow hal (own_base hao hI0.below.size) (fun y hy => ?_) G1 own6).grown (grown_set w6 w2.heap.size 0 _) (fun r e cs fr => by cases e; exact ⟨fun e2 => (by have := C6.symm.trans e2; cases this), fun e2 => (by have := C6.symm.trans e2; cases this)⟩)
        obtain ⟨v0, _, hrow0⟩ := hI0.box
        have h1 := hrow0.lt hy
        have h2 := (hao.lt g rfl).1
        show y.g < g
        omega
      · exact (hbl.grown G1 hbl.size (fun k e => (hrow.row.lt k e).1)).setCell (p := ⟨w2.heap.size, 0, none⟩) (by show w.heap.size ≤ w2.heap.size; exact HSW.out) _
  case done =>
    rintro D xs W hD ⟨m, hS1, hS2, hS3⟩ ⟨⟨v, hcb, hrow⟩, hbl, hfew⟩ hmark
    have hne : D ≠ w2.heap.size := fun e => by subst e; have := hcb.symm.trans hmark; cases this
    have hm : m ≤ 600 := by
      rcases m with _ | m'
      · omega
      · obtain ⟨us, hus⟩ := Option.ne_none_iff_exists'.1 (hS2 m' (Nat.lt_succ_self _))
        have h1 := (callsTo_len hus).2
        rw [← hS1, List.length_map] at h1
        omega
    have HM := Lib.hid (show NearIs (nearWs p.rules) 600 (xs.map NItem.c) from ⟨m, hS1, hS2, by
      rcases Nat.lt_or_ge m 600 with h | h
      · exact .inr ⟨h, hS3⟩
      · exact .inl (by omega)⟩)
    obtain ⟨A5, n5, c5, rfl, hS5⟩ := SlA.of_own hrow.row (by simp) (fun r hr => by obtain ⟨x, _, rfl⟩ := List.mem_map.1 hr; rfl)
    have c0 : W.cell? ⟨w2.heap.size, 0, none⟩ = some (.slice A5 n5 c5) := hcb.cell 0
    have HR := Lib.hid hrow; have HBL := Lib.hid hbl; have HMK := Lib.hid hmark; have HD := Lib.hid hD
    clear hrow hbl hmark hcb hS1 hS2 hS3 hm hfew hD hne
    gi_wp2
    have MK := (Marks.nil W w.heap.size).cons (D := D) (Nat.le_trans HBW4.out.size HD.out) HMK.out (by simp)
    refine leaves_marks (by simp) [D] W MK ?_
    refine ⟨.slice A5 n5 c5, by simp [results, Tryd.results9, go_sem], _, xs, rfl, HR.out.grown (grownBy_putObj' W D _) (fun r e cs fr => by cases e; exact ⟨fun e2 => (by rw [HMK.out] at e2; cases e2), fun e2 => (by rw [HMK.out] at e2; cases e2)⟩), fun _ => HM.out, fun h => (by rw [HOK.out] at h; cases h), HBL.out.trans (shut_below [D] W MK)⟩
  case stop =>
    rintro D c' pre W hD ⟨m, hS1, hS2⟩ ⟨rfl, p', x, rfl, h6, ⟨⟨v, hcb, hrow⟩, hbl, hfew⟩⟩ hmark
    have HM := Lib.hid (show NearIs (nearWs p.rules) 600 (p'.map NItem.c) from by
      rcases m with _ | m'
      · simp [callsTo] at hS1
      · obtain ⟨us, hus⟩ := Option.ne_none_iff_exists'.1 (hS2 m' (Nat.lt_succ_self _))
        have h1 := (callsTo_len hus).2
        rw [← hS1, List.length_map, List.length_append, h6] at h1
        have hm6 : m' = 600 := by simp at h1; omega
        rw [List.map_append, callsTo_some hus] at hS1
        have h2 := (List.append_inj' hS1 rfl).1
        exact ⟨m', h2, fun j hj => hS2 j (by omega), .inl hm6⟩)
    clear hS1 hS2
    obtain ⟨A5, n5, c5, rfl, hS5⟩ := SlA.of_own hrow.row (by simp) (fun r hr => by obtain ⟨x, _, rfl⟩ := List.mem_map.1 hr; rfl)
    have c0 : W.cell? ⟨w2.heap.size, 0, none⟩ = some (.slice A5 n5 c5) := hcb.cell 0
    have HR := Lib.hid hrow; have HBL := Lib.hid hbl; have HMK := Lib.hid hmark; have HD := Lib.hid hD
    clear hrow hbl hmark hcb hfew hD h6
    gi_wp2
    have MK := (Marks.nil W w.heap.size).cons (D := D) (Nat.le_trans HBW4.out.size HD.out) HMK.out (by simp)
    refine leaves_marks (by simp) [D] W MK ?_
    refine ⟨.slice A5 n5 c5, by simp [results, Tryd.results9, go_sem], _, p', rfl, HR.out.grown (grownBy_putObj' W D _) (fun r e cs fr => by cases e; exact ⟨fun e2 => (by rw [HMK.out] at e2; cases e2), fun e2 => (by rw [HMK.out] at e2; cases e2)⟩), fun _ => HM.out, fun h => (by rw [HOK.out] at h; cases h), HBL.out.trans (shut_below [D] W MK)⟩
theorem CallNear_no (p : Pol) (v : Value) (w : World) (hP : PolIs w p v) (hpw : Pow w) (hok : polOkB p = false) :
    Calls Tryd.prog 9 #[v] w (NearPost p w) := by
  have HP := Lib.hid hP
  obtain ⟨rv, css, rfl, ⟨A, n, c, rfl, hSA⟩, hR⟩ := hP
  have hb0 : Below w.heap.size w (w.alloc (.cells #[.slice A n c, .int .i64 p.els] 30)) := by go_grown
  have HPW := Lib.hid hpw; have HOK := Lib.hid hok
  clear hSA hR hpw hok
  refine (callsIn_wide (n := 9)).1 ?_
  refine callsIn_of_wp_marks Tryd.func9 rfl trivial ?_ rfl
  simp only [Tryd.ntmps9, List.size_toArray, List.length_cons, List.length_nil, Nat.reduceAdd, Nat.reduceSub, Array.replicate_succ, Array.replicate_zero, List.push_toArray, List.append_toArray, List.nil_append, List.cons_append]
  gi_wp2_with fail
  refine ⟨trivial, ?_⟩
  refine (callsIn_wide.2 (iPolicyOk_any p _ _ (HP.out.below hb0) (HPW.out.below hb0))).mono ?_; rintro e w2 ⟨rfl, hb1⟩
  rw [HOK.out]
  have HB := Lib.hid (below_then hb0 hb1)
  clear hb0 hb1
  gi_wp2
  refine leaves_marks (by simp) [] w2 (Marks.nil _ w.heap.size) ?_
  exact ⟨.slice none 0 0, by simp [results, Tryd.results9, go_sem], _, [], rfl, CallsRow.nil _ _, fun h => (by rw [HOK.out] at h; cases h), fun _ => rfl, HB.out⟩
theorem iCallNear_any (p : Pol) (v : Value) (w : World) (hP : PolIs w p v) (hpw : Pow w) : Calls Tryd.prog 9 #[v] w (NearPost p w) := by
  cases h : polOkB p with
  | true => exact CallNear_ok p v w hP hpw h
  | false => exact CallNear_no p v w hP hpw h
end Go.Proofs.YtkiacbfpnidjlaaDoor
