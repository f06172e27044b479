/- impl.nearCalls: an iterator over the near calls, for whatever body. -/
import Derived.Test.YtkiacbfpnidjlaaGreatDoorNearWI
import Derived.Test.YtkiacbfpnidjlaaGreatDoorRangeM
import Derived.StillTailTactics
import Derived.OwnWalkIn
namespace Go.Proofs.YtkiacbfpnidjlaaGreatDoor
open Go.RowKit
set_option linter.unusedSimpArgs false
set_option linter.unusedVariables false

theorem nearCalls_any (rv : Value) (els : Int) (w : World) :
    Calls Tryz.prog 19 #[.agg #[rv, .int .i64 els]] w fun e w' =>
      e = .returned (.func (.func 35) #[] #[.pointer (some ⟨w.heap.size, 0, none⟩)]) ∧ w' = w.alloc (.cells #[rv, .int .i64 els] 33) := by
  go_enter Tryz.func19, Tryz.ntmps19
  go_wp2
  go_ret
  exact ⟨rfl, rfl⟩

/-- A call that is handed out: its block, its arguments' block. -/
structure NItem where
  c : Cl
  g : Nat
  cap : Nat
def NItem.args (x : NItem) : Value := .slice (some ⟨x.g, 0, none⟩) 4 x.cap
def NItem.enc (x : NItem) : Array Value := #[.agg #[.int .i64 x.c.num, x.args]]
def NItem.R (W0 : World) (x : NItem) (W : World) : Prop := x.c.args.length = 4 ∧ W.ownsRow W0.heap.size 3 1 x.args 4 (ints x.c.args).flatten
/-- What a round keeps: blocks of cells from B on, but for rows of calls. -/
structure KeepN (B : Nat) (W W' : World) : Prop where
  size : W.heap.size ≤ W'.heap.size
  same : ∀ (k : Nat) (cs : Array Value) (t : TypeId) (fr : Nat × Nat), B ≤ k → t ≠ 28 → W.heap[k]? = some (.cells cs t fr) → W'.heap[k]? = some (.cells cs t fr)
theorem KeepN.trans {B : Nat} {X Y Z : World} (h : KeepN B X Y) (h' : KeepN B Y Z) : KeepN B X Z := ⟨Nat.le_trans h.size h'.size, fun k cs t fr hk ht ho => h'.same k cs t fr hk ht (h.same k cs t fr hk ht ho)⟩
theorem KeepN.putObj {B : Nat} (W : World) (l : Nat) (o o' : Obj) (h : W.heap[l]? = some o) (hc : o.isCells = false) : KeepN B W (W.putObj l o') :=
  ⟨by simp [World.putObj], fun k cs t fr _ _ hp => by
    rw [World.putObj_heap_other (fun e => by subst e; rw [h] at hp; cases hp; cases hc)]; exact hp⟩
theorem KeepN.own {B base n size : Nat} {t : TypeId} {v : Value} {xs : List Value} {W W' : World} (h : KeepN B W W') (ht : t ≠ 28) (hb : B ≤ base) (ho : W.ownsRow base t size v n xs) : W'.ownsRow base t size v n xs := by
  refine ⟨ho.1, ?_⟩
  rcases ho.2 with h0 | ⟨g, cap, cur, e, hge, hg, rest⟩
  · exact .inl h0
  · exact .inr ⟨g, cap, cur, e, hge, h.same g cur t _ (by omega) ht hg, rest⟩
theorem KeepN.blk {B k : Nat} {t : TypeId} {cs : Array Value} {W W' : World} (h : KeepN B W W') (ht : t ≠ 28) (hb : B ≤ k) (ho : Blk W k t cs) : Blk W' k t cs := h.same k cs t _ hb ht ho

/-- All calls so far, and no further one, or one behind which no other was asked for. -/
def NearS (ws : List (List Int)) (xs : List NItem) : Prop := ∃ m, xs.map NItem.c = callsTo ws m ∧ (∀ j < m, ctrAt (lensOf ws) j ≠ none) ∧ ctrAt (lensOf ws) m = none
def NearSp (ws : List (List Int)) (xs : List NItem) : Prop := ∃ m, xs.map NItem.c = callsTo ws m ∧ ∀ j < m, ctrAt (lensOf ws) j ≠ none

theorem nearWs_get (rs : List Rl) {f : Nat} (h : f < 5) : (nearWs rs)[f]? = some (nearW rs f) := by
  rcases f with _ | _ | _ | _ | _ | f <;> first | rfl | omega
/-- The words' rows, as far as they are laid. -/
def WordsAt (W : World) (b base : Nat) (ws : List (List Int)) (f : Nat) : Prop := ∃ vs : List Value, vs.length = 5 ∧ Blk W b 71 vs.toArray ∧ ∀ (j : Nat) (l : List Int), j < f → ws[j]? = some l → ∃ v, vs[j]? = some v ∧ W.ownsRow base 3 1 v l.length (ints l).flatten
theorem WordsAt.below {W W' : World} {b base f : Nat} {ws : List (List Int)} (h : WordsAt W b base ws f) (hb : Below W.heap.size W W') : WordsAt W' b base ws f := by
  obtain ⟨vs, h1, h2, h3⟩ := h
  exact ⟨vs, h1, h2.below hb h2.lt, fun j l hj hl => by obtain ⟨v, h4, h5⟩ := h3 j l hj hl; exact ⟨v, h4, own_below h5 hb⟩⟩
theorem WordsAt.keep {W W' : World} {B b base f : Nat} {ws : List (List Int)} (h : WordsAt W b base ws f) (hk : KeepN B W W') (hb : B ≤ b) (hs : B ≤ base) : WordsAt W' b base ws f := by
  obtain ⟨vs, h1, h2, h3⟩ := h
  exact ⟨vs, h1, hk.blk (by decide) hb h2, fun j l hj hl => by obtain ⟨v, h4, h5⟩ := h3 j l hj hl; exact ⟨v, h4, hk.own (by decide) hs h5⟩⟩
theorem grown_drewN (w : World) (n : Nat) (r : Option Nat) : w.grownBy (w.drewN n) r := ⟨rfl, rfl, rfl, Nat.le_refl _, fun _ _ _ => rfl⟩
theorem WordsAt.setBa {W : World} {b base f k : Nat} {ws : List (List Int)} (h : WordsAt W b base ws f) (hk : b < k) (hks : ∀ (v : Value) (n : Nat) (xs : List Value), W.ownsRow base 3 1 v n xs → v.ownBlock ≠ some k) (nq i : Nat) (u : Value) : WordsAt ((W.drewN nq).setCell ⟨k, i, none⟩ u) b base ws f := by
  obtain ⟨vs, h1, h2, h3⟩ := h
  exact ⟨vs, h1, (h2.drewN nq).far (by show b ≠ k; omega) u, fun j l hj hl => by
    obtain ⟨v, h4, h5⟩ := h3 j l hj hl
    exact ⟨v, h4, ownsRow_setCell_other (a := ⟨k, i, none⟩) (w := W.drewN nq) h5 (fun e => hks v _ _ h5 (by rw [e])) u⟩⟩
theorem args_next (ws : List (List Int)) (us : List Nat) {f : Nat} (h1 : 1 ≤ f) (h4 : f ≤ 4) : ints ((callAt ws us).args.take (f - 1)) ++ [[.int .i64 (wordAt2 ws us f)]] = ints ((callAt ws us).args.take f) := by
  rcases f with _ | _ | _ | _ | _ | f <;> first | omega | rfl
theorem args_len (ws : List (List Int)) (us : List Nat) {f : Nat} (h4 : f ≤ 4) : ((callAt ws us).args.take f).length = f := by
  rw [List.length_take]; simp [callAt]; omega
theorem lens_get {ws : List (List Int)} {f : Nat} {l : List Int} (h : ws[f]? = some l) : ((lensOf ws)[f]?).getD 0 = l.length := by simp [lensOf, h]
theorem words_at {W : World} {b base : Nat} {ws : List (List Int)} {us : List Nat} (h : WordsAt W b base ws 5) (hc : Ctr (lensOf ws) us) {f : Nat} (hf : f < 5) :
    ∃ g n cap u, W.cell? ⟨b, f, none⟩ = some (.slice (some ⟨g, 0, none⟩) n cap) ∧ n ≤ cap ∧ cap ≤ 9223372036854775807 ∧ u < n ∧ us[f]? = some u ∧ ((lensOf ws)[f]?).getD 0 = n ∧ g < W.heap.size ∧ W.cell? ⟨g, u, none⟩ = some (.int .i64 (wordAt2 ws us f)) := by
  obtain ⟨vs, hv, hb, hr⟩ := h
  have hl5 : ws.length = 5 := by have := hc.l5; rwa [lensOf, List.length_map] at this
  obtain ⟨l, hl⟩ : ∃ l, ws[f]? = some l := ⟨_, List.getElem?_eq_getElem (by omega)⟩
  obtain ⟨u, hu⟩ : ∃ u, us[f]? = some u := ⟨_, List.getElem?_eq_getElem (by rw [hc.a5]; exact hf)⟩
  have hlt := hc.lt f hf
  rw [lens_get hl, hu, Option.getD_some] at hlt
  obtain ⟨v, hvf, ho⟩ := hr f l hf hl
  rcases ho.2 with ⟨rfl, h0⟩ | ⟨g, cap, cur, rfl, hge, hg, hmc, hm, hcs, ht⟩
  · omega
  · unfold maxLen at hm
    have hx := own_int ho (List.getElem?_eq_getElem hlt)
    refine ⟨g, l.length, cap, u, ?_, hmc, by omega, hlt, hu, lens_get hl, (Array.getElem?_eq_some_iff.1 hg).1, ?_⟩
    · rw [hb.cell f]; simpa using hvf
    · rw [hx.1]
      simp [wordAt2, hl, hu, List.getElem?_eq_getElem hlt]

set_option maxRecDepth 100000 in
set_option maxHeartbeats 8000000 in
theorem near_seq (n : Nat) (hn : 1 ≤ n) (p : Pol) (A : Option Addr) (pn pc : Nat) (pb : Nat) (w : World) (hB : Blk w pb 33 #[.slice A pn pc, .int .i64 p.els]) (hP : PolIs w p (.agg #[.slice A pn pc, .int .i64 p.els])) (hn8 : p.rules.length ≤ 8) (ht4 : ∀ r ∈ p.rules, r.tests.length ≤ 4) (hbd : ∀ r ∈ p.rules, (0 ≤ r.low ∧ r.low ≤ 4294967295) ∧ (0 ≤ r.high ∧ r.high ≤ 4294967295) ∧ ∀ t ∈ r.tests, 0 ≤ t.value ∧ t.value ≤ 4294967295) :
    SeqM Fence.wide n Tryz.prog 35 #[.pointer (some ⟨pb, 0, none⟩)] NItem.enc NItem.R KeepN (NearS (nearWs p.rules)) (NearSp (nearWs p.rules)) (rem5 (lensOf (nearWs p.rules)) [0, 0, 0, 0, 0] + 1) 72 w := fun l J Jx W hW hJ hJx hY h0 => by
  have hlt := hB.lt
  have B0 := hB.below hW hlt
  have P0 := hP.below hW
  have hWs := hW.size
  have hlw := B0.lt
  obtain ⟨ws, hws⟩ : ∃ ws, ws = nearWs p.rules := ⟨_, rfl⟩
  rw [← hws] at hY ⊢
  obtain ⟨W1, hW1⟩ : ∃ W1, W1 = W.alloc (.cells #[.slice none 0 0, .slice none 0 0, .slice none 0 0, .slice none 0 0, .slice none 0 0] 71) := ⟨_, rfl⟩
  have hz1 : W1.heap.size = W.heap.size + 1 := by rw [hW1]; simp
  have hb1 : Below W.heap.size W W1 := by rw [hW1]; go_grown
  have HWA : Hid (WordsAt W1 W.heap.size W1.heap.size ws 0) := Lib.hid ⟨[.slice none 0 0, .slice none 0 0, .slice none 0 0, .slice none 0 0, .slice none 0 0], rfl, by rw [hW1]; exact Blk.new W _ _, fun j l hj => absurd hj (by omega)⟩
  have HY := Lib.hid hY; have HJ := Lib.hid hJ; have HJX := Lib.hid hJx; have H0 := Lib.hid h0; have HB0 := Lib.hid B0; have HP0 := Lib.hid P0; have HWS := Lib.hid hws; have HW1 := Lib.hid hW1; have HZ1 := Lib.hid hz1; have HB1 := Lib.hid hb1
  have HN8 := Lib.hid hn8; have HT4 := Lib.hid ht4; have HBD := Lib.hid hbd
  clear hY hJ hJx h0 B0 P0 hB hP hws hW1 hz1 hb1 hn8 ht4 hbd hW hWs hlt
  refine callsIn_of_wp Tryz.func35 rfl trivial ?_ rfl
  simp only [Tryz.ntmps35, List.size_toArray, List.length_cons, List.length_nil, Nat.reduceAdd, Nat.reduceSub, Array.replicate_succ, Array.replicate_zero, List.push_toArray, List.append_toArray, List.nil_append, List.cons_append]
  refine wpIn_wide.2 ?_
  go_upto_region 1 with (fail)
  rw [← HW1.out]
  go_wp2
  go_loopw [9] (fun i wr => ∃ f : Nat, f ≤ 5 ∧ i = .int .i64 f ∧ Hid (WordsAt wr W.heap.size W1.heap.size ws f) ∧ Hid (Below W.heap.size W wr)) (fun i _ => 5 - (intOf i).toNat)
  case atStart => exact ⟨0, by omega, rfl, HWA, HB1⟩
  case round =>
    clear HWA
    obtain ⟨f, hf, rfl, HWA, HBW⟩ := hrel
    by_cases hlt : f < 5
    · have hfi : (f : Int) < 5 := by omega
      have HWL := Lib.hid hlw
      have y0 := (HBW.out.cell (p := ⟨pb, 0, none⟩) hlw).trans (show _ = some (Value.slice A pn pc) from HB0.out.cell 0)
      have y1 := (HBW.out.cell (p := ⟨pb, 1, none⟩) hlw).trans (show _ = some (Value.int .i64 p.els) from HB0.out.cell 1)
      have HLT := Lib.hid hlt
      clear hlt
      go_wp2_with fail
      refine (nearWords_any p f _ _ (HP0.out.below HBW.out) HN8.out HT4.out HBD.out).mono ?_; rintro e w2 ⟨v, rfl, own2, hb2⟩
      obtain ⟨A2, c2, rfl⟩ := own_slN own2
      have HWA2 := Lib.hid HWA.out; clear HWA
      obtain ⟨vs, hv5, hblk, hrows⟩ := HWA2.out
      have hbl := hblk.lt
      have hblk2 := hblk.below hb2 hbl
      obtain ⟨old, hold⟩ := hblk2.some_ (i := f) (by simp [hv5]; exact HLT.out)
      have hfz := hblk2.frozen f
      have HO2 := Lib.hid own2; have HB2 := Lib.hid hb2; have HRW := Lib.hid hrows; have HK2 := Lib.hid hblk2; have HV5 := Lib.hid hv5
      clear own2 hb2 hrows hblk2 hblk y0 y1
      go_wp2
      refine ⟨⟨f + 1, HLT.out, by go_num, Lib.hid ?_, Lib.hid ?_⟩, by simp [intOf]; have := HLT.out; omega⟩
      · have hbw := HBW.out.size
        have hz := HZ1.out
        refine ⟨vs.set f (.slice A2 (nearW p.rules f).length c2), by simp [HV5.out], ?_, fun j l hj hl => ?_⟩
        · have := HK2.out.set_ f (.slice A2 (nearW p.rules f).length c2)
          simpa using this
        · by_cases e : j = f
          · subst e
            rw [HWS.out, nearWs_get _ HLT.out] at hl
            cases hl
            exact ⟨_, List.getElem?_set_self (by rw [HV5.out]; exact HLT.out), ownsRow_setCell_below (own_base HO2.out (by have := HWL.out; have := HBW.out.size; omega)) (by show W.heap.size < _; omega) _⟩
          · obtain ⟨v, hv, ho⟩ := HRW.out j l (by omega) hl
            exact ⟨v, by rw [List.getElem?_set_ne (fun h => e h.symm)]; exact hv, ownsRow_setCell_below (own_below ho HB2.out) (by show W.heap.size < _; omega) _⟩
      · exact ((HBW.out.trans (HB2.out.mono HBW.out.size))).setCell (Nat.le_refl _) _
    · obtain rfl : f = 5 := by omega
      rw [show ((5 : Nat) : Int) = 5 from rfl]
      obtain ⟨W5, hW5⟩ : ∃ W5, W5 = wr.alloc (.cells #[.int .i64 0, .int .i64 0, .int .i64 0, .int .i64 0, .int .i64 0] 72) := ⟨_, rfl⟩
      have hb5 : Below wr.heap.size wr W5 := by rw [hW5]; go_grown
      have HW5 := Lib.hid hW5; have HB5 := Lib.hid hb5
      clear hW5 hb5
      go_wp2
      rw [← HW5.out]
      obtain ⟨Ba, hBa⟩ : ∃ b, b = wr.heap.size := ⟨_, rfl⟩
      rw [← hBa]
      have hzB : W.heap.size < Ba := by rw [hBa]; have := HBW.out.size; obtain ⟨vs, _, hb, _⟩ := HWA.out; exact hb.lt
      have HBA : Hid (Blk W5 Ba 72 (nRow [0, 0, 0, 0, 0])) := Lib.hid (by rw [HW5.out, hBa]; exact Blk.new wr _ _)
      have HWA5 : Hid (WordsAt W5 W.heap.size W1.heap.size ws 5) := Lib.hid (by
        obtain ⟨vs, h1, h2, h3⟩ := HWA.out
        exact ⟨vs, h1, h2.below HB5.out h2.lt, fun j l hj hl => by obtain ⟨v, h4, h5⟩ := h3 j l hj hl; exact ⟨v, h4, own_below h5 HB5.out⟩⟩)
      have HBW5 := Lib.hid (show Below W.heap.size W W5 from below_then HBW.out HB5.out)
      have HJ5 : Hid (J [] W5) := Lib.hid (HJ.out [] W W5 none H0.out (grown_of_below HBW5.out none) (fun r e => by cases e))
      have HC0 : Hid (Ctr (lensOf ws) [0, 0, 0, 0, 0]) := Lib.hid (Ctr.start (by rw [HWS.out]; rfl) (fun l hl => by
        rw [HWS.out] at hl
        simp only [lensOf, nearWs, List.map_cons, List.map_nil, List.mem_cons, List.not_mem_nil, or_false] at hl
        rcases hl with rfl | rfl | rfl | rfl | rfl <;> exact (WordsOf.near _ _).pos))
      clear HWA HBW HB5 HW5 hBa HP0 HN8 HT4 HBD HB0 H0 HB1 HW1
      go_loopg [7] (rem5 (lensOf ws) [0, 0, 0, 0, 0]) (fun g (_ : Value) wq => ∃ (m : Nat) (us : List Nat) (xs : List NItem), Hid (ctrAt (lensOf ws) m = some us) ∧ Hid (rem5 (lensOf ws) us ≤ g ∧ rem5 (lensOf ws) us + m = rem5 (lensOf ws) [0, 0, 0, 0, 0]) ∧ Hid (xs.map NItem.c = callsTo ws m) ∧ Hid (J xs wq) ∧ Hid (Ctr (lensOf ws) us) ∧ Hid (Blk wq Ba 72 (nRow us)) ∧ Hid (WordsAt wq W.heap.size W1.heap.size ws 5) ∧ Hid (W1.heap.size ≤ wq.heap.size))
      case atStart => exact ⟨0, [0, 0, 0, 0, 0], [], Lib.hid rfl, Lib.hid ⟨Nat.le_refl _, rfl⟩, Lib.hid rfl, HJ5, HC0, HBA, HWA5, Lib.hid (by rw [HZ1.out]; have := HBA.out.lt; omega)⟩
      case round =>
        clear HBA HWA5 HBW5 HJ5 HC0
        obtain ⟨m, us, xs, HM, HR, HXS, HJX5, HC, HBA, HWA, HSZ⟩ := hrel
        obtain ⟨WQ, hwq⟩ : ∃ W, W = wr := ⟨_, rfl⟩
        rw [← hwq] at HJX5 HBA HWA HSZ ⊢
        clear hwq
        obtain ⟨g0, n0, k0, u0, q0, q1, q2, q3, q4, q5, q6, q7⟩ := words_at HWA.out HC.out (f := 0) (by omega)
        have a0 : WQ.cell? ⟨Ba, 0, none⟩ = some (.int .i64 (u0 : Int)) := nRow_cell HBA.out q4
        have q3' : (u0 : Int) < n0 := by omega
        obtain ⟨x0, hx0⟩ : ∃ x, x = wordAt2 ws us 0 := ⟨_, rfl⟩
        rw [← hx0] at q7
        have HX0 := Lib.hid hx0
        obtain ⟨Wc, hWc⟩ : ∃ Wc, Wc = WQ.alloc (.cells #[.int .i64 x0, .slice none 0 0] 28) := ⟨_, rfl⟩
        have hKc : Hid (Blk Wc WQ.heap.size 28 #[.int .i64 x0, .slice none 0 0]) := Lib.hid (by rw [hWc]; exact Blk.new WQ _ _)
        have hbc : Hid (Below WQ.heap.size WQ Wc) := Lib.hid (by rw [hWc]; go_grown)
        have HWc := Lib.hid hWc
        clear hx0 hWc q4 q5 q6
        go_upto_region 8 with (fail)
        rw [← HWc.out]
        clear q0 q1 q2 q3 q7 a0 q3'
        obtain ⟨cb, hcb⟩ : ∃ b, b = WQ.heap.size := ⟨_, rfl⟩
        rw [← hcb] at hKc hbc ⊢
        have HCB := Lib.hid hcb
        clear hcb
        go_wp2
        go_loopw [7] (fun i w3 => ∃ (f : Nat) (av : Value), 1 ≤ f ∧ f ≤ 5 ∧ i = .int .i64 f ∧ Hid (Blk w3 cb 28 #[.int .i64 x0, av]) ∧ Hid (w3.ownsRow (cb + 1) 3 1 av (f - 1) (ints ((callAt ws us).args.take (f - 1))).flatten) ∧ Hid (Below cb WQ w3)) (fun i _ => 5 - (intOf i).toNat)
        case atStart => exact ⟨1, _, by omega, by omega, rfl, hKc, Lib.hid (World.ownsRow_nil _ _ _ _), hbc⟩
        case round =>
          clear hKc hbc HWc
          obtain ⟨f, av, h1f, hf5, rfl, HKC, HAV, HB3⟩ := hrel
          have HSZ2 := Lib.hid HSZ.out
          by_cases hlt : f < 5
          · have hfi : (f : Int) ≤ 4 := by omega
            have hfi2 : (f : Int) < 5 := by omega
            have hbb : Below WQ.heap.size WQ wr := by rw [← HCB.out]; exact HB3.out
            obtain ⟨g0, n0, k0, u0, q0, q1, q2, q3, q4, q5, q6, q7⟩ := words_at (HWA.out.below hbb) HC.out hlt
            have a0 : wr.cell? ⟨Ba, f, none⟩ = some (.int .i64 (u0 : Int)) := nRow_cell (HBA.out.below hbb HBA.out.lt) q4
            have q3' : (u0 : Int) < n0 := by omega
            obtain ⟨x1, hx1⟩ : ∃ x, x = wordAt2 ws us f := ⟨_, rfl⟩
            rw [← hx1] at q7
            have HX1 := Lib.hid hx1
            obtain ⟨A5, n5, c5, rfl, -⟩ := SlA.of_own HAV.out (by rw [ints_len]; exact args_len ws us (by omega)) (ints_rows _)
            have p0 : wr.cell? ⟨cb, 0, none⟩ = some (.int .i64 x0) := HKC.out.cell 0
            have p1 : wr.cell? ⟨cb, 1, none⟩ = some (.slice A5 n5 c5) := HKC.out.cell 1
            have hcl : cb + 1 ≤ wr.heap.size := HKC.out.lt
            have hl0 : cb < wr.heap.size := HKC.out.lt
            have hl1 : Ba < wr.heap.size := (HBA.out.below hbb HBA.out.lt).lt
            have hl2 : W.heap.size < wr.heap.size := by omega
            have HLT := Lib.hid hlt; have HBB := Lib.hid hbb; have HF1 := Lib.hid h1f
            have hl4 : f - 1 ≤ 4 := by omega
            clear hx1 hlt hbb q4 q5
            go_wp2_with fail
            go_region_law (refine step_app0g (w0 := wr.drew) rfl (.tmp 30) (.tmp 39) _ rfl (cb + 1) 3 Tryz.underlying26 info_int rfl (by omega) (by omega) (.slice A5 n5 c5) (f - 1) (ints ((callAt ws us).args.take (f - 1))) rfl HAV.out rfl (by simp [Value.oneCell']) rfl (by omega) (by exact hcl) ?_; intro v2 w6 hown2 hg2 _; obtain ⟨g2, cap2, rfl, hg2', hg2''⟩ := hown2.form (by omega); have K6 : Blk w6 cb 28 #[.int .i64 x0, .slice A5 n5 c5] := Blk.grown (w := wr.drew) HKC.out hg2 (fun e => own_ne_blk_some (w := wr.drew) HAV.out HKC.out (by decide) e.symm); have y1 : w6.cell? ⟨cb, 1, none⟩ = some (.slice A5 n5 c5) := K6.cell 1; have y2 := K6.frozen 1)
            all_goals go_wp2
            all_goals
              have ef : f - 1 + 1 = f := by have := HF1.out; omega
              have HO2 : w6.ownsRow (cb + 1) 3 1 (.slice (some ⟨g2, 0, none⟩) f cap2) f (ints ((callAt ws us).args.take f)).flatten := by
                rw [← args_next ws us HF1.out (by omega), ← HX1.out]
                rw [ef] at hown2
                exact hown2
              refine ⟨⟨f + 1, .slice (some ⟨g2, 0, none⟩) f cap2, by omega, HLT.out, by go_num, Lib.hid ?_, Lib.hid ?_, Lib.hid ?_⟩, by simp [intOf]; have := HLT.out; omega⟩
              · have := K6.set_ 1 (.slice (some ⟨g2, 0, none⟩) f cap2)
                simpa using this
              · exact ownsRow_setCell_below HO2 (by show cb < cb + 1; omega) _
              · exact ((HB3.out.drew).trans ((own_gbN (w := wr.drew) HAV.out hg2 hcl).mono (by omega))).setCell (Nat.le_refl _) _
          · obtain rfl : f = 5 := by omega
            rw [show ((5 : Nat) : Int) = 5 from rfl]
            have hbb : Below WQ.heap.size WQ wr := by rw [← HCB.out]; exact HB3.out
            have hav : wr.ownsRow (cb + 1) 3 1 av 4 (ints (callAt ws us).args).flatten := HAV.out
            obtain ⟨gA, cA, rfl, hgA, hgA'⟩ : ∃ gA cA, av = .slice (some ⟨gA, 0, none⟩) 4 cA ∧ cb + 1 ≤ gA ∧ gA < wr.heap.size := by
              obtain ⟨gA, cA, e, h1, h2⟩ := hav.form (by omega)
              exact ⟨gA, cA, e, h1, h2⟩
            have p0 : wr.cell? ⟨cb, 0, none⟩ = some (.int .i64 x0) := HKC.out.cell 0
            have p1 : wr.cell? ⟨cb, 1, none⟩ = some (.slice (some ⟨gA, 0, none⟩) 4 cA) := HKC.out.cell 1
            have HBB := Lib.hid hbb
            have HJ6 : Hid (J xs wr) := Lib.hid (HJ.out xs WQ wr none HJX5.out (grown_of_below hbb none) (fun r e => by cases e))
            have hR : NItem.R WQ ⟨callAt ws us, gA, cA⟩ wr := ⟨rfl, own_base hav (by rw [← HCB.out]; omega)⟩
            have hlen : xs.length < rem5 (lensOf ws) [0, 0, 0, 0, 0] + 1 := by
              have h1 := (callsTo_len HM.out).1
              rw [← HXS.out, List.length_map] at h1
              have := HR.out.2
              omega
            obtain ⟨f1, t1, a1, b1, hy1, hR1⟩ := HY.out xs ⟨callAt ws us, gA, cA⟩ WQ wr HJX5.out HJ6.out hbb.size hR hlen
            dsimp only [NItem.enc, NItem.args] at hy1
            rw [show (callAt ws us).num = x0 from HX0.out.symm] at hy1
            clear hR hlen hbb hav
            go_upto_region 12 with (fail)
            refine (wpIn_wide (n := n)).1 ?_
            gi_wp2_with fail
            refine hR1.mono ?_
            rintro e W6 (⟨rfl, hJ6, hk6⟩ | ⟨rfl, hx6⟩)
            · have hz1 := HZ1.out
              have hk6' := (show KeepN W.heap.size wr W6 from hk6)
              have HWA6 := Lib.hid ((HWA.out.below HBB.out).keep hk6' (Nat.le_refl _) (by omega))
              have HBA6 := Lib.hid (hk6'.blk (by decide) (by omega) (HBA.out.below HBB.out HBA.out.lt))
              have HJ7 := Lib.hid hJ6
              have HBA6' := Lib.hid (show W6.heap[Ba]? = some (.cells (nRow us) 72 (0, 0)) from HBA6.out)
              have HXS7 : Hid ((xs ++ [(⟨callAt ws us, gA, cA⟩ : NItem)]).map NItem.c = callsTo ws (m + 1)) := Lib.hid (by rw [List.map_append, HXS.out, callsTo_some HM.out]; rfl)
              have HS6 : Hid (W1.heap.size ≤ W6.heap.size) := Lib.hid (Nat.le_trans (Nat.le_trans HSZ.out HBB.out.size) hk6'.size)
              obtain ⟨ys, hys⟩ : ∃ ys, ys = xs ++ [(⟨callAt ws us, gA, cA⟩ : NItem)] := ⟨_, rfl⟩
              rw [← hys] at HJ7 HXS7
              clear hys hz1 hk6 hk6' hJ6 hR1 hy1 HKC HAV HB3 HJ6 HBB p0 p1 hgA hgA' HX0 HCB HSZ2 HBA HWA HSZ HXS HJX5
              gi_wp2_with fail
              go_wp2
              go_loopw [8] (fun i w3 => ∃ (k : Nat) (vs : List Nat), k ≤ 5 ∧ i = .int .i64 ((k : Int) - 1) ∧ Hid (vs.length = 5) ∧ Hid (∀ j, j < k → vs[j]? = us[j]?) ∧ Hid (odo (lensOf ws) us 5 = odo (lensOf ws) vs k) ∧ Hid (Blk w3 Ba 72 (nRow vs)) ∧ Hid (W6.grownBy w3 (some Ba)) ∧ Hid (WordsAt w3 W.heap.size W1.heap.size ws 5)) (fun i _ => (intOf i + 1).toNat)
              case atStart => exact ⟨5, us, by omega, rfl, Lib.hid HC.out.a5, Lib.hid (fun _ _ => rfl), Lib.hid rfl, HBA6, Lib.hid (World.grownBy.refl _ _), HWA6⟩
              case round =>
                clear HBA6 HWA6
                obtain ⟨k, vs, hk5, rfl, HV5, HVU, HOD, HBA, HG, HWA⟩ := hrel
                rcases k with _ | f
                · rw [show ((0 : Nat) : Int) - 1 = -1 from rfl]
                  have hd : decide ((0 : Int) ≤ -1) = false := rfl
                  go_wp2_with fail
                  go_quiet ((fail))
                  go_wp2
                  refine bodyPost_ret (results_none rfl _ _ _) rfl ?_
                  have hn : ctrAt (lensOf ws) (m + 1) = none := by
                    show (ctrAt (lensOf ws) m).bind _ = none
                    rw [HM.out]
                    exact HOD.out
                  refine ⟨⟨_, rfl⟩, .inl ⟨ys, ⟨m + 1, HXS7.out, fun j hj h => ?_, hn⟩, ?_⟩⟩
                  · obtain ⟨bs, hb⟩ := ctrAt_back HM.out (show j ≤ m by omega)
                    rw [h] at hb; cases hb
                  · exact HJ.out ys W6 _ (some Ba) HJ7.out (HG.out.trans (grown_drewN _ _ _)) (fun r e => by cases e; exact ⟨by omega, _, _, HBA6'.out⟩)
                · rw [show ((f + 1 : Nat) : Int) - 1 = f from by omega]
                  have hf5 : f < 5 := by omega
                  have hfi : (f : Int) < 5 := by omega
                  have hW7 : W6.heap.size ≤ wr.heap.size := HG.out.size
                  obtain ⟨u, hu⟩ : ∃ u, vs[f]? = some u := ⟨_, List.getElem?_eq_getElem (by rw [HV5.out]; exact hf5)⟩
                  have huu : us[f]? = some u := by rw [← HVU.out f (by omega)]; exact hu
                  obtain ⟨g1, n1, k1, u1, q0, q1, q2, q3, q4, q5, q6, q7⟩ := words_at HWA.out HC.out hf5
                  rw [huu] at q4; cases q4
                  have hub : (u : Int) < n1 := by omega
                  have hub2 : (u : Int) + 1 ≤ 9223372036854775807 := by omega
                  have a0 : wr.cell? ⟨Ba, f, none⟩ = some (.int .i64 (u : Int)) := nRow_cell HBA.out hu
                  have fz := HBA.out.frozen f
                  have HU := Lib.hid hu; have HN1 := Lib.hid q5; have HQ3 := Lib.hid q3; have HF5 := Lib.hid hf5; have HUU := Lib.hid huu
                  clear q3 q5 q6 q7 hu hf5 huu
                  by_cases hq : u + 1 = n1
                  · have hd : ((u : Int) == (n1 : Int) - 1) = true := by simp; omega
                    have HQ := Lib.hid hq; clear hq
                    go_wp2_with fail
                    go_quiet ((fail))
                    go_wp2
                    refine ⟨⟨f, vs.set f 0, by omega, by go_num, Lib.hid (by simp [HV5.out]), Lib.hid (fun j hj => ?_), Lib.hid ?_, Lib.hid ?_, Lib.hid ?_, Lib.hid ?_⟩, by simp [intOf]; try omega⟩
                    · rw [List.getElem?_set_ne (by omega)]; exact HVU.out j (by omega)
                    · rw [HOD.out, odo_pos (by rw [HU.out, HN1.out, Option.getD_some]; exact HQ.out)]
                    · have := (HBA.out.drewN nq).set_ f (.int .i64 ((0 : Nat) : Int))
                      rwa [nRow_set] at this
                    · exact ((HG.out.trans (grown_drewN _ _ _)).trans (grown_set _ _ _ _))
                    · exact WordsAt.setBa HWA.out (by omega) (fun v n xs ho => own_ne_blk_some ho HBA.out (by decide)) nq f _
                  · have hd : ((u : Int) == (n1 : Int) - 1) = false := by simp; omega
                    have HQ := Lib.hid hq; clear hq
                    go_wp2_with fail
                    go_quiet ((fail))
                    clear hd hub q0 q1 q2
                    have hfn : decide ((f : Int) < 0) = false := by simp
                    go_wp2
                    have hod : odo (lensOf ws) us 5 = some (vs.set f (u + 1)) := by
                      rw [HOD.out, odo_neg (by rw [HU.out, HN1.out, Option.getD_some]; exact HQ.out), HU.out]
                      rfl
                    obtain ⟨hc1, hc2⟩ := HC.out.next hod
                    have h1 := HR.out.1
                    have h2 := HR.out.2
                    have h3 := HS6.out
                    go_roundg (rem5 (lensOf ws) (vs.set f (u + 1)))
                    case measure => omega
                    case rel =>
                      refine ⟨m + 1, vs.set f (u + 1), ys, Lib.hid ?_, Lib.hid ⟨Nat.le_refl _, by omega⟩, HXS7, Lib.hid ?_, Lib.hid hc1, Lib.hid ?_, Lib.hid (WordsAt.setBa HWA.out (by omega) (fun v n xs ho => own_ne_blk_some ho HBA.out (by decide)) nq f _), Lib.hid (Nat.le_trans h3 (by simpa using hW7))⟩
                      · show (ctrAt (lensOf ws) m).bind _ = _
                        rw [HM.out]
                        exact hod
                      · exact HJ.out ys W6 _ (some Ba) HJ7.out ((HG.out.trans (grown_drewN _ _ _)).trans (grown_set _ _ _ _)) (fun r e => by cases e; exact ⟨by omega, _, _, HBA6'.out⟩)
                      · have := (HBA.out.drewN nq).set_ f (.int .i64 ((u + 1 : Nat) : Int))
                        rwa [nRow_set] at this
            · have HX6 := Lib.hid hx6
              clear hx6 hR1 hy1
              gi_wp2_with fail
              go_wp2
              refine bodyPost_ret (results_none rfl _ _ _) rfl ?_
              refine ⟨⟨_, rfl⟩, .inr ⟨_, ⟨m + 1, ?_, fun j hj h => ?_⟩, HX6.out⟩⟩
              · rw [List.map_append, HXS.out, callsTo_some HM.out]; rfl
              · obtain ⟨bs, hb⟩ := ctrAt_back HM.out (show j ≤ m by omega)
                rw [h] at hb; cases hb
end Go.Proofs.YtkiacbfpnidjlaaGreatDoor
