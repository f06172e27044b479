/- impl.PolicyFind: the first of the near calls of which two policies say unlike things. -/
import Derived.Test.YtkiacbfpnidjlaaGreatDoorFindS
import Derived.Test.YtkiacbfpnidjlaaGreatDoorRoundQ
import Derived.Lib.QuietBelowIn
namespace Go.Proofs.YtkiacbfpnidjlaaGreatDoor
open Go.RowKit Go.Shelf Go.Sort
set_option linter.unusedSimpArgs false
set_option linter.unusedVariables false
attribute [local go_sem] Oper.semAt_some

theorem own_shut {W : World} {base b n size : Nat} {t : TypeId} {v : Value} {xs : List Value} {Ds : List Nat} (h : W.ownsRow b t size v n xs) (hm : Marks W base Ds) : (shutAll Ds W).ownsRow b t size v n xs := by
  refine ⟨h.1, ?_⟩
  rcases h.2 with h0 | ⟨g, cap, cur, e, hge, hh, rest⟩
  · exact .inl h0
  · exact .inr ⟨g, cap, cur, e, hge, (shut_block (base := base) Ds W g (hm.ne_cells (k := g) hh)).trans hh, rest⟩
theorem Blk.shut {W : World} {base k : Nat} {t : TypeId} {cs : Array Value} {Ds : List Nat} (h : Blk W k t cs) (hm : Marks W base Ds) : Blk (shutAll Ds W) k t cs := (shut_block (base := base) Ds W k (hm.ne_cells h)).trans h

/-- What the search has laid. -/
structure FindSt (w : World) (S : Nat) (pv : Array Value) (qv : Array Value) (sv : Array Value) (Ds : List Nat) (cv : Array Value) (bv : Value) (W : World) : Prop where
  bp : Blk W w.heap.size 33 pv
  bq : Blk W (w.heap.size + 1) 33 qv
  bc : Blk W (w.heap.size + 1 + 1) 28 cv
  bb : Blk W (w.heap.size + 1 + 1 + 1) 4 #[bv]
  bs : Blk W S 33 sv
  ds : Marks W w.heap.size Ds
  bl : Below w.heap.size w W
theorem FindSt.below {w : World} {S : Nat} {pv qv sv : Array Value} {Ds : List Nat} {cv : Array Value} {bv : Value} {W W' : World} (h : FindSt w S pv qv sv Ds cv bv W) (hb : Below W.heap.size W W') : FindSt w S pv qv sv Ds cv bv W' :=
  ⟨h.bp.below hb h.bp.lt, h.bq.below hb h.bq.lt, h.bc.below hb h.bc.lt, h.bb.below hb h.bb.lt, h.bs.below hb h.bs.lt, h.ds.below hb, below_then h.bl hb⟩
/-- A round's tried box. -/
def Tried (T : Nat) (m : Nat) (W : World) : Prop := Blk W T 3 #[.int .i64 m]
theorem FindSt.own {w : World} {S B : Nat} {pv qv sv : Array Value} {Ds : List Nat} {cv : Array Value} {bv : Value} {W W' : World} {row : Option Nat} (h : FindSt w S pv qv sv Ds cv bv W) (hB : w.heap.size ≤ B) (hDs : ∀ D ∈ Ds, D < B) (hg : W.grownBy W' row)
    (hr : ∀ r, row = some r → (B + 2 ≤ r ∧ ∃ cs fr, W.heap[r]? = some (.cells cs 72 fr)) ∨ (B ≤ r ∧ ∃ o : Obj, W.heap[r]? = some o ∧ o.isCells = false)) : FindSt w S pv qv sv Ds cv bv W' := by
  have hne : ∀ (k : Nat) (t : TypeId) (cs : Array Value), t ≠ 72 → Blk W k t cs → Blk W' k t cs := fun k t cs ht hb => hb.grown hg (fun e => by
    rcases hr k e.symm with ⟨_, cs', fr, h⟩ | ⟨_, o, h, hc⟩
    · have := hb.symm.trans h; cases this; exact ht rfl
    · have := hb.symm.trans h; cases this; cases hc)
  exact ⟨hne _ _ _ (by decide) h.bp, hne _ _ _ (by decide) h.bq, hne _ _ _ (by decide) h.bc, hne _ _ _ (by decide) h.bb, hne _ _ _ (by decide) h.bs,
    h.ds.same (fun D hD hDX => hg.block D (Array.getElem?_eq_some_iff.1 hDX).1 (fun e => by have := hDs D hD; rcases hr D e.symm with ⟨h1, _⟩ | ⟨h1, _⟩ <;> omega)),
    h.bl.grown hg h.bl.size (fun r e => by rcases hr r e with ⟨h1, _⟩ | ⟨h1, _⟩ <;> omega)⟩
theorem FindSt.setFar {w : World} {S T i : Nat} {pv qv sv : Array Value} {Ds : List Nat} {cv : Array Value} {bv u : Value} {W : World} {t : TypeId} {cs : Array Value} (h : FindSt w S pv qv sv Ds cv bv W) (hT : Blk W T t cs) (h1 : t ≠ 33) (h2 : t ≠ 28) (h3 : t ≠ 4) (hw : w.heap.size ≤ T) : FindSt w S pv qv sv Ds cv bv (W.setCell ⟨T, i, none⟩ u) := by
  have hne : ∀ (k : Nat) (t' : TypeId) (cs' : Array Value), Blk W k t' cs' → t ≠ t' → k ≠ T := fun k t' cs' hb ht e => by subst e; have := hb.symm.trans hT; cases this; exact ht rfl
  exact ⟨h.bp.far (hne _ _ _ h.bp h1) _, h.bq.far (hne _ _ _ h.bq h1) _, h.bc.far (hne _ _ _ h.bc h2) _, h.bb.far (hne _ _ _ h.bb h3) _, h.bs.far (hne _ _ _ h.bs h1) _, h.ds.cells (KeepsOthers.setCell _ _ _), h.bl.setCell (p := ⟨T, i, none⟩) hw _⟩
theorem FindSt.found {w : World} {S : Nat} {pv qv sv : Array Value} {Ds : List Nat} {a0 b0 bv : Value} {W : World} (h : FindSt w S pv qv sv Ds #[a0, b0] bv W) (x y : Value) {u : Value} : FindSt w S pv qv sv Ds #[x, y] u (((W.setCell ⟨w.heap.size + 1 + 1, 0, none⟩ x).setCell ⟨w.heap.size + 1 + 1, 1, none⟩ y).setCell ⟨w.heap.size + 1 + 1 + 1, 0, none⟩ u) := by
  have hne : S ≠ w.heap.size + 1 + 1 := fun e => by have h1 := h.bs; rw [e] at h1; have := h1.symm.trans h.bc; cases this
  have hne2 : S ≠ w.heap.size + 1 + 1 + 1 := fun e => by have h1 := h.bs; rw [e] at h1; have := h1.symm.trans h.bb; cases this
  have hf : ∀ {k : Nat} {t : TypeId} {cs : Array Value}, Blk W k t cs → k ≠ w.heap.size + 1 + 1 → k ≠ w.heap.size + 1 + 1 + 1 → Blk (((W.setCell ⟨w.heap.size + 1 + 1, 0, none⟩ x).setCell ⟨w.heap.size + 1 + 1, 1, none⟩ y).setCell ⟨w.heap.size + 1 + 1 + 1, 0, none⟩ u) k t cs := fun hb h1 h2 => ((hb.far h1 _).far h1 _).far h2 _
  refine ⟨hf h.bp (by omega) (by omega), hf h.bq (by omega) (by omega), ((h.bc.set_ 0 x).set_ 1 y).far (by show w.heap.size + 1 + 1 ≠ w.heap.size + 1 + 1 + 1; omega) _, ?_, hf h.bs hne hne2, ((h.ds.cells (KeepsOthers.setCell _ _ _)).cells (KeepsOthers.setCell _ _ _)).cells (KeepsOthers.setCell _ _ _), ?_⟩
  · exact ((h.bb.far (p := ⟨w.heap.size + 1 + 1, 0, none⟩) (by show w.heap.size + 1 + 1 + 1 ≠ w.heap.size + 1 + 1; omega) _).far (p := ⟨w.heap.size + 1 + 1, 1, none⟩) (by show w.heap.size + 1 + 1 + 1 ≠ w.heap.size + 1 + 1; omega) _).set_ 0 u
  · exact ((h.bl.setCell (p := ⟨w.heap.size + 1 + 1, 0, none⟩) (by show w.heap.size ≤ w.heap.size + 1 + 1; omega) _).setCell (p := ⟨w.heap.size + 1 + 1, 1, none⟩) (by show w.heap.size ≤ w.heap.size + 1 + 1; omega) _).setCell (p := ⟨w.heap.size + 1 + 1 + 1, 0, none⟩) (by show w.heap.size ≤ w.heap.size + 1 + 1 + 1; omega) _
/-- A call that was handed out. -/
def ItemAt (base : Nat) (x : NItem) (W : World) : Prop := x.c.args.length = 4 ∧ W.ownsRow base 3 1 x.args 4 (ints x.c.args).flatten
theorem tried_own {B T m : Nat} {W W' : World} {row : Option Nat} (h : Tried T m W) (hg : W.grownBy W' row)
    (hr : ∀ r, row = some r → (B + 2 ≤ r ∧ ∃ cs fr, W.heap[r]? = some (.cells cs 72 fr)) ∨ (B ≤ r ∧ ∃ o : Obj, W.heap[r]? = some o ∧ o.isCells = false)) : Tried T m W' :=
  Blk.grown h hg (fun e => by
    rcases hr T e.symm with ⟨_, cs', fr, h2⟩ | ⟨_, o, h2, hc⟩
    · have := h.symm.trans h2; cases this
    · have := h.symm.trans h2; cases this; cases hc)
theorem item_own {B base : Nat} {x : NItem} {W W' : World} {row : Option Nat} (h : ItemAt base x W) (hg : W.grownBy W' row)
    (hr : ∀ r, row = some r → (B + 2 ≤ r ∧ ∃ cs fr, W.heap[r]? = some (.cells cs 72 fr)) ∨ (B ≤ r ∧ ∃ o : Obj, W.heap[r]? = some o ∧ o.isCells = false)) : ItemAt base x W' :=
  ⟨h.1, own_grownN h.2 hg (fun r e => own_typeN h.2 (fun cs fr e2 => by
    rcases hr r e with ⟨_, cs', fr', h2⟩ | ⟨_, o, h2, hc⟩
    · rw [h2] at e2; cases e2
    · rw [h2] at e2; cases e2; cases hc))⟩
theorem nearL_full {r : Pol} {xs : List NItem} {m : Nat} (h1 : xs.map NItem.c = callsTo (nearWs r.rules) m) (h2 : ∀ j < m, ctrAt (lensOf (nearWs r.rules)) j ≠ none) (h3 : ctrAt (lensOf (nearWs r.rules)) m = none) (hl : xs.length ≤ 600) : xs.map NItem.c = nearL r := by
  have hm : m ≤ 600 := by
    rcases m with _ | m'
    · omega
    · obtain ⟨us, hus⟩ := Option.ne_none_iff_exists'.1 (h2 m' (Nat.lt_succ_self _))
      have h4 := (callsTo_len hus).2
      rw [← h1, List.length_map] at h4
      omega
  have := callsTo_none h3 (600 - m)
  rw [show m + (600 - m) = 600 by omega] at this
  rw [h1, nearL, this]
theorem nearL_stop {r : Pol} {p' : List NItem} {x : NItem} {m : Nat} (h1 : (p' ++ [x]).map NItem.c = callsTo (nearWs r.rules) m) (h2 : ∀ j < m, ctrAt (lensOf (nearWs r.rules)) j ≠ none) : p'.map NItem.c = callsTo (nearWs r.rules) p'.length ∧ callsTo (nearWs r.rules) (p'.length + 1) = p'.map NItem.c ++ [x.c] := by
  rcases m with _ | m'
  · simp [callsTo] at h1
  · obtain ⟨us, hus⟩ := Option.ne_none_iff_exists'.1 (h2 m' (Nat.lt_succ_self _))
    have h3 := callsTo_len hus
    have hm : m' = p'.length := by
      have := congrArg List.length h1
      rw [h3.2] at this
      simp at this
      omega
    subst hm
    have h4 := h1
    rw [callsTo_some hus, List.map_append] at h4
    have h5 := (List.append_inj' h4 rfl).1
    exact ⟨h5, by rw [← h1, List.map_append]; rfl⟩
theorem nearL_break {r : Pol} {p' : List NItem} {x : NItem} {m : Nat} (h1 : (p' ++ [x]).map NItem.c = callsTo (nearWs r.rules) m) (h2 : ∀ j < m, ctrAt (lensOf (nearWs r.rules)) j ≠ none) (hl : p'.length = 600) : p'.map NItem.c = nearL r := by
  have := (nearL_stop h1 h2).1
  rw [hl] at this
  exact this
theorem nearL_found {r : Pol} {p' : List NItem} {x : NItem} {m : Nat} (h1 : (p' ++ [x]).map NItem.c = callsTo (nearWs r.rules) m) (h2 : ∀ j < m, ctrAt (lensOf (nearWs r.rules)) j ≠ none) (hl : p'.length < 600) : ∃ rest, nearL r = p'.map NItem.c ++ x.c :: rest := by
  obtain ⟨b, hb⟩ := callsTo_pre (ws := nearWs r.rules) (p'.length + 1) (600 - (p'.length + 1))
  rw [show p'.length + 1 + (600 - (p'.length + 1)) = 600 by omega, (nearL_stop h1 h2).2] at hb
  exact ⟨b, by rw [nearL, hb]; simp⟩
/-- The rounds so far have found none. -/
def NoneTo (p q : Pol) (k : Nat) : Prop := ∀ (j : Nat) (r : Pol), j < k → [p, q][j]? = some r → ∀ c ∈ nearL r, unlike p q c = false
theorem NoneTo.step {p q r : Pol} {k : Nat} (h : NoneTo p q k) (hr : [p, q][k]? = some r) (hn : ∀ c ∈ nearL r, unlike p q c = false) : NoneTo p q (k + 1) := fun j r' hj hr' => by
  by_cases e : j = k
  · subst e; rw [hr] at hr'; cases hr'; exact hn
  · exact h j r' (by omega) hr'
theorem NoneTo.none {p q : Pol} (h : NoneTo p q 2) (hp : polOkB p = true) (hq : polOkB q = true) : findOf p q = none := by
  unfold findOf
  rw [hp, hq]
  refine find_no (fun c hc => ?_)
  rw [List.mem_append] at hc
  rcases hc with hc | hc
  · exact h 0 p (by omega) rfl c hc
  · exact h 1 q (by omega) rfl c hc
theorem NoneTo.found {p q r : Pol} {k : Nat} {bs rest : List Cl} {c : Cl} (h : NoneTo p q k) (hp : polOkB p = true) (hq : polOkB q = true) (hr : [p, q][k]? = some r) (he : nearL r = bs ++ c :: rest) (hn : ∀ y ∈ bs, unlike p q y = false) (hc : unlike p q c = true) : findOf p q = some c := by
  unfold findOf
  rw [hp, hq]
  rcases k with _ | _ | k
  · cases hr
    exact find_at (bs := bs) (rest := rest ++ nearL q) (by rw [he]; simp) hn hc
  · cases hr
    refine find_at (bs := nearL p ++ bs) (rest := rest) (by rw [he]; simp) (fun y hy => ?_) hc
    rw [List.mem_append] at hy
    rcases hy with hy | hy
    · exact h 0 p (by omega) rfl y hy
    · exact hn y hy
  · simp at hr

set_option maxRecDepth 100000 in
set_option maxHeartbeats 16000000 in
theorem iFind_ok (p q : Pol) (pv qv : Value) (w : World) (hP : PolIs w p pv) (hQ : PolIs w q qv) (hpw : Pow w) (hp : polOkB p = true) (hq : polOkB q = true) :
    Calls Tryz.prog 7 #[pv, qv] w (FindPost (findOf p q) w) := by
  have HP := Lib.hid hP; have HQ := Lib.hid hQ; have HPO := Lib.hid hp; have HQO := Lib.hid hq; have HPW := Lib.hid hpw
  have HFP := Lib.hid (polFine_of hp); have HFQ := Lib.hid (polFine_of hq)
  obtain ⟨rv, css, rfl, ⟨A, n, c, rfl, hSA⟩, hR⟩ := hP
  obtain ⟨rv', css', rfl, ⟨A', n', c', rfl, hSA'⟩, hR'⟩ := hQ
  clear hSA hR hSA' hR' hp hq hpw
  obtain ⟨W, hW⟩ : ∃ W, W = (((w.alloc (.cells #[.slice A n c, .int .i64 p.els] 33)).alloc (.cells #[.slice A' n' c', .int .i64 q.els] 33)).alloc (.cells #[.int .i64 0, .slice none 0 0] 28)).alloc (.cells #[.bool false] 4) := ⟨_, rfl⟩
  have hb : Below w.heap.size w W := by rw [hW]; go_grown
  have KP : Blk W w.heap.size 33 #[.slice A n c, .int .i64 p.els] := by rw [hW]; exact (((Blk.new w _ _).alloc _).alloc _).alloc _
  have KQ : Blk W (w.heap.size + 1) 33 #[.slice A' n' c', .int .i64 q.els] := by
    rw [hW]
    have h := ((Blk.new (w.alloc (.cells #[.slice A n c, .int .i64 p.els] 33)) 33 #[.slice A' n' c', .int .i64 q.els]).alloc (.cells #[.int .i64 0, .slice none 0 0] 28)).alloc (.cells #[.bool false] 4)
    rwa [World.size_alloc] at h
  have KC : Blk W (w.heap.size + 1 + 1) 28 #[.int .i64 0, .slice none 0 0] := by
    rw [hW]
    have h := (Blk.new ((w.alloc (.cells #[.slice A n c, .int .i64 p.els] 33)).alloc (.cells #[.slice A' n' c', .int .i64 q.els] 33)) 28 #[.int .i64 0, .slice none 0 0]).alloc (.cells #[.bool false] 4)
    rwa [World.size_alloc, World.size_alloc] at h
  have KB : Blk W (w.heap.size + 1 + 1 + 1) 4 #[.bool false] := by
    rw [hW]
    have h := Blk.new (((w.alloc (.cells #[.slice A n c, .int .i64 p.els] 33)).alloc (.cells #[.slice A' n' c', .int .i64 q.els] 33)).alloc (.cells #[.int .i64 0, .slice none 0 0] 28)) 4 #[.bool false]
    rwa [World.size_alloc, World.size_alloc, World.size_alloc] at h
  have HW := Lib.hid hW; have HB := Lib.hid hb; have HKP := Lib.hid KP; have HKQ := Lib.hid KQ; have HKC := Lib.hid KC; have HKB := Lib.hid KB
  have x0 := (show _ = some (Value.slice A n c) from KP.cell 0); have x1 := (show _ = some (Value.int .i64 p.els) from KP.cell 1)
  clear hW hb KP KQ KC KB
  refine (callsIn_wide (n := 9)).1 ?_
  refine callsIn_of_wp_marks Tryz.func7 rfl trivial ?_ rfl
  simp only [Tryz.ntmps7, List.size_toArray, List.length_cons, List.length_nil, Nat.reduceAdd, Nat.reduceSub, Array.replicate_succ, Array.replicate_zero, List.push_toArray, List.append_toArray, List.nil_append, List.cons_append]
  gi_upto_region 1 with (fail)
  rw [← HW.out]
  gi_wp2_with fail
  refine ⟨trivial, ?_⟩
  refine (callsIn_wide.2 (iPolicyOk_any p _ _ (HP.out.below HB.out) (HPW.out.below HB.out))).mono ?_; rintro e w2 ⟨rfl, hb2⟩
  rw [HPO.out]
  have KQ2 := HKQ.out.below hb2 HKQ.out.lt
  have y0 := (show _ = some (Value.slice A' n' c') from KQ2.cell 0); have y1 := (show _ = some (Value.int .i64 q.els) from KQ2.cell 1)
  have HB2 := Lib.hid hb2; have HBW2 := Lib.hid (below_then HB.out hb2)
  clear x0 x1 KQ2 hb2
  gi_wp2_with fail
  refine ⟨trivial, ?_⟩
  refine (callsIn_wide.2 (iPolicyOk_any q _ _ (HQ.out.below HBW2.out) (HPW.out.below HBW2.out))).mono ?_; rintro e w3 ⟨rfl, hb3⟩
  rw [HQO.out]
  have HB3 := Lib.hid (HB2.out.trans (hb3.mono HB2.out.size)); have HBW3 := Lib.hid (below_then HBW2.out hb3)
  have KP3 := HKP.out.below HB3.out HKP.out.lt; have KQ3 := HKQ.out.below HB3.out HKQ.out.lt; have KC3 := HKC.out.below HB3.out HKC.out.lt; have KB3 := HKB.out.below HB3.out HKB.out.lt
  replace y0 := (show _ = some (Value.slice A' n' c') from KQ3.cell 0); replace y1 := (show _ = some (Value.int .i64 q.els) from KQ3.cell 1)
  have x0 := (show _ = some (Value.slice A n c) from KP3.cell 0); have x1 := (show _ = some (Value.int .i64 p.els) from KP3.cell 1)
  have HKP3 := Lib.hid KP3; have HKQ3 := Lib.hid KQ3; have HKC3 := Lib.hid KC3; have HKB3 := Lib.hid KB3
  have HLB3 := Lib.hid KB3.lt
  clear hb3 KP3 KQ3 KC3 KB3 HB2 HBW2
  gi_wp2_with fail
  refine wpIn_loop (fun a wr => ∃ (k : Nat) (Ds : List Nat) (u7 u8 u24 u25 u26 u27 u28 u42 : Value), a = { tmps := #[.agg #[.slice A n c, .int .i64 p.els], .agg #[.slice A' n' c', .int .i64 q.els], .pointer (some ⟨w.heap.size, 0, none⟩), .pointer (some ⟨w.heap.size + 1, 0, none⟩), .pointer (some ⟨w.heap.size + 1 + 1, 0, none⟩), .pointer (some ⟨w.heap.size + 1 + 1 + 1, 0, none⟩), undef, u7, u8, undef, .agg #[.slice A n c, .int .i64 p.els], .bool true, .bool false, .bool false, .agg #[.slice A' n' c', .int .i64 q.els], .bool true, .bool false, .bool false, undef, .agg #[.slice A n c, .int .i64 p.els], .agg #[.slice A' n' c', .int .i64 q.els], .slice (some ⟨w3.heap.size, 0, none⟩) 2 2, .int .i64 2, .int .i64 k, u24, u25, u26, u27, u28, undef, undef, undef, undef, undef, undef, undef, undef, undef, undef, undef, undef, undef, u42, undef], defers := Ds.map mark } ∧ k ≤ 2 ∧ NoneTo p q k ∧ FindSt w w3.heap.size #[.slice A n c, .int .i64 p.els] #[.slice A' n' c', .int .i64 q.els] #[.slice A n c, .int .i64 p.els, .slice A' n' c', .int .i64 q.els] Ds #[.int .i64 0, .slice none 0 0] (.bool false) wr) (fun a _ => 2 - (intOf (a.tmps.getD 23 undef)).toNat) ?start ?round
  case start =>
    exact ⟨0, [], _, _, _, _, _, _, _, _, rfl, by omega, fun j r hj => absurd hj (by omega), HKP3.out.alloc _, HKQ3.out.alloc _, HKC3.out.alloc _, HKB3.out.alloc _, Blk.new _ _ _, Marks.nil _ _, below_then HBW3.out (by go_grown)⟩
  case round =>
    rintro _ wr ⟨k, Ds, u7, u8, u24, u25, u26, u27, u28, u42, rfl, hk, hno, hst⟩
    clear x0 x1 y0 y1
    have hlw := hst.bb.lt
    by_cases hlt : k < 2
    · obtain ⟨r, RA, rn, rc, hr, hPI, hrok, hc0, hc1⟩ : ∃ r RA rn rc, [p, q][k]? = some r ∧ PolIs w r (.agg #[.slice RA rn rc, .int .i64 r.els]) ∧ polOkB r = true ∧ wr.cell? ⟨w3.heap.size, k * 2, none⟩ = some (.slice RA rn rc) ∧ wr.cell? ⟨w3.heap.size, k * 2 + 1, none⟩ = some (.int .i64 r.els) := by
        rcases k with _ | _ | k
        · exact ⟨p, A, n, c, rfl, HP.out, HPO.out, hst.bs.cell 0, hst.bs.cell 1⟩
        · exact ⟨q, A', n', c', rfl, HQ.out, HQO.out, hst.bs.cell 2, hst.bs.cell 3⟩
        · omega
      have hki : (k : Int) < 2 := by omega
      obtain ⟨hn8, ht4, hbd⟩ := polOk_bounds hrok
      have HNO := Lib.hid hno; have HR := Lib.hid hr; have HPI := Lib.hid hPI; have HN8 := Lib.hid hn8; have HT4 := Lib.hid ht4; have HBD := Lib.hid hbd; have HST := Lib.hid hst
      clear hno hr hPI hn8 ht4 hbd hst hrok
      gi_wp2_with fail
      refine ⟨trivial, ?_⟩
      refine (callsIn_wide.2 (nearCalls_any (.slice RA rn rc) r.els _)).mono ?_; rintro e w4 ⟨rfl, hw4⟩
      have hb4 : Below wr.heap.size wr w4 := by rw [hw4]; go_grown
      have hz4 : w4.heap.size = wr.heap.size + 1 + 1 + 1 := by rw [hw4]; simp
      have TR4 : Tried (wr.heap.size + 1) 0 w4 := by rw [hw4]; exact (blk2N wr _ _ _).alloc _
      have NB4 : Blk w4 (wr.heap.size + 1 + 1) 33 #[.slice RA rn rc, .int .i64 r.els] := by
        have h := Blk.new ((wr.alloc (.cells #[.slice RA rn rc, .int .i64 r.els] 33)).alloc (.cells #[.int .i64 0] 3)) 33 #[.slice RA rn rc, .int .i64 r.els]
        rw [hw4]
        simpa using h
      have hst4 := HST.out.below hb4
      have hDs4 : ∀ D ∈ Ds, D < w4.heap.size := fun D hD => by have := (Array.getElem?_eq_some_iff.1 (HST.out.ds.2 D hD).2).1; omega
      have HP4 := Lib.hid (HPI.out.below hst4.bl)
      have HST4 := Lib.hid hst4; have HTR4 := Lib.hid TR4; have HNB4 := Lib.hid NB4; have HDS4 := Lib.hid hDs4; have HZ4 := Lib.hid hz4; have HSW4 := Lib.hid hst4.bl.size; have HLW := Lib.hid hlw
      clear hw4 hb4 TR4 NB4 hst4 hDs4 hc0 hc1 hz4
      gi_wp2_with fail
      refine wpIn_rangeFunc_mem (F := Fence.wide) rfl (by omega) (gf := 35) (lb := #[.pointer (some ⟨wr.heap.size + 1 + 1, 0, none⟩)]) rfl trivial (enters_of Tryz.func35 (by kernel_rfl) rfl)
        (near_seq 8 (by omega) r RA rn rc (wr.heap.size + 1 + 1) w4 HNB4.out HP4.out HN8.out HT4.out HBD.out) (fun h k => h.trans k) (fun B W l o o' h hc => KeepN.putObj W l o o' h hc)
        (fun W0 x W l o o' h hc hR => ⟨hR.1, own_grownN hR.2 (grownBy_putObj' W l o') (fun r e => by cases e; exact own_typeN hR.2 (fun cs fr e2 => by rw [h] at e2; cases e2; cases hc))⟩)
        (fun B W W' hg => ⟨hg.size, fun k cs t fr _ _ ho => (hg.block k (Array.getElem?_eq_some_iff.1 ho).1 (by simp)).trans ho⟩)
        (fun W0 x W W' hg hR => ⟨hR.1, own_grownN hR.2 hg (fun r e => by cases e)⟩) (Below.refl _ _) (fun _ => rfl)
        (fun pre W => FindSt w w3.heap.size #[.slice A n c, .int .i64 p.els] #[.slice A' n' c', .int .i64 q.els] #[.slice A n c, .int .i64 p.els, .slice A' n' c', .int .i64 q.els] Ds #[.int .i64 0, .slice none 0 0] (.bool false) W ∧ Tried (wr.heap.size + 1) pre.length W ∧ pre.length ≤ 600 ∧ ∀ x ∈ pre, unlike p q x.c = false)
        (fun cx pre W => ∃ (p' : List NItem) (x : NItem), pre = p' ++ [x] ∧ (∀ y ∈ p', unlike p q y.c = false) ∧ ((cx = .exit 2 ∧ p'.length = 600 ∧ FindSt w w3.heap.size #[.slice A n c, .int .i64 p.els] #[.slice A' n' c', .int .i64 q.els] #[.slice A n c, .int .i64 p.els, .slice A' n' c', .int .i64 q.els] Ds #[.int .i64 0, .slice none 0 0] (.bool false) W) ∨ (cx = .ret ∧ p'.length < 600 ∧ unlike p q x.c = true ∧ ItemAt w.heap.size x W ∧ FindSt w w3.heap.size #[.slice A n c, .int .i64 p.els] #[.slice A' n' c', .int .i64 q.els] #[.slice A n c, .int .i64 p.els, .slice A' n' c', .int .i64 q.els] Ds #[.int .i64 x.c.num, x.args] (.bool true) W)))
        (fun s W W' row hs hg hr => ⟨hs.1.own HSW4.out HDS4.out hg hr, tried_own hs.2.1 hg hr, hs.2.2.1, hs.2.2.2⟩)
        (fun cx s W W' row hs hg hr => by
          obtain ⟨p', x, rfl, h6, h7⟩ := hs
          refine ⟨p', x, rfl, h6, ?_⟩
          rcases h7 with ⟨h8, h9, h10⟩ | ⟨h8, h9, h10, h11, h12⟩
          · exact .inl ⟨h8, h9, h10.own HSW4.out HDS4.out hg hr⟩
          · exact .inr ⟨h8, h9, h10, item_own h11 hg hr, h12.own HSW4.out HDS4.out hg hr⟩)
        ⟨HST4.out, HTR4.out, by simp, by simp⟩
        (fun x a W => ∃ b, Blk W b 28 #[.int .i64 x.c.num, x.args] ∧ a = { tmps := #[.agg #[.slice A n c, .int .i64 p.els], .agg #[.slice A' n' c', .int .i64 q.els], .pointer (some ⟨w.heap.size, 0, none⟩), .pointer (some ⟨w.heap.size + 1, 0, none⟩), .pointer (some ⟨w.heap.size + 1 + 1, 0, none⟩), .pointer (some ⟨w.heap.size + 1 + 1 + 1, 0, none⟩), undef, .pointer (some ⟨wr.heap.size, 0, none⟩), .pointer (some ⟨wr.heap.size + 1, 0, none⟩), .pointer (some ⟨b, 0, none⟩), .agg #[.slice A n c, .int .i64 p.els], .bool true, .bool false, .bool false, .agg #[.slice A' n' c', .int .i64 q.els], .bool true, .bool false, .bool false, undef, .agg #[.slice A n c, .int .i64 p.els], .agg #[.slice A' n' c', .int .i64 q.els], .slice (some ⟨w3.heap.size, 0, none⟩) 2 2, .int .i64 2, .int .i64 k, .bool true, .pointer (some ⟨w3.heap.size, k * 2, none⟩), .agg #[.slice RA rn rc, .int .i64 r.els], .agg #[.slice RA rn rc, .int .i64 r.els], .func (.func 35) #[] #[.pointer (some ⟨wr.heap.size + 1 + 1, 0, none⟩)], .agg #[.int .i64 x.c.num, x.args], undef, undef, undef, undef, undef, undef, undef, undef, undef, undef, undef, undef, u42, undef], defers := [] })
        (fun x a W l o o' h hc ⟨b, hb, e⟩ => ⟨b, hb.grown (grownBy_putObj' W l o') (fun e2 => by cases e2; have := hb.symm.trans h; cases this; cases hc), e⟩) ?assign ?body ?done ?stop
      case assign =>
        rintro l ⟨⟨num, args⟩, g, cap⟩ W K hK
        dsimp only [NItem.enc, NItem.args]
        gi_wp2
        exact hK _ _ (World.grownBy_alloc W _ _) ⟨W.heap.size, Blk.new W _ _, rfl⟩
      case body =>
        rintro l pre ⟨⟨num, args⟩, g, cap⟩ a' W0 W hI0 ⟨hst, htr, hfew, hall⟩ hsz ⟨hal, hao⟩ ⟨b, hbk, rfl⟩ hlen
        dsimp only [NItem.args] at hbk hao hal ⊢
        have t0 : W.cell? ⟨wr.heap.size + 1, 0, none⟩ = some (.int .i64 pre.length) := htr.cell 0
        have tf := htr.frozen 0
        have tl : wr.heap.size + 1 < W.heap.size := htr.lt
        have h0l : wr.heap.size + 1 < W0.heap.size := hI0.2.1.lt
        have HST5 := Lib.hid hst; have HTR5 := Lib.hid htr; have HALL := Lib.hid hall; have HAL := Lib.hid hal; have HAO := Lib.hid hao; have HBK := Lib.hid hbk; have H0L := Lib.hid h0l
        clear hst htr hall hal hao hbk hI0 h0l
        by_cases h6 : pre.length = 600
        · have h6' : ((pre.length : Int) == 600) = true := by simp [h6]
          gi_wp2
          exact ⟨KeepsFrom.refl _ _, pre, _, rfl, HALL.out, .inl ⟨rfl, h6, HST5.out⟩⟩
        · have h6' : ((pre.length : Int) == 600) = false := by simp; omega
          have hpl : (pre.length : Int) < 600 := by omega
          gi_upto_region 11 with (fail)
          obtain ⟨W1, hW1⟩ : ∃ W1, W1 = W.setCell ⟨wr.heap.size + 1, 0, none⟩ (.int .i64 ((pre.length : Int) + 1)) := ⟨_, rfl⟩
          have hst1 : FindSt w w3.heap.size #[.slice A n c, .int .i64 p.els] #[.slice A' n' c', .int .i64 q.els] #[.slice A n c, .int .i64 p.els, .slice A' n' c', .int .i64 q.els] Ds #[.int .i64 0, .slice none 0 0] (.bool false) W1 := by rw [hW1]; exact HST5.out.setFar HTR5.out (by decide) (by decide) (by decide) (by have := HST5.out.bb.lt; have := HSW4.out; have := HZ4.out; have := HLW.out; omega)
          have htr1 : Tried (wr.heap.size + 1) (pre.length + 1) W1 := by rw [hW1]; exact Blk.set_ HTR5.out 0 _
          have hbk1 : Blk W1 b 28 #[.int .i64 num, .slice (some ⟨g, 0, none⟩) 4 cap] := by
            rw [hW1]
            exact HBK.out.far (fun e => by have e : b = wr.heap.size + 1 := e; subst e; have h1 := HBK.out.symm.trans HTR5.out; cases h1) _
          have hao1 : W1.ownsRow W0.heap.size 3 1 (.slice (some ⟨g, 0, none⟩) 4 cap) 4 (ints args).flatten := by rw [hW1]; exact ownsRow_setCell_below HAO.out H0L.out _
          have hko : KeepsOthers W W1 := by rw [hW1]; exact KeepsOthers.setCell _ _ _
          have hgr : W.grownBy W1 (some (wr.heap.size + 1)) := by rw [hW1]; exact grown_set _ _ _ _
          rw [← hW1]
          have p0 := (show _ = some (Value.slice A n c) from hst1.bp.cell 0); have p1 := (show _ = some (Value.int .i64 p.els) from hst1.bp.cell 1)
          have q0 := (show _ = some (Value.slice A' n' c') from hst1.bq.cell 0); have q1 := (show _ = some (Value.int .i64 q.els) from hst1.bq.cell 1)
          have b0 := (show _ = some (Value.int .i64 num) from hbk1.cell 0); have b1 := (show _ = some (Value.slice (some ⟨g, 0, none⟩) 4 cap) from hbk1.cell 1)
          obtain ⟨SA, sn, sc, es, hS⟩ := SlA.of_own (cs := ints args) hao1 (by rw [ints_len]; exact HAL.out) (ints_rows _)
          obtain ⟨rfl, rfl, rfl⟩ : SA = some ⟨g, 0, none⟩ ∧ sn = 4 ∧ cap = sc := by injection es with e1 e2 e3; exact ⟨e1.symm, e2.symm, e3⟩
          have r0 := cell_regrown p0; have r1 := cell_regrown p1; have r2 := cell_regrown q0; have r3 := cell_regrown q1
          have s0 := cell_regrown b0; have s1 := cell_regrown b1
          have HS := Lib.hid hS; have HST1 := Lib.hid hst1; have HTR1 := Lib.hid htr1; have HAO1 := Lib.hid hao1; have HKO := Lib.hid hko; have HGR := Lib.hid hgr; have HTL := Lib.hid tl
          have HH6 := Lib.hid (show pre.length < 600 by omega)
          clear hW1 hst1 htr1 hbk1 hao1 hko hgr hS es p0 p1 q0 q1 b0 b1 t0 tf tl h6 h6' hpl
          refine wpIn_round_quiet_below (by kernel_rfl) (by kernel_rfl) rfl ?_
          repeat (quiet_step (first | exact Calls.regrown_of (policyOf_any p ⟨num, args⟩ _ _ _ ((HP.out.below HST1.out.bl).below (below_regrown _ _ _)) ⟨_, _, rfl, HS.out.below (below_regrown _ _ _)⟩ HFP.out) | exact Calls.regrown_of (policyOf_any q ⟨num, args⟩ _ _ _ ((HQ.out.below HST1.out.bl).below (below_regrown _ _ _)) ⟨_, _, rfl, HS.out.below (below_regrown _ _ _)⟩ HFQ.out)))
          refine wpQuiet_nil ?_
          intro W2 hw'
          obtain ⟨⟨dq, osq⟩, hW2⟩ := hw'
          have hbq : Below W1.heap.size W1 W2 := by rw [hW2]; exact below_regrown _ _ _
          have z0 := s0 dq osq; have z1 := s1 dq osq
          rw [← hW2] at z0 z1
          have hst2 := HST1.out.below hbq
          have htr2 : Tried (wr.heap.size + 1) (pre.length + 1) W2 := Blk.below HTR1.out hbq (Blk.lt HTR1.out)
          have hao2 := own_below HAO1.out hbq
          have hko2 : KeepsOthers W W2 := HKO.out.trans (KeepsOthers.of_grownBy (grown_of_below hbq none) (fun j o e => by cases e))
          have HST2 := Lib.hid hst2; have HTR2 := Lib.hid htr2; have HAO2 := Lib.hid hao2; have HKO2 := Lib.hid hko2; have HBQ := Lib.hid hbq
          clear r0 r1 r2 r3 s0 s1 hW2 htr2 hao2 hko2
          cases hu : unlike p q ⟨num, args⟩ with
          | true =>
            have hu' : (polOf p ⟨num, args⟩ != polOf q ⟨num, args⟩) = true := hu
            have k0 := (show _ = some (Value.int .i64 0) from hst2.bc.cell 0); have k1 := (show _ = some (Value.slice none 0 0) from hst2.bc.cell 1); have k2 := (show _ = some (Value.bool false) from hst2.bb.cell 0)
            have f0 := hst2.bc.frozen 0; have f1 := hst2.bc.frozen 1; have f2 := hst2.bb.frozen 0; have l1 := hst2.bc.lt; have l2 := hst2.bb.lt
            have HU := Lib.hid hu
            clear hu hst2 hbq
            gi_wp2
            have hb2 : w.heap.size + 1 + 1 < W0.heap.size := by have := H0L.out; have := HLW.out; omega
            have hb3 : w.heap.size + 1 + 1 + 1 < W0.heap.size := by have := H0L.out; have := HLW.out; omega
            refine ⟨((((HKO2.out.trans (KeepsOthers.setCell _ _ _)).trans (KeepsOthers.setCell _ _ _)).trans (KeepsOthers.setCell _ _ _))).from _, pre, _, rfl, HALL.out, .inr ⟨rfl, HH6.out, HU.out, ⟨HAL.out, own_base (ownsRow_setCell_below (ownsRow_setCell_below (ownsRow_setCell_below HAO2.out hb2 _) hb2 _) hb3 _) (by omega)⟩, HST2.out.found _ _⟩⟩
          | false =>
            have hu' : (polOf p ⟨num, args⟩ != polOf q ⟨num, args⟩) = false := hu
            have HU := Lib.hid hu
            clear hu hst2 hbq z0 z1
            gi_wp2
            refine ⟨HKO2.out.from _, ⟨Nat.le_trans HGR.out.size HBQ.out.size, fun k cs t fr hk ht ho => ?_⟩, HST2.out, by rw [List.length_append]; exact HTR2.out, by have := HH6.out; simp; omega, fun x hx => ?_⟩
            · have hlt := (Array.getElem?_eq_some_iff.1 ho).1
              have h1 := (HGR.out.block k hlt (fun e => by cases e; have := HZ4.out; omega)).trans ho
              exact (HBQ.out.block k (Array.getElem?_eq_some_iff.1 h1).1).trans h1
            · rw [List.mem_append, List.mem_singleton] at hx
              rcases hx with hx | rfl
              · exact HALL.out x hx
              · exact HU.out
      case done =>
        rintro D xs W hD ⟨m, hS1, hS2, hS3⟩ ⟨hst, htr, hfew, hall⟩ hmark
        have hfull := nearL_full hS1 hS2 hS3 hfew
        have hno' : NoneTo p q (k + 1) := HNO.out.step HR.out (fun c hc => by rw [← hfull] at hc; obtain ⟨x, hx, rfl⟩ := List.mem_map.1 hc; exact hall x hx)
        have hms := hst.ds.cons (D := D) (Nat.le_trans HSW4.out hD) hmark (fun e => by have := HDS4.out D e; omega)
        have HST6 := Lib.hid hst; have HNO' := Lib.hid hno'; have HMS := Lib.hid hms
        clear hS1 hS2 hS3 hst htr hfew hall hmark hfull hno' hms hD
        gi_wp2
        exact ⟨⟨k + 1, D :: Ds, _, _, _, _, _, _, _, _, rfl, by omega, HNO'.out, { HST6.out with ds := HMS.out }⟩, by simp [intOf]; omega⟩
      case stop =>
        rintro D cx pre W hD ⟨m, hS1, hS2⟩ ⟨p', x, rfl, hall, ⟨rfl, h6, hst⟩ | ⟨rfl, h6, hu, hit, hst⟩⟩ hmark
        · have hfull := nearL_break hS1 hS2 h6
          have hno' : NoneTo p q (k + 1) := HNO.out.step HR.out (fun c hc => by rw [← hfull] at hc; obtain ⟨x, hx, rfl⟩ := List.mem_map.1 hc; exact hall x hx)
          have hms := hst.ds.cons (D := D) (Nat.le_trans HSW4.out hD) hmark (fun e => by have := HDS4.out D e; omega)
          have HST6 := Lib.hid hst; have HNO' := Lib.hid hno'; have HMS := Lib.hid hms
          clear hS1 hS2 hst hall hmark hfull hno' hms hD h6
          gi_wp2
          exact ⟨⟨k + 1, D :: Ds, _, _, _, _, _, _, _, _, rfl, by omega, HNO'.out, { HST6.out with ds := HMS.out }⟩, by simp [intOf]; omega⟩
        · obtain ⟨rest, hrest⟩ := nearL_found hS1 hS2 h6
          have HF := Lib.hid (HNO.out.found HPO.out HQO.out HR.out hrest (fun y hy => by obtain ⟨z, hz, rfl⟩ := List.mem_map.1 hy; exact hall z hz) hu)
          have hms := hst.ds.cons (D := D) (Nat.le_trans HSW4.out hD) hmark (fun e => by have := HDS4.out D e; omega)
          have HST6 := Lib.hid hst; have HMS := Lib.hid hms; have HIT := Lib.hid hit
          clear hS1 hS2 hst hall hmark hms hD h6 hrest hu hit
          gi_wp2
          refine leaves_marks (by simp) (D :: Ds) W HMS.out ?_
          have m0 := (show _ = some (Value.int .i64 x.c.num) from (HST6.out.bc.shut HMS.out).cell 0)
          have m1 := (show _ = some x.args from (HST6.out.bc.shut HMS.out).cell 1)
          have m2 := (show _ = some (Value.bool true) from (HST6.out.bb.shut HMS.out).cell 0)
          refine ⟨.tuple #[.agg #[.int .i64 x.c.num, x.args], .bool true], by simp [results, Tryz.results7, go_sem, m0, m1, m2], ?_⟩
          rw [HF.out]
          refine ⟨_, rfl, ?_, HST6.out.bl.trans (shut_below _ W HMS.out)⟩
          rw [show (findV (some x.c)).2.1.length = 4 from HIT.out.1]
          exact own_shut HIT.out.2 HMS.out
    · obtain rfl : k = 2 := by omega
      have HF := Lib.hid (hno.none HPO.out HQO.out)
      have k0 := (show _ = some (Value.int .i64 0) from hst.bc.cell 0); have k1 := (show _ = some (Value.slice none 0 0) from hst.bc.cell 1); have k2 := (show _ = some (Value.bool false) from hst.bb.cell 0)
      have f0 := hst.bc.frozen 0; have f1 := hst.bc.frozen 1; have f2 := hst.bb.frozen 0; have l1 := hst.bc.lt; have l2 := hst.bb.lt
      have HST := Lib.hid hst
      clear hno hst
      gi_wp2
      have hms := (HST.out.found (.int .i64 0) (.slice none 0 0) (u := .bool false))
      refine leaves_marks (by simp) Ds _ hms.ds ?_
      have m0 := (show _ = some (Value.int .i64 0) from (hms.bc.shut hms.ds).cell 0)
      have m1 := (show _ = some (Value.slice none 0 0) from (hms.bc.shut hms.ds).cell 1)
      have m2 := (show _ = some (Value.bool false) from (hms.bb.shut hms.ds).cell 0)
      refine ⟨.tuple #[.agg #[.int .i64 0, .slice none 0 0], .bool false], by simp [results, Tryz.results7, go_sem, m0, m1, m2], ?_⟩
      rw [HF.out]
      exact ⟨_, rfl, World.ownsRow_nil _ _ _ _, hms.bl.trans (shut_below _ _ hms.ds)⟩
set_option maxHeartbeats 4000000 in
theorem iFind_no (p q : Pol) (pv qv : Value) (w : World) (hP : PolIs w p pv) (hQ : PolIs w q qv) (hpw : Pow w) (hn : (polOkB p && polOkB q) = false) :
    Calls Tryz.prog 7 #[pv, qv] w (FindPost (findOf p q) w) := by
  have HP := Lib.hid hP; have HQ := Lib.hid hQ; have HPW := Lib.hid hpw
  have HF := Lib.hid (show findOf p q = none by unfold findOf; rw [hn]; rfl)
  obtain ⟨rv, css, rfl, ⟨A, n, c, rfl, hSA⟩, hR⟩ := hP
  obtain ⟨rv', css', rfl, ⟨A', n', c', rfl, hSA'⟩, hR'⟩ := hQ
  clear hSA hR hSA' hR' hpw
  obtain ⟨W, hW⟩ : ∃ W, W = (((w.alloc (.cells #[.slice A n c, .int .i64 p.els] 33)).alloc (.cells #[.slice A' n' c', .int .i64 q.els] 33)).alloc (.cells #[.int .i64 0, .slice none 0 0] 28)).alloc (.cells #[.bool false] 4) := ⟨_, rfl⟩
  have hst : FindSt w w.heap.size #[.slice A n c, .int .i64 p.els] #[.slice A' n' c', .int .i64 q.els] #[.slice A n c, .int .i64 p.els] [] #[.int .i64 0, .slice none 0 0] (.bool false) W := by
    rw [hW]
    have h1 := ((Blk.new (w.alloc (.cells #[.slice A n c, .int .i64 p.els] 33)) 33 #[.slice A' n' c', .int .i64 q.els]).alloc (.cells #[.int .i64 0, .slice none 0 0] 28)).alloc (.cells #[.bool false] 4)
    have h2 := (Blk.new ((w.alloc (.cells #[.slice A n c, .int .i64 p.els] 33)).alloc (.cells #[.slice A' n' c', .int .i64 q.els] 33)) 28 #[.int .i64 0, .slice none 0 0]).alloc (.cells #[.bool false] 4)
    have h3 := Blk.new (((w.alloc (.cells #[.slice A n c, .int .i64 p.els] 33)).alloc (.cells #[.slice A' n' c', .int .i64 q.els] 33)).alloc (.cells #[.int .i64 0, .slice none 0 0] 28)) 4 #[.bool false]
    rw [World.size_alloc] at h1
    rw [World.size_alloc, World.size_alloc] at h2
    rw [World.size_alloc, World.size_alloc, World.size_alloc] at h3
    exact ⟨(((Blk.new w _ _).alloc _).alloc _).alloc _, h1, h2, h3, (((Blk.new w _ _).alloc _).alloc _).alloc _, Marks.nil _ _, by go_grown⟩
  have x0 := (show _ = some (Value.slice A n c) from hst.bp.cell 0); have x1 := (show _ = some (Value.int .i64 p.els) from hst.bp.cell 1)
  have HW := Lib.hid hW; have HS := Lib.hid hst; have HN := Lib.hid hn
  clear hW hst hn
  refine (callsIn_wide (n := 9)).1 ?_
  refine callsIn_of_wp_marks Tryz.func7 rfl trivial ?_ rfl
  simp only [Tryz.ntmps7, List.size_toArray, List.length_cons, List.length_nil, Nat.reduceAdd, Nat.reduceSub, Array.replicate_succ, Array.replicate_zero, List.push_toArray, List.append_toArray, List.nil_append, List.cons_append]
  gi_upto_region 1 with (fail)
  rw [← HW.out]
  gi_wp2_with fail
  refine ⟨trivial, ?_⟩
  refine (callsIn_wide.2 (iPolicyOk_any p _ _ (HP.out.below HS.out.bl) (HPW.out.below HS.out.bl))).mono ?_; rintro e w2 ⟨rfl, hb2⟩
  have hst2 := HS.out.below hb2
  clear x0 x1 hb2
  cases hp : polOkB p with
  | false =>
    have k0 := (show _ = some (Value.int .i64 0) from hst2.bc.cell 0); have k1 := (show _ = some (Value.slice none 0 0) from hst2.bc.cell 1); have k2 := (show _ = some (Value.bool false) from hst2.bb.cell 0)
    have f0 := hst2.bc.frozen 0; have f1 := hst2.bc.frozen 1; have f2 := hst2.bb.frozen 0; have l1 := hst2.bc.lt; have l2 := hst2.bb.lt
    have HST := Lib.hid hst2
    clear hst2
    gi_wp2_with fail
    refine ⟨trivial, ?_⟩
    gi_wp2
    have hms := (HST.out.found (.int .i64 0) (.slice none 0 0) (u := .bool false))
    refine leaves_marks (u := .returning) (by simp) [] _ hms.ds ?_
    have m0 := (show _ = some (Value.int .i64 0) from (hms.bc.shut hms.ds).cell 0)
    have m1 := (show _ = some (Value.slice none 0 0) from (hms.bc.shut hms.ds).cell 1)
    have m2 := (show _ = some (Value.bool false) from (hms.bb.shut hms.ds).cell 0)
    refine ⟨.tuple #[.agg #[.int .i64 0, .slice none 0 0], .bool false], by simp [results, Tryz.results7, go_sem, m0, m1, m2], ?_⟩
    rw [HF.out]
    exact ⟨_, rfl, World.ownsRow_nil _ _ _ _, hms.bl.trans (shut_below _ _ hms.ds)⟩
  | true =>
    have HQF := Lib.hid (show polOkB q = false by have := HN.out; rw [hp] at this; simpa using this)
    have y0 := (show _ = some (Value.slice A' n' c') from hst2.bq.cell 0); have y1 := (show _ = some (Value.int .i64 q.els) from hst2.bq.cell 1)
    have HS2 := Lib.hid hst2
    clear hst2
    gi_wp2_with fail
    refine ⟨trivial, ?_⟩
    refine (callsIn_wide.2 (iPolicyOk_any q _ _ (HQ.out.below HS2.out.bl) (HPW.out.below HS2.out.bl))).mono ?_; rintro e w3 ⟨rfl, hb3⟩
    rw [HQF.out]
    have hst3 := HS2.out.below hb3
    clear y0 y1 hb3
    have k0 := (show _ = some (Value.int .i64 0) from hst3.bc.cell 0); have k1 := (show _ = some (Value.slice none 0 0) from hst3.bc.cell 1); have k2 := (show _ = some (Value.bool false) from hst3.bb.cell 0)
    have f0 := hst3.bc.frozen 0; have f1 := hst3.bc.frozen 1; have f2 := hst3.bb.frozen 0; have l1 := hst3.bc.lt; have l2 := hst3.bb.lt
    have HST := Lib.hid hst3
    clear hst3
    gi_wp2
    have hms := (HST.out.found (.int .i64 0) (.slice none 0 0) (u := .bool false))
    refine leaves_marks (u := .returning) (by simp) [] _ hms.ds ?_
    have m0 := (show _ = some (Value.int .i64 0) from (hms.bc.shut hms.ds).cell 0)
    have m1 := (show _ = some (Value.slice none 0 0) from (hms.bc.shut hms.ds).cell 1)
    have m2 := (show _ = some (Value.bool false) from (hms.bb.shut hms.ds).cell 0)
    refine ⟨.tuple #[.agg #[.int .i64 0, .slice none 0 0], .bool false], by simp [results, Tryz.results7, go_sem, m0, m1, m2], ?_⟩
    rw [HF.out]
    exact ⟨_, rfl, World.ownsRow_nil _ _ _ _, hms.bl.trans (shut_below _ _ hms.ds)⟩
theorem iPolicyFind_any (p q : Pol) (pv qv : Value) (w : World) (hP : PolIs w p pv) (hQ : PolIs w q qv) (hpw : Pow w) : Calls Tryz.prog 7 #[pv, qv] w (FindPost (findOf p q) w) := by
  cases h : polOkB p && polOkB q with
  | true =>
    simp only [Bool.and_eq_true] at h
    exact iFind_ok p q pv qv w hP hQ hpw h.1 h.2
  | false => exact iFind_no p q pv qv w hP hQ hpw h
end Go.Proofs.YtkiacbfpnidjlaaGreatDoor
