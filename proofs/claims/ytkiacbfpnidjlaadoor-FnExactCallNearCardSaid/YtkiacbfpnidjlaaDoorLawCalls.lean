/- Rows of calls that are held one against the other, marked, and looked at again: eqCallS, markCallS, heldCallS. -/
import Derived.Test.YtkiacbfpnidjlaaDoorNearC
import Derived.Test.YtkiacbfpnidjlaaDoorLawA
import Derived.Test.YtkiacbfpnidjlaaDoorLawCall
namespace Go.Proofs.YtkiacbfpnidjlaaDoor
open Go.RowKit
set_option linter.unusedSimpArgs false
set_option linter.unusedVariables false

def callCells (xs : List NItem) : List (List Value) := xs.map fun x => [Value.int .i64 x.c.num, x.args]
theorem callCells_rows (xs : List NItem) : ∀ r ∈ callCells xs, r.length = 2 := fun r hr => by obtain ⟨x, _, rfl⟩ := List.mem_map.1 hr; rfl
/-- A row of calls that is read. -/
def CallsSl (W : World) (v : Value) (xs : List NItem) : Prop := Sl W 2 v (callCells xs) ∧ ∀ x ∈ xs, Sl W 1 x.args (ints x.c.args)
theorem CallsSl.below {W W' : World} {v : Value} {xs : List NItem} (h : CallsSl W v xs) (hb : Below W.heap.size W W') : CallsSl W' v xs := ⟨h.1.below hb, fun x hx => (h.2 x hx).below hb⟩
theorem CallsRow.sl {W : World} {base : Nat} {v : Value} {xs : List NItem} (h : CallsRow W base v xs) : CallsSl W v xs :=
  ⟨SlA.of_own (cs := callCells xs) h.row (by simp [callCells]) (callCells_rows xs), fun x hx => SlA.of_own (h.args x hx).2 (by rw [ints_len]; exact (h.args x hx).1) (ints_rows _)⟩
theorem CallsSl.get {W : World} {v : Value} {xs : List NItem} (h : CallsSl W v xs) : ∃ A c, v = .slice A xs.length c ∧ xs.length ≤ c ∧ c ≤ 9223372036854775807 ∧ ∀ k, k < xs.length → ∃ b off x, A = some ⟨b, off, none⟩ ∧ b < W.heap.size ∧ xs[k]? = some x ∧ Sl W 1 x.args (ints x.c.args) ∧ ∀ (W' : World) (B : Nat), Below B W W' → b < B → W'.cell? ⟨b, off + k * 2, none⟩ = some (.int .i64 x.c.num) ∧ W'.cell? ⟨b, off + k * 2 + 1, none⟩ = some x.args := by
  obtain ⟨⟨A, n, c, rfl, hA⟩, h2⟩ := h
  have hl : xs.length = n := by have := hA.len; rwa [callCells, List.length_map] at this
  have hc := hA.cap
  have hm := hA.max
  unfold maxLen at hm
  refine ⟨A, c, by rw [hl], by omega, by omega, fun k hk => ?_⟩
  obtain ⟨b, off, rfl, hab, hel⟩ := hA.get (k := k) (by omega)
  have hx : xs[k]? = some (xs[k]'hk) := List.getElem?_eq_getElem hk
  have hr : (callCells xs)[k]? = some [.int .i64 (xs[k]'hk).c.num, (xs[k]'hk).args] := by rw [callCells, List.getElem?_map, hx]; rfl
  refine ⟨b, off, xs[k]'hk, rfl, hab, hx, h2 _ (List.getElem_mem hk), fun W' B hb hB => ⟨?_, ?_⟩⟩
  · exact (hb.cell (p := ⟨b, off + k * 2, none⟩) hB).trans (by have := hel _ hr 0 _ rfl; simpa using this)
  · exact (hb.cell (p := ⟨b, off + k * 2 + 1, none⟩) hB).trans (hel _ hr 1 _ rfl)

set_option maxHeartbeats 2000000 in
theorem eqCallS_same (u v : Value) (xs ys : List NItem) (w : World) (hu : CallsSl w u xs) (hv : CallsSl w v ys) (he : xs.map NItem.c = ys.map NItem.c) :
    Calls Tryd.prog 10 #[u, v] w fun e w' => e = .returned (.bool true) ∧ Below w.heap.size w w' := by
  obtain ⟨A, c, rfl, hc1, hc2, hget⟩ := hu.get
  obtain ⟨A', c', rfl, hc1', hc2', hget'⟩ := hv.get
  have hl : ys.length = xs.length := by have := congrArg List.length he; simpa using this.symm
  rw [hl] at hc1' hget' ⊢
  have hnn : ((xs.length : Int) != (xs.length : Int)) = false := by simp
  have HG := Lib.hid hget; have HG' := Lib.hid hget'; have HE := Lib.hid he
  clear hget hget' he hu hv hl
  go_enter Tryd.func10, Tryd.ntmps10
  go_wp2
  go_loopw [5] (fun i wr => ∃ k : Nat, k ≤ xs.length ∧ i = .int .i64 k ∧ Below w.heap.size w wr) (fun i _ => xs.length - (intOf i).toNat)
  case atStart => exact ⟨0, Nat.zero_le _, rfl, Below.refl _ _⟩
  case round =>
    obtain ⟨k, hk, rfl, hb⟩ := hrel
    have hsz := hb.size
    by_cases hlt : k < xs.length
    · have hki : (k : Int) < xs.length := by omega
      obtain ⟨b, off, x, rfl, hab, hx, hsx, hcell⟩ := HG.out k hlt
      obtain ⟨b', off', y, rfl, hab', hy, hsy, hcell'⟩ := HG'.out k hlt
      have hxy : x.c = y.c := by
        have h1 : (xs.map NItem.c)[k]? = some x.c := by rw [List.getElem?_map, hx]; rfl
        have h2 : (ys.map NItem.c)[k]? = some y.c := by rw [List.getElem?_map, hy]; rfl
        rw [HE.out, h2] at h1
        exact (Option.some.inj h1).symm
      obtain ⟨c0, c1⟩ := hcell wr _ hb hab
      obtain ⟨d0, d1⟩ := hcell' wr _ hb hab'
      have HS1 := Lib.hid (hsx.below hb); have HS2 := Lib.hid (hsy.below hb)
      obtain ⟨xc, xg, xp⟩ := x
      obtain ⟨yc, yg, yp⟩ := y
      simp only at hxy
      subst hxy
      have HQ := Lib.hid (show callEq xc.num xc.num xc.args xc.args = true from callEq_iff.2 ⟨rfl, rfl⟩)
      simp only [NItem.args] at c1 d1 HS1 HS2
      clear hx hy hsx hsy hcell hcell' hab hab' hlt
      go_wp2
      refine wp_region_quiet_below (by kernel_rfl) (by kernel_rfl) ?_
      have r0 := cell_regrown c0; have r1 := cell_regrown c1
      have s0 := cell_regrown d0; have s1 := cell_regrown d1
      repeat (quiet_step (exact Calls.regrown_of (eqCall_any xc.num xc.num (.slice (some ⟨xg, 0, none⟩) 4 xp) (.slice (some ⟨yg, 0, none⟩) 4 yp) xc.args xc.args _ (HS1.out.below (below_regrown _ _ _)) (HS2.out.below (below_regrown _ _ _)))))
      refine wpQuiet_nil ?_
      intro _ hw'
      obtain ⟨⟨dq, osq⟩, hw''⟩ := hw'
      subst hw''
      rw [HQ.out]
      go_wp2
      exact ⟨⟨k + 1, by omega, by go_num, below_step hb hsz (below_regrown _ _ _)⟩, by simp [intOf]; omega⟩
    · obtain rfl : k = xs.length := by omega
      go_wp2
      go_ret
      exact ⟨rfl, hb⟩

/-- What marks are laid. -/
def markC (m : Int) (x : NItem) : NItem := { x with c := ⟨m, marks (m + 1) 4⟩ }
def marked : Int → List NItem → List NItem
  | _, [] => []
  | m, x :: xs => markC m x :: marked (m + 5) xs
theorem marked_len : ∀ (m : Int) (xs : List NItem), (marked m xs).length = xs.length
  | _, [] => rfl
  | m, x :: xs => by simp [marked, marked_len (m + 5) xs]
theorem marked_get : ∀ (m : Int) (xs : List NItem) (k : Nat) (x : NItem), xs[k]? = some x → (marked m xs)[k]? = some (markC (m + 5 * k) x)
  | _, [], k, x, h => by simp at h
  | m, y :: xs, 0, x, h => by simp at h; subst h; simp [marked]
  | m, y :: xs, k + 1, x, h => by
    have := marked_get (m + 5) xs k x (by simpa using h)
    simp only [marked, List.getElem?_cons_succ]
    rw [this]
    congr 2
    push_cast
    omega
theorem marked_snoc : ∀ (m : Int) (xs : List NItem) (x : NItem), marked m (xs ++ [x]) = marked m xs ++ [markC (m + 5 * xs.length) x]
  | m, [], x => by simp [marked]
  | m, y :: xs, x => by
    simp only [List.cons_append, marked, marked_snoc (m + 5) xs x, List.length_cons]
    congr 4
    push_cast
    omega

theorem own_valSet {w : World} {base g n cap size i : Nat} {e : TypeId} {xs : List Value} (h : w.ownsRow base e size (.slice (some ⟨g, 0, none⟩) n cap) n xs) (hi : i < xs.length) (u : Value) :
    (w.setCell ⟨g, i, none⟩ u).ownsRow base e size (.slice (some ⟨g, 0, none⟩) n cap) n (xs.set i u) := by
  refine ⟨by rw [List.length_set]; exact h.1, ?_⟩
  have hl := h.1
  rcases h.2 with ⟨h0, _⟩ | ⟨g', cap', cur, e1, hge, hg, hmc, hm, hcs, ht⟩
  · cases h0
  · injection e1 with e1 _ e3
    injection e1 with e1
    injection e1 with e1 _ _
    subst e1; subst e3
    refine .inr ⟨g, cap, cur.setIfInBounds i u, rfl, hge, Blk.set_ hg i _, hmc, hm, by simpa using hcs, ?_⟩
    rw [← ht]
    apply List.ext_getElem?
    intro j
    simp only [List.getElem?_take, List.getElem?_set, Array.toList_setIfInBounds, List.length_take, Array.length_toList]
    have hle : n * size ≤ cap * size := Nat.mul_le_mul_right _ hmc
    split <;> split <;> simp_all <;> omega
theorem callCells_set : ∀ (xs : List NItem) (k : Nat) (x : NItem) (m : Int) (c : Cl), xs[k]? = some x → c.num = m → (callCells xs).flatten.set (k * 2) (.int .i64 m) = (callCells (xs.set k { x with c := c })).flatten
  | [], k, x, m, c, h, _ => by simp at h
  | y :: xs, 0, x, m, c, h, hc => by
    simp at h; subst h; subst hc
    simp [callCells, NItem.args]
  | y :: xs, k + 1, x, m, c, h, hc => by
    have ih := callCells_set xs k x m c (by simpa using h) hc
    have e : (k + 1) * 2 = k * 2 + 2 := by omega
    simp only [callCells, List.map_cons, List.flatten_cons, List.set_cons_succ] at ih ⊢
    rw [e]
    simp only [List.cons_append, List.nil_append, List.set_cons_succ, ih]
theorem CallsRow.ne {W : World} {base : Nat} {v : Value} {xs : List NItem} (h : CallsRow W base v xs) {j k : Nat} {x y : NItem} (hx : xs[k]? = some x) (hy : xs[j]? = some y) (hjk : j ≠ k) : y.g ≠ x.g := by
  have hp := List.pairwise_iff_getElem.1 h.up
  obtain ⟨h1, rfl⟩ := List.getElem?_eq_some_iff.1 hx
  obtain ⟨h2, rfl⟩ := List.getElem?_eq_some_iff.1 hy
  rcases Nat.lt_or_gt_of_ne hjk with e | e
  · have := hp j k h2 h1 e; omega
  · have := hp k j h1 h2 e; omega
theorem CallsRow.mark {W W2 : World} {base g n cap k : Nat} {L : List NItem} {x : NItem} {m : Int} (h : CallsRow W base (.slice (some ⟨g, 0, none⟩) n cap) L) (hn : L.length = n) (hx : L[k]? = some x)
    (hg : (W.setCell ⟨g, k * 2, none⟩ (.int .i64 m)).grownBy W2 (some x.g)) (ho : W2.ownsRow base 3 1 x.args 4 (ints (marks (m + 1) 4)).flatten) : CallsRow W2 base (.slice (some ⟨g, 0, none⟩) n cap) (L.set k (markC m x)) := by
  have hk := (List.getElem?_eq_some_iff.1 hx).1
  have hxb := (h.args x (List.mem_of_getElem? hx)).2
  subst hn
  have hgt : ∀ cs fr, W.heap[g]? ≠ some (.cells cs 3 fr) := fun cs fr e => by
    obtain ⟨cs', fr', e2⟩ : ∃ cs fr, W.heap[g]? = some (.cells cs 42 fr) := by
      rcases h.row.2 with ⟨h0, _⟩ | ⟨g', cap', cur, e1, _, hh, _⟩
      · cases h0
      · injection e1 with e1 _ _
        injection e1 with e1
        injection e1 with e1 _ _
        subst e1
        exact ⟨_, _, hh⟩
    rw [e2] at e; cases e
  refine ⟨?_, fun y hy => ?_, ?_⟩
  · have h1 := own_valSet (i := k * 2) h.row (by rw [h.row.1]; omega) (.int .i64 m)
    have h2 := callCells_set L k x m ⟨m, marks (m + 1) 4⟩ hx rfl
    unfold callCells at h2
    rw [h2] at h1
    rw [List.length_set]
    refine own_grownN h1 hg (fun r e => ?_)
    cases e
    intro e2
    have e3 : g = x.g := by simpa [Value.ownBlock] using e2
    rcases hxb.2 with ⟨h0, _⟩ | ⟨g', cap', cur, e1, _, hh, _⟩
    · cases h0
    · injection e1 with e1 _ _
      injection e1 with e1
      injection e1 with e1 _ _
      rw [e3, e1] at hgt
      exact hgt _ _ hh
  · obtain ⟨j, hj⟩ := List.mem_iff_getElem?.1 hy
    by_cases e : j = k
    · subst e
      rw [List.getElem?_set_self hk] at hj
      cases hj
      exact ⟨by simp [markC, marks_len], ho⟩
    · rw [List.getElem?_set_ne (fun e2 => e e2.symm)] at hj
      have hya := h.args y (List.mem_of_getElem? hj)
      refine ⟨hya.1, own_grownN (ownsRow_setCell_other (a := ⟨g, k * 2, none⟩) hya.2 (own_typeN hya.2 hgt) _) hg (fun r e2 => ?_)⟩
      cases e2
      intro e3
      have : y.g = x.g := by simpa [Value.ownBlock, NItem.args] using e3
      exact h.ne hx hj e this
  · have h1 : ((L.set k (markC m x)).map NItem.g) = L.map NItem.g := by
      rw [List.map_set]
      apply List.ext_getElem?
      intro j
      by_cases e : j = k
      · subst e
        rw [List.getElem?_set_self (by simpa using hk), List.getElem?_map, hx]; rfl
      · rw [List.getElem?_set_ne (fun e2 => e e2.symm)]
    have h2 : (L.map NItem.g).Pairwise (· < ·) := List.pairwise_map.2 h.up
    rw [← h1] at h2
    exact List.pairwise_map.1 h2

set_option maxHeartbeats 2000000 in
theorem markCallS_own (base : Nat) (v : Value) (xs : List NItem) (m : Int) (w : World) (h : CallsRow w base v xs) (hb : base ≤ w.heap.size) (hn : xs.length ≤ 1000) (hm : 0 ≤ m) (hm2 : m ≤ 1000000000) :
    Calls Tryd.prog 13 #[v, .int .i64 m] w fun e w' => e = .returned (.int .i64 (m + 5 * xs.length)) ∧ CallsRow w' base v (marked m xs) ∧ Below base w w' := by
  obtain ⟨A, c, rfl, hc1, hc2, -⟩ := h.sl.get
  have H := Lib.hid h
  clear h
  go_enter Tryd.func13, Tryd.ntmps13
  go_wp2
  go_loopw [1, 5] (fun mv i wr => ∃ k : Nat, k ≤ xs.length ∧ i = .int .i64 k ∧ mv = .int .i64 (m + 5 * k) ∧ Hid (CallsRow wr base (.slice A xs.length c) (marked m (xs.take k) ++ xs.drop k)) ∧ Hid (Below base w wr)) (fun _ i _ => xs.length - (intOf i).toNat)
  case atStart => exact ⟨0, Nat.zero_le _, rfl, by simp, by simpa [marked] using H, Lib.hid (Below.refl _ _)⟩
  case round =>
    obtain ⟨k, hk, rfl, rfl, HR, HB⟩ := hrel
    by_cases hlt : k < xs.length
    · have hki : (k : Int) < xs.length := by omega
      obtain ⟨L, hL⟩ : ∃ L, L = marked m (xs.take k) ++ xs.drop k := ⟨_, rfl⟩
      rw [← hL] at HR
      have hml : (marked m (xs.take k)).length = k := by rw [marked_len, List.length_take]; omega
      have hll : L.length = xs.length := by rw [hL, List.length_append, hml, List.length_drop]; omega
      obtain ⟨x, hx⟩ : ∃ x, xs[k]? = some x := ⟨_, List.getElem?_eq_getElem hlt⟩
      have hLx : L[k]? = some x := by rw [hL, List.getElem?_append_right (by omega), hml, Nat.sub_self, List.getElem?_drop]; simpa using hx
      have hnext : L.set k (markC (m + 5 * k) x) = marked m (xs.take (k + 1)) ++ xs.drop (k + 1) := by
        have e1 : xs.take (k + 1) = xs.take k ++ [x] := by rw [List.take_add_one, hx]; rfl
        have e2 : xs.drop k = x :: xs.drop (k + 1) := by
          rw [List.drop_eq_getElem_cons hlt]
          congr 1
          rw [List.getElem?_eq_getElem hlt] at hx
          exact Option.some.inj hx
        rw [e1, marked_snoc, hL, e2, List.set_append_right _ _ (by omega), hml, Nat.sub_self, List.set_cons_zero, List.append_assoc]
        congr 4
        rw [List.length_take]
        omega
      obtain ⟨g, cap, e, hgb, hgl⟩ := HR.out.row.form (by omega)
      have hA : A = some ⟨g, 0, none⟩ := by injection e with e1 _ _
      subst hA
      obtain ⟨A2, c2, e2, _, _, hget⟩ := HR.out.sl.get
      obtain ⟨b, off, x', hA2, hab, hx', _, hcell⟩ := hget k (by omega)
      have e3 : (some ⟨g, 0, none⟩ : Option Addr) = A2 := by injection e2
      have e4 : (⟨g, 0, none⟩ : Addr) = ⟨b, off, none⟩ := by rw [hA2] at e3; exact Option.some.inj e3
      have e5 : g = b := by injection e4
      have e6 : 0 = off := by injection e4
      subst e5; subst e6
      rw [hLx] at hx'; cases hx'
      clear e2 e3 e4 hA2
      obtain ⟨c0, c1⟩ := hcell wr _ (Below.refl _ _) hab
      simp only [Nat.zero_add] at c0 c1
      have f0 : wr.frozen? ⟨g, k * 2, none⟩ = false := by
        rcases HR.out.row.2 with ⟨h0, _⟩ | ⟨g', cap', cur, e1, _, hh, _⟩
        · cases h0
        · injection e1 with e1 _ _
          injection e1 with e1
          injection e1 with e1 _ _
          subst e1
          simp [World.frozen?, hh]
      have HLX := Lib.hid hLx; have HLL := Lib.hid hll; have HNX := Lib.hid hnext
      have HXA := Lib.hid (HR.out.args x (List.mem_of_getElem? hLx))
      simp only [NItem.args] at c1
      clear hL hml hll hx hLx hnext hget hcell e hab
      have hbn1 : m + 5 * (k : Int) + 1 ≤ 4611686018427387904 := by omega
      have hbn2 : 0 ≤ m + 5 * (k : Int) := by omega
      have hxb : base ≤ x.g ∧ x.g < wr.heap.size := HXA.out.2.lt x.g rfl
      have HOX := Lib.hid (show (wr.setCell ⟨g, k * 2, none⟩ (.int .i64 (m + 5 * k))).ownsRow base 3 1 x.args 4 (ints x.c.args).flatten from ownsRow_setCell_other (a := ⟨g, k * 2, none⟩) HXA.out.2 (own_typeN HXA.out.2 (fun cs fr e2 => by
        obtain ⟨cs', fr', e3⟩ : ∃ cs fr, wr.heap[g]? = some (.cells cs 42 fr) := by
          rcases HR.out.row.2 with ⟨h0, _⟩ | ⟨g', cap', cur, e1, _, hh, _⟩
          · cases h0
          · injection e1 with e1 _ _
            injection e1 with e1
            injection e1 with e1 _ _
            subst e1
            exact ⟨_, _, hh⟩
        rw [e3] at e2; cases e2)) _)
      go_wp2_with fail
      refine (markIntS_own base x.args x.c.args 4 _ _ HXA.out.1 HOX.out (by omega) (by omega) (by omega)).mono ?_; rintro e w2 ⟨rfl, hg2, ho2⟩
      have HM := Lib.hid (CallsRow.mark HR.out HLL.out HLX.out hg2 ho2)
      have HB2 := Lib.hid (((HB.out.setCell (p := ⟨g, k * 2, none⟩) hgb (.int .i64 (m + 5 * k))).grown hg2 (by have := HB.out.size; simp; omega) (fun r e => by
        have e2 : x.g = r := by simpa [Value.ownBlock, NItem.args] using e
        omega)))
      clear hg2 ho2
      go_wp2
      refine ⟨⟨k + 1, by omega, by go_num, ?_, Lib.hid (by rw [← HNX.out]; exact HM.out), HB2⟩, by simp [intOf]; omega⟩
      congr 1
      push_cast
      omega
    · obtain rfl : k = xs.length := by omega
      have HR2 : Hid (CallsRow wr base (.slice A xs.length c) (marked m xs)) := Lib.hid (by have := HR.out; simpa using this)
      go_wp2
      go_ret
      exact ⟨rfl, HR2.out, HB.out⟩

set_option maxHeartbeats 2000000 in
theorem heldCallS_marks (base : Nat) (v : Value) (xs : List NItem) (m : Int) (w : World) (h : CallsRow w base v (marked m xs)) (hn : xs.length ≤ 1000) (hm : 0 ≤ m) (hm2 : m ≤ 1000000000) :
    Calls Tryd.prog 14 #[v, .int .i64 m] w fun e w' => e = .returned (.int .i64 (m + 5 * xs.length)) ∧ w = w' := by
  obtain ⟨A, c, rfl, hc1, hc2, hget⟩ := h.sl.get
  rw [marked_len] at hc1 hget ⊢
  have HG := Lib.hid hget
  clear h hget
  go_enter Tryd.func14, Tryd.ntmps14
  go_wp2
  go_loopw [1, 5] (fun mv i wr => ∃ k : Nat, k ≤ xs.length ∧ i = .int .i64 k ∧ mv = .int .i64 (m + 5 * k) ∧ wr = w) (fun _ i _ => xs.length - (intOf i).toNat)
  case atStart => exact ⟨0, Nat.zero_le _, rfl, by simp, rfl⟩
  case round =>
    obtain ⟨k, hk, rfl, rfl, rfl⟩ := hrel
    by_cases hlt : k < xs.length
    · have hki : (k : Int) < xs.length := by omega
      obtain ⟨b, off, y, rfl, hab, hy, hsy, hcell⟩ := HG.out k hlt
      obtain ⟨x, hx⟩ : ∃ x, xs[k]? = some x := ⟨_, List.getElem?_eq_getElem hlt⟩
      have hyx := marked_get m xs k x hx
      rw [hy] at hyx
      cases hyx
      obtain ⟨c0, c1⟩ := hcell wr _ (Below.refl _ _) hab
      simp only [markC, NItem.args] at c0 c1 hsy
      have HS := Lib.hid hsy
      have hbn1 : m + 5 * (k : Int) + 1 ≤ 4611686018427387904 := by omega
      have hbn2 : 0 ≤ m + 5 * (k : Int) := by omega
      have hne : ((m + 5 * (k : Int)) != (m + 5 * (k : Int))) = false := by simp
      have hng : ¬ (m + 5 * (k : Int) + 1 + 4 < 0) := by omega
      clear hx hy hsy hcell hab hlt
      go_wp2_with fail
      refine (heldIntS_marks (.slice (some ⟨x.g, 0, none⟩) 4 x.cap) 4 _ _ HS.out (by omega) (by omega) (by omega)).mono ?_; rintro e w2 ⟨rfl, rfl⟩
      have hng2 : ¬ (m + 5 * (k : Int) + 1 + ((4 : Nat) : Int) < 0) := by omega
      go_wp2
      refine ⟨⟨k + 1, by omega, by go_num, ?_, by first | rfl | trivial⟩, by simp [intOf]; omega⟩
      congr 1
      push_cast
      omega
    · obtain rfl : k = xs.length := by omega
      go_wp2
      go_ret
      exact ⟨rfl, rfl⟩
end Go.Proofs.YtkiacbfpnidjlaaDoor
