/- Rows of calls that are held one against the other, marked, and looked at again: eqCallS, markCallS, heldCallS. -/
import Derived.Test.YtkiacbfpnidjlaaGreatDoorNearC
import Derived.Test.YtkiacbfpnidjlaaGreatDoorLawA
import Derived.Test.YtkiacbfpnidjlaaGreatDoorLawCall
namespace Go.Proofs.YtkiacbfpnidjlaaGreatDoor
open Go.RowKit
set_option linter.unusedSimpArgs false
set_option linter.unusedVariables false

def callCells (xs : List NItem) : List (List Value) := xs.map fun x => [Value.int .i64 x.c.num, x.args]
theorem callCells_rows (xs : List NItem) : ∀ r ∈ callCells xs, r.length = 2 := fun r hr => by obtain ⟨x, _, rfl⟩ := List.mem_map.1 hr; rfl
/-- A row of calls that is read. -/
def CallsSl (W : World) (v : Value) (xs : List NItem) : Prop := Sl W 2 v (callCells xs) ∧ ∀ x ∈ xs, Sl W 1 x.args (ints x.c.args)
theorem CallsSl.below {W W' : World} {v : Value} {xs : List NItem} (h : CallsSl W v xs) (hb : Below W.heap.size W W') : CallsSl W' v xs := ⟨h.1.below hb, fun x hx => (h.2 x hx).below hb⟩
theorem CallsRow.sl {W : World} {base : Nat} {v : Value} {xs : List NItem} (h : CallsRow W base v xs) : CallsSl W v xs :=
  ⟨SlA.of_own (cs := callCells xs) h.row (by simp [callCells]) (callCells_rows xs), fun x hx => SlA.of_own (h.args x hx).2 (by rw [ints_len]; exact (h.args x hx).1) (ints_rows _)⟩
theorem CallsSl.get {W : World} {v : Value} {xs : List NItem} (h : CallsSl W v xs) : ∃ A c, v = .slice A xs.length c ∧ xs.length ≤ c ∧ c ≤ 9223372036854775807 ∧ ∀ k, k < xs.length → ∃ b off x, A = some ⟨b, off, none⟩ ∧ b < W.heap.size ∧ xs[k]? = some x ∧ Sl W 1 x.args (ints x.c.args) ∧ ∀ (W' : World) (B : Nat), Below B W W' → b < B → W'.cell? ⟨b, off + k * 2, none⟩ = some (.int .i64 x.c.num) ∧ W'.cell? ⟨b, off + k * 2 + 1, none⟩ = some x.args := by
  obtain ⟨⟨A, n, c, rfl, hA⟩, h2⟩ := h
  have hl : xs.length = n := by have := hA.len; rwa [callCells, List.length_map] at this
  have hc := hA.cap
  have hm := hA.max
  unfold maxLen at hm
  refine ⟨A, c, by rw [hl], by omega, by omega, fun k hk => ?_⟩
  obtain ⟨b, off, rfl, hab, hel⟩ := hA.get (k := k) (by omega)
  have hx : xs[k]? = some (xs[k]'hk) := List.getElem?_eq_getElem hk
  have hr : (callCells xs)[k]? = some [.int .i64 (xs[k]'hk).c.num, (xs[k]'hk).args] := by rw [callCells, List.getElem?_map, hx]; rfl
  refine ⟨b, off, xs[k]'hk, rfl, hab, hx, h2 _ (List.getElem_mem hk), fun W' B hb hB => ⟨?_, ?_⟩⟩
  · exact (hb.cell (p := ⟨b, off + k * 2, none⟩) hB).trans (by have := hel _ hr 0 _ rfl; simpa using this)
  · exact (hb.cell (p := ⟨b, off + k * 2 + 1, none⟩) hB).trans (hel _ hr 1 _ rfl)

/-- What marks are laid. -/
def markC (m : Int) (x : NItem) : NItem := { x with c := ⟨m, marks (m + 1) 4⟩ }
def marked : Int → List NItem → List NItem
  | _, [] => []
  | m, x :: xs => markC m x :: marked (m + 5) xs
theorem marked_len : ∀ (m : Int) (xs : List NItem), (marked m xs).length = xs.length
  | _, [] => rfl
  | m, x :: xs => by simp [marked, marked_len (m + 5) xs]
theorem marked_get : ∀ (m : Int) (xs : List NItem) (k : Nat) (x : NItem), xs[k]? = some x → (marked m xs)[k]? = some (markC (m + 5 * k) x)
  | _, [], k, x, h => by simp at h
  | m, y :: xs, 0, x, h => by simp at h; subst h; simp [marked]
  | m, y :: xs, k + 1, x, h => by
    have := marked_get (m + 5) xs k x (by simpa using h)
    simp only [marked, List.getElem?_cons_succ]
    rw [this]
    congr 2
    push_cast
    omega
theorem marked_snoc : ∀ (m : Int) (xs : List NItem) (x : NItem), marked m (xs ++ [x]) = marked m xs ++ [markC (m + 5 * xs.length) x]
  | m, [], x => by simp [marked]
  | m, y :: xs, x => by
    simp only [List.cons_append, marked, marked_snoc (m + 5) xs x, List.length_cons]
    congr 4
    push_cast
    omega

theorem own_valSet {w : World} {base g n cap size i : Nat} {e : TypeId} {xs : List Value} (h : w.ownsRow base e size (.slice (some ⟨g, 0, none⟩) n cap) n xs) (hi : i < xs.length) (u : Value) :
    (w.setCell ⟨g, i, none⟩ u).ownsRow base e size (.slice (some ⟨g, 0, none⟩) n cap) n (xs.set i u) := by
  refine ⟨by rw [List.length_set]; exact h.1, ?_⟩
  have hl := h.1
  rcases h.2 with ⟨h0, _⟩ | ⟨g', cap', cur, e1, hge, hg, hmc, hm, hcs, ht⟩
  · cases h0
  · injection e1 with e1 _ e3
    injection e1 with e1
    injection e1 with e1 _ _
    subst e1; subst e3
    refine .inr ⟨g, cap, cur.setIfInBounds i u, rfl, hge, Blk.set_ hg i _, hmc, hm, by simpa using hcs, ?_⟩
    rw [← ht]
    apply List.ext_getElem?
    intro j
    simp only [List.getElem?_take, List.getElem?_set, Array.toList_setIfInBounds, List.length_take, Array.length_toList]
    have hle : n * size ≤ cap * size := Nat.mul_le_mul_right _ hmc
    split <;> split <;> simp_all <;> omega
theorem callCells_set : ∀ (xs : List NItem) (k : Nat) (x : NItem) (m : Int) (c : Cl), xs[k]? = some x → c.num = m → (callCells xs).flatten.set (k * 2) (.int .i64 m) = (callCells (xs.set k { x with c := c })).flatten
  | [], k, x, m, c, h, _ => by simp at h
  | y :: xs, 0, x, m, c, h, hc => by
    simp at h; subst h; subst hc
    simp [callCells, NItem.args]
  | y :: xs, k + 1, x, m, c, h, hc => by
    have ih := callCells_set xs k x m c (by simpa using h) hc
    have e : (k + 1) * 2 = k * 2 + 2 := by omega
    simp only [callCells, List.map_cons, List.flatten_cons, List.set_cons_succ] at ih ⊢
    rw [e]
    simp only [List.cons_append, List.nil_append, List.set_cons_succ, ih]
theorem CallsRow.ne {W : World} {base : Nat} {v : Value} {xs : List NItem} (h : CallsRow W base v xs) {j k : Nat} {x y : NItem} (hx : xs[k]? = some x) (hy : xs[j]? = some y) (hjk : j ≠ k) : y.g ≠ x.g := by
  have hp := List.pairwise_iff_getElem.1 h.up
  obtain ⟨h1, rfl⟩ := List.getElem?_eq_some_iff.1 hx
  obtain ⟨h2, rfl⟩ := List.getElem?_eq_some_iff.1 hy
  rcases Nat.lt_or_gt_of_ne hjk with e | e
  · have := hp j k h2 h1 e; omega
  · have := hp k j h1 h2 e; omega
theorem CallsRow.mark {W W2 : World} {base g n cap k : Nat} {L : List NItem} {x : NItem} {m : Int} (h : CallsRow W base (.slice (some ⟨g, 0, none⟩) n cap) L) (hn : L.length = n) (hx : L[k]? = some x)
    (hg : (W.setCell ⟨g, k * 2, none⟩ (.int .i64 m)).grownBy W2 (some x.g)) (ho : W2.ownsRow base 3 1 x.args 4 (ints (marks (m + 1) 4)).flatten) : CallsRow W2 base (.slice (some ⟨g, 0, none⟩) n cap) (L.set k (markC m x)) := by
  have hk := (List.getElem?_eq_some_iff.1 hx).1
  have hxb := (h.args x (List.mem_of_getElem? hx)).2
  subst hn
  have hgt : ∀ cs fr, W.heap[g]? ≠ some (.cells cs 3 fr) := fun cs fr e => by
    obtain ⟨cs', fr', e2⟩ : ∃ cs fr, W.heap[g]? = some (.cells cs 28 fr) := by
      rcases h.row.2 with ⟨h0, _⟩ | ⟨g', cap', cur, e1, _, hh, _⟩
      · cases h0
      · injection e1 with e1 _ _
        injection e1 with e1
        injection e1 with e1 _ _
        subst e1
        exact ⟨_, _, hh⟩
    rw [e2] at e; cases e
  refine ⟨?_, fun y hy => ?_, ?_⟩
  · have h1 := own_valSet (i := k * 2) h.row (by rw [h.row.1]; omega) (.int .i64 m)
    have h2 := callCells_set L k x m ⟨m, marks (m + 1) 4⟩ hx rfl
    unfold callCells at h2
    rw [h2] at h1
    rw [List.length_set]
    refine own_grownN h1 hg (fun r e => ?_)
    cases e
    intro e2
    have e3 : g = x.g := by simpa [Value.ownBlock] using e2
    rcases hxb.2 with ⟨h0, _⟩ | ⟨g', cap', cur, e1, _, hh, _⟩
    · cases h0
    · injection e1 with e1 _ _
      injection e1 with e1
      injection e1 with e1 _ _
      rw [e3, e1] at hgt
      exact hgt _ _ hh
  · obtain ⟨j, hj⟩ := List.mem_iff_getElem?.1 hy
    by_cases e : j = k
    · subst e
      rw [List.getElem?_set_self hk] at hj
      cases hj
      exact ⟨by simp [markC, marks_len], ho⟩
    · rw [List.getElem?_set_ne (fun e2 => e e2.symm)] at hj
      have hya := h.args y (List.mem_of_getElem? hj)
      refine ⟨hya.1, own_grownN (ownsRow_setCell_other (a := ⟨g, k * 2, none⟩) hya.2 (own_typeN hya.2 hgt) _) hg (fun r e2 => ?_)⟩
      cases e2
      intro e3
      have : y.g = x.g := by simpa [Value.ownBlock, NItem.args] using e3
      exact h.ne hx hj e this
  · have h1 : ((L.set k (markC m x)).map NItem.g) = L.map NItem.g := by
      rw [List.map_set]
      apply List.ext_getElem?
      intro j
      by_cases e : j = k
      · subst e
        rw [List.getElem?_set_self (by simpa using hk), List.getElem?_map, hx]; rfl
      · rw [List.getElem?_set_ne (fun e2 => e e2.symm)]
    have h2 : (L.map NItem.g).Pairwise (· < ·) := List.pairwise_map.2 h.up
    rw [← h1] at h2
    exact List.pairwise_map.1 h2

end Go.Proofs.YtkiacbfpnidjlaaGreatDoor
