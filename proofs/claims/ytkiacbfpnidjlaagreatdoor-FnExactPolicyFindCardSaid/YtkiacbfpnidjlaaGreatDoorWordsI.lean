/- impl's near words: slices.DeleteFunc on a row of the call's own, nearWords. -/
import Derived.Test.YtkiacbfpnidjlaaGreatDoorNearP
import Derived.Test.YtkiacbfpnidjlaaGreatDoorSortI
import Derived.Lib.SliceRun
namespace Go.Proofs.YtkiacbfpnidjlaaGreatDoor
open Go.RowKit
set_option linter.unusedSimpArgs false
set_option linter.unusedVariables false

theorem wordOk_one (n : Int) (w : World) :
    Calls Tryz.prog 49 #[.int .i64 n] w fun e w' => e = .returned (.bool (wordB n)) ∧ w' = w := by
  go_enter Tryz.func49, Tryz.ntmps49
  go_wp2
  all_goals (go_ret; exact ⟨ret_bool (by rw [Bool.eq_iff_iff, wordB_iff]; simp; try omega), rfl⟩)
theorem notWord_one (n : Int) (w : World) :
    Calls Tryz.prog 48 #[.int .i64 n] w fun e w' => e = .returned (.bool (!wordB n)) ∧ w' = w := by
  go_enter Tryz.func48, Tryz.ntmps48
  go_wp2_with fail
  refine (wordOk_one n _).mono ?_; rintro e w1 ⟨rfl, rfl⟩
  go_wp2
  go_ret
  exact ⟨rfl, rfl⟩

/-- A row of the call's own, cell by cell. -/
theorem own_int {w : World} {base g n cap k : Nat} {xs : List Int} {x : Int} (h : w.ownsRow base 3 1 (.slice (some ⟨g, 0, none⟩) n cap) n (ints xs).flatten) (hx : xs[k]? = some x) : w.cell? ⟨g, k, none⟩ = some (.int .i64 x) ∧ w.frozen? ⟨g, k, none⟩ = false := by
  rw [ints_flat] at h
  rcases h.2 with ⟨h0, _⟩ | ⟨g', cap', cur, e1, _, hg, _, _, _, ht⟩
  · cases h0
  · injection e1 with e1 _ e3
    injection e1 with e1
    injection e1 with e1 _ _
    subst e1; subst e3
    refine ⟨?_, by simp [World.frozen?, hg]⟩
    rw [cell_of_row w g k cur _ (0, 0) hg]
    have h1 : (xs.map (Value.int .i64))[k]? = some (.int .i64 x) := by rw [List.getElem?_map, hx]; rfl
    rw [← ht, List.getElem?_take] at h1
    split at h1
    · simpa using h1
    · cases h1
theorem own_intSet {w : World} {base g n cap k : Nat} {xs : List Int} (h : w.ownsRow base 3 1 (.slice (some ⟨g, 0, none⟩) n cap) n (ints xs).flatten) (hl : xs.length = n) (hk : k < n) (x : Int) :
    (w.setCell ⟨g, k, none⟩ (.int .i64 x)).ownsRow base 3 1 (.slice (some ⟨g, 0, none⟩) n cap) n (ints (xs.set k x)).flatten := by
  rw [ints_flat] at h ⊢
  refine ⟨by simp [hl], ?_⟩
  rcases h.2 with ⟨h0, _⟩ | ⟨g', cap', cur, e1, hge, hg, hmc, hm, hcs, ht⟩
  · cases h0
  · injection e1 with e1 _ e3
    injection e1 with e1
    injection e1 with e1 _ _
    subst e1; subst e3
    refine .inr ⟨g, cap, cur.setIfInBounds k (.int .i64 x), rfl, hge, Blk.set_ hg k _, hmc, hm, by simpa using hcs, ?_⟩
    rw [List.map_set, ← ht]
    apply List.ext_getElem?
    intro j
    simp only [List.getElem?_take, List.getElem?_set, Array.toList_setIfInBounds, List.length_take, Array.length_toList]
    split <;> split <;> simp_all <;> omega
/-- What is written behind a row's end leaves the row. -/
theorem own_above {base g m cap : Nat} {e : TypeId} {xs : List Value} : ∀ (vs : List Value) (o : Nat) (w : World), m ≤ o → w.ownsRow base e 1 (.slice (some ⟨g, 0, none⟩) m cap) m xs → (setRun w g o vs).ownsRow base e 1 (.slice (some ⟨g, 0, none⟩) m cap) m xs
  | [], _, _, _, h => h
  | v :: vs, o, w, ho, h => by
    refine own_above vs (o + 1) _ (by omega) ?_
    refine ⟨h.1, ?_⟩
    rcases h.2 with ⟨h0, _⟩ | ⟨g', cap', cur, e1, hge, hg, hmc, hm, hcs, ht⟩
    · cases h0
    · injection e1 with e1 _ e3
      injection e1 with e1
      injection e1 with e1 _ _
      subst e1; subst e3
      refine .inr ⟨g, cap, cur.setIfInBounds o v, rfl, hge, Blk.set_ hg o _, hmc, hm, by simpa using hcs, ?_⟩
      rw [← ht]
      apply List.ext_getElem?
      intro j
      simp only [List.getElem?_take, List.getElem?_set, Array.toList_setIfInBounds, Nat.mul_one]
      split
      · rw [if_neg (by omega)]
      · rfl
theorem setCells_runW : ∀ (vs : List Value) (w : World) (g o : Nat), w.setCells g o vs = setRun w g o vs
  | [], _, _, _ => rfl
  | v :: vs, w, g, o => by rw [setRun, ← setCells_runW vs]; rfl

/-- The first word that goes. -/
def firstOut (zs : List Int) : Option Nat := zs.findIdx? fun z => !wordB z
theorem IndexFunc_own (base g n cap : Nat) (zs : List Int) (w : World) (h : w.ownsRow base 3 1 (.slice (some ⟨g, 0, none⟩) n cap) n (ints zs).flatten) (hn : zs.length = n) (hsz : n ≤ 1000000) :
    Calls Tryz.prog 63 #[.slice (some ⟨g, 0, none⟩) n cap, .func (.func 48) #[] #[]] w fun e w' => w' = w ∧
      ((e = .returned (.int .i64 (-1)) ∧ ∀ z ∈ zs, wordB z = true) ∨ ∃ i : Nat, i < n ∧ e = .returned (.int .i64 i) ∧ (∀ (j : Nat) (z : Int), j < i → zs[j]? = some z → wordB z = true) ∧ ∃ z, zs[i]? = some z ∧ wordB z = false) := by
  have H := Lib.hid h; have HN := Lib.hid hn; clear h hn
  go_enter Tryz.func63, Tryz.ntmps63
  go_wp2
  go_loopw [8] (fun i wr => ∃ k : Nat, k ≤ n ∧ i = .int .i64 k ∧ wr = w ∧ Hid (∀ (j : Nat) (z : Int), j < k → zs[j]? = some z → wordB z = true)) (fun i _ => n - (intOf i).toNat)
  case atStart => exact ⟨0, Nat.zero_le _, rfl, rfl, Lib.hid (fun j z hj => absurd hj (by omega))⟩
  case round =>
    obtain ⟨k, hk, rfl, rfl, HB⟩ := hrel
    by_cases hlt : k < n
    · have hki : (k : Int) < n := by omega
      obtain ⟨z, hz⟩ : ∃ z, zs[k]? = some z := ⟨_, List.getElem?_eq_getElem (by rw [HN.out]; exact hlt)⟩
      have c0 := (own_int H.out hz).1
      have HZ := Lib.hid hz; clear hz
      go_wp2_with fail
      refine (notWord_one z _).mono ?_; rintro e w1 ⟨rfl, rfl⟩
      cases hw : wordB z with
      | true =>
        go_wp2
        exact ⟨⟨k + 1, by omega, by go_num, by first | rfl | trivial, Lib.hid (fun j y hj hy => by
          by_cases e : j = k
          · subst e; rw [HZ.out] at hy; cases hy; exact hw
          · exact HB.out j y (by omega) hy)⟩, by simp [intOf]; try omega⟩
      | false =>
        go_wp2
        go_ret
        exact ⟨rfl, .inr ⟨k, hlt, rfl, HB.out, z, HZ.out, hw⟩⟩
    · obtain rfl : k = n := by omega
      go_wp2
      go_ret
      refine ⟨rfl, .inl ⟨rfl, fun z hz => ?_⟩⟩
      obtain ⟨j, hj⟩ := List.mem_iff_getElem?.1 hz
      exact HB.out j z (by rw [← HN.out]; exact (List.getElem?_eq_some_iff.1 hj).1) hj

/-- What has been kept so far: i of the first j. -/
structure KeepTo (zs xs : List Int) (i j : Nat) : Prop where
  len : xs.length = zs.length
  lt : i < j
  pre : xs.take i = (zs.take j).filter wordB
  rest : ∀ k, j ≤ k → xs[k]? = zs[k]?
theorem KeepTo.start {zs : List Int} {i : Nat} {z : Int} (h : ∀ (j : Nat) (z : Int), j < i → zs[j]? = some z → wordB z = true) (hz : zs[i]? = some z) (hw : wordB z = false) : KeepTo zs zs i (i + 1) := ⟨rfl, by omega, by
  rw [List.take_add_one, hz, List.filter_append]
  have h1 : (zs.take i).filter wordB = zs.take i := List.filter_eq_self.2 (fun a ha => by
    obtain ⟨j, hj⟩ := List.mem_iff_getElem?.1 ha
    rw [List.getElem?_take] at hj
    split at hj
    · exact h j a (by assumption) hj
    · cases hj)
  rw [h1]
  simp [hw], fun _ _ => rfl⟩
theorem KeepTo.skip {zs xs : List Int} {i j : Nat} {z : Int} (h : KeepTo zs xs i j) (hz : zs[j]? = some z) (hw : wordB z = false) : KeepTo zs xs i (j + 1) := ⟨h.len, by have := h.lt; omega, by
  rw [List.take_add_one, hz, List.filter_append, ← h.pre]
  simp [hw], fun k hk => h.rest k (by omega)⟩
theorem KeepTo.keep {zs xs : List Int} {i j : Nat} {z : Int} (h : KeepTo zs xs i j) (hz : zs[j]? = some z) (hw : wordB z = true) : KeepTo zs (xs.set i z) (i + 1) (j + 1) := ⟨by simp [h.len], by have := h.lt; omega, by
  have hj : j < zs.length := (List.getElem?_eq_some_iff.1 hz).1
  have hi : i < xs.length := by have := h.lt; have := h.len; omega
  rw [List.take_add_one, List.getElem?_set_self hi, List.take_set_of_le (Nat.le_refl i), List.take_add_one, hz, List.filter_append, ← h.pre]
  simp [hw], fun k hk => by rw [List.getElem?_set_ne (by have := h.lt; omega)]; exact h.rest k (by omega)⟩
theorem grownN {w w' : World} {g : Nat} (h : w.grownBy w' (some g)) (k : Nat) (v : Value) : w.grownBy (w'.setCell ⟨g, k, none⟩ v) (some g) := h.trans (grown_set w' g k v)
theorem grown_runW : ∀ (vs : List Value) (w : World) (g o : Nat), w.grownBy (setRun w g o vs) (some g)
  | [], w, _, _ => World.grownBy.refl w _
  | v :: vs, w, g, o => (grown_set w g o v).trans (grown_runW vs _ g (o + 1))

set_option maxHeartbeats 1000000 in
theorem DeleteFunc_some (base g n cap : Nat) (zs : List Int) (w : World) (h : w.ownsRow base 3 1 (.slice (some ⟨g, 0, none⟩) n cap) n (ints zs).flatten) (hn : zs.length = n) (hsz : n ≤ 1000000) (hc : n ≤ cap) (hcm : cap ≤ 9223372036854775807) :
    Calls Tryz.prog 47 #[.slice (some ⟨g, 0, none⟩) n cap, .func (.func 48) #[] #[]] w fun e w' => ∃ v, e = .returned v ∧ w'.ownsRow base 3 1 v (zs.filter wordB).length (ints (zs.filter wordB)).flatten ∧ w.grownBy w' (some g) := by
  have H := Lib.hid h; have HN := Lib.hid hn; clear h hn
  go_enter Tryz.func47, Tryz.ntmps47
  go_wp2_with fail
  refine (IndexFunc_own base g n cap zs _ H.out HN.out hsz).mono ?_
  rintro e w1 ⟨rfl, ⟨rfl, hall⟩ | ⟨i, hi, rfl, hlow, z, hz, hw⟩⟩
  · have he : zs.filter wordB = zs := List.filter_eq_self.2 hall
    have HE := Lib.hid he; clear he hall
    go_wp2
    go_ret
    exact ⟨_, rfl, by rw [HE.out, HN.out]; exact H.out, World.grownBy.refl _ _⟩
  · have HK := Lib.hid (KeepTo.start hlow hz hw)
    have hi1 : (i : Int) < n := by omega
    have hi2 : ((i : Int) == -1) = false := by simp
    clear hlow hz hw
    go_wp2
    go_loopw [5, 6] (fun s5 s6 wr => ∃ (i j : Nat) (xs : List Int), s5 = .int .i64 i ∧ s6 = .int .i64 j ∧ j ≤ n ∧ Hid (KeepTo zs xs i j) ∧ Hid (wr.ownsRow base 3 1 (.slice (some ⟨g, 0, none⟩) n cap) n (ints xs).flatten) ∧ Hid (w1.grownBy wr (some g))) (fun _ s6 _ => n - (intOf s6).toNat)
    case atStart => exact ⟨i, i + 1, zs, rfl, by go_num, by omega, HK, H, Lib.hid (World.grownBy.refl _ _)⟩
    case round =>
      clear HK hi1 hi hi2
      obtain ⟨i, j, xs, rfl, rfl, hj, HK, HO, HG⟩ := hrel
      have hlt := HK.out.lt
      have hxl : xs.length = n := HK.out.len.trans HN.out
      by_cases hjn : j < n
      · have hjni : (j : Int) < n := by omega
        have hini : (i : Int) < n := by omega
        obtain ⟨z, hz⟩ : ∃ z, zs[j]? = some z := ⟨_, List.getElem?_eq_getElem (by rw [HN.out]; exact hjn)⟩
        have c0 := (own_int HO.out (by rw [HK.out.rest j (Nat.le_refl _)]; exact hz)).1
        obtain ⟨y, hy⟩ : ∃ y, xs[i]? = some y := ⟨_, List.getElem?_eq_getElem (by omega)⟩
        obtain ⟨c1, f1⟩ := own_int HO.out hy
        have HZ := Lib.hid hz; clear hz hy
        go_wp2_with fail
        refine (notWord_one z _).mono ?_; rintro e w2 ⟨rfl, rfl⟩
        cases hw : wordB z with
        | true =>
          have HW := Lib.hid hw; clear hw
          go_wp2
          exact ⟨⟨i + 1, j + 1, xs.set i z, by go_num, by go_num, by omega, Lib.hid (HK.out.keep HZ.out HW.out), Lib.hid (own_intSet HO.out hxl (by omega) z), Lib.hid (grownN HG.out i _)⟩, by simp [intOf]; try omega⟩
        | false =>
          have HW := Lib.hid hw; clear hw
          go_wp2
          exact ⟨⟨i, j + 1, xs, by first | rfl | trivial, by go_num, by omega, Lib.hid (HK.out.skip HZ.out HW.out), HO, HG⟩, by simp [intOf]; try omega⟩
      · obtain rfl : j = n := by omega
        have hf : xs.take i = zs.filter wordB := by rw [HK.out.pre, List.take_of_length_le (by rw [HN.out]; exact Nat.le_refl _)]
        have hcl : ∀ ty, (Builtin.clear_ #[26] ty #[.slice (some ⟨g, i, none⟩) (j - i) (cap - i)]).run Tryz.prog wr = .ok (.tuple #[]) (wr.setCells g i (List.replicate (j - i) (.int .i64 0))) := fun ty =>
          Lib.run_clear_slice wr _ _ ty _ Tryz.underlying26 Tryz.zeroValue3 rfl rfl g i _ _ (by omega) (fun q hq => by
            obtain ⟨y, hy⟩ : ∃ y, xs[i + q]? = some y := ⟨_, List.getElem?_eq_getElem (by omega)⟩
            rw [(own_int HO.out hy).1]; rfl) (fun q hq => by
            obtain ⟨y, hy⟩ : ∃ y, xs[i + q]? = some y := ⟨_, List.getElem?_eq_getElem (by omega)⟩
            exact (own_int HO.out hy).2)
        have HF := Lib.hid hf; have HX := Lib.hid hxl; clear hf hxl
        go_wp2
        go_ret
        refine ⟨_, rfl, ?_, ?_⟩
        · have h1 := own_cut (m := i) HO.out (by omega)
          rw [ints_flat, ← List.map_take, HF.out] at h1
          have h2 : (zs.filter wordB).length = i := by rw [← HF.out, List.length_take, HX.out]; omega
          rw [setCells_runW, h2, ints_flat]
          exact own_above _ i _ (Nat.le_refl _) h1
        · rw [setCells_runW]
          exact HG.out.trans (grown_runW _ _ _ _)

theorem DeleteFunc_own (base : Nat) (v : Value) (n : Nat) (zs : List Int) (w : World) (h : w.ownsRow base 3 1 v n (ints zs).flatten) (hn : zs.length = n) (hsz : n ≤ 1000000) (h0 : 0 < n) :
    Calls Tryz.prog 47 #[v, .func (.func 48) #[] #[]] w fun e w' => ∃ v', e = .returned v' ∧ w'.ownsRow base 3 1 v' (zs.filter wordB).length (ints (zs.filter wordB)).flatten ∧ Below base w w' := by
  rcases h.2 with ⟨rfl, h1⟩ | ⟨g, cap, cur, rfl, hge, hg, hmc, hm, hcs, ht⟩
  · omega
  · unfold maxLen at hm
    refine (DeleteFunc_some base g n cap zs w h hn hsz hmc (by omega)).mono ?_
    rintro e w' ⟨v', rfl, h1, h2⟩
    exact ⟨v', rfl, h1, below_of_grown h2 hge (Array.getElem?_eq_some_iff.1 hg).1⟩
end Go.Proofs.YtkiacbfpnidjlaaGreatDoor
