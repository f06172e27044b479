/- spec's programs: l14Next, l14Live, CodeMost, CodeLive. -/
import Derived.Test.YtbcbbemkjaabjaaDoorNextP
import Derived.Test.YtbcbbemkjaabjaaDoorGrown
import Derived.Test.YtbcbbemkjaabjaaDoorCodeS2
import Derived.Deep.OwnRows
namespace Go.Proofs.YtbcbbemkjaabjaaDoor
open Go.RowKit
set_option linter.unusedSimpArgs false
set_option linter.unusedVariables false

theorem SlA.ints_block {w : World} {b : Nat} {t : TypeId} {xs : List Int} (h : Blk w b t (xs.map (Value.int .i64)).toArray) (hm : xs.length ≤ maxLen) : SlA w 1 (some ⟨b, 0, none⟩) xs.length xs.length (ints xs) :=
  SlA.of_block h (ints_len xs) (Nat.le_refl _) hm (fun k r hr j v hv => by
    have hk : k < xs.length := by have := (List.getElem?_eq_some_iff.1 hr).1; rwa [ints_len] at this
    have hr' : r = [.int .i64 xs[k]] := by simp [ints, hk] at hr; exact hr.symm
    subst hr'
    cases j with
    | zero => simp at hv; subst hv; simp [hk]
    | succ j => simp at hv)
theorem Blk.second (w : World) (o : Obj) (t : TypeId) (cs : Array Value) : Blk ((w.alloc o).alloc (.cells cs t)) (w.heap.size + 1) t cs := by
  have h := Blk.new (w.alloc o) t cs
  rwa [World.size_alloc] at h
/-- A row that lies behind what was there. -/
def FarZ (w : World) (base : Nat) (v : Value) (xs : List Int) : Prop := ∃ A c, v = .slice A xs.length c ∧ SlA w 1 A xs.length c (ints xs) ∧ ∀ b off, A = some ⟨b, off, none⟩ → base ≤ b
theorem FarZ.of {w0 w : World} {t : TypeId} {xs : List Int} (h : Blk w (w0.heap.size + 1) t (xs.map (Value.int .i64)).toArray) (hm : xs.length ≤ 100) : FarZ w w0.heap.size (.slice (some ⟨w0.heap.size + 1, 0, none⟩) xs.length xs.length) xs :=
  ⟨_, _, rfl, SlA.ints_block h (by unfold maxLen; omega), fun b off e => by cases e; omega⟩
def nextI (x : In4) (i : Nat) : List Int := (nexts x i).map fun (j : Nat) => (j : Int)
theorem nextI_len (x : In4) (i : Nat) : (nextI x i).length = (nexts x i).length := by simp [nextI]

set_option maxHeartbeats 1000000 in
theorem l14Next_any (A : Option Addr) (n c : Nat) (g : List In4) (i : Nat) (x : In4) (w : World) (hA : SlA w 4 A n c (insR g)) (hw : waysOk g) (hx : g[i]? = some x) :
    Calls Tryd.prog 27 #[.slice A n c, .int .i64 i] w fun e w' => ∃ v, e = .returned v ∧ FarZ w' w.heap.size v (nextI x i) ∧ Below w.heap.size w w' := by
  have hn : g.length = n := by have := hA.len; rwa [insR_len] at this
  have hi : i < n := by rw [← hn]; exact (List.getElem?_eq_some_iff.1 hx).1
  have hii : (i : Int) < n := by omega
  have hm := hA.max
  unfold maxLen at hm
  have hn160 : n ≤ 160 := by rw [← hn]; exact hw.2.1
  have ho := hw.2.2 i x (by rw [hn]; exact hi) hx
  obtain ⟨b, off, y, rfl, hab, hgy, hcell⟩ := ins_get hA hi
  rw [hx] at hgy; cases hgy
  obtain ⟨c0, c1, c2, c3⟩ := hcell w _ (Below.refl _ _) hab
  obtain ⟨op, k, yes, no⟩ := x
  simp only at c0 c1 c2 c3
  unfold insOk at ho
  simp only at ho
  clear hcell hx hw
  rw [hn] at ho
  by_cases h6 : op = 6
  · subst h6
    go_enter Tryd.func27, Tryd.ntmps27
    go_wp2
    go_ret
    exact ⟨_, rfl, FarZ.of (xs := []) (Blk.second _ _ _ _) (by simp), by go_grown⟩
  · by_cases h5 : op = 5
    · subst h5
      obtain ⟨k, rfl⟩ := Int.eq_ofNat_of_zero_le (show 0 ≤ k by omega)
      go_enter Tryd.func27, Tryd.ntmps27
      go_wp2
      go_ret
      refine ⟨_, rfl, FarZ.of (xs := [(i : Int) + 1 + k]) (Blk.second _ _ _ _) (by simp), by go_grown⟩
    · by_cases h3 : op = 3 ∨ op = 4
      · obtain ⟨yes, rfl⟩ := Int.eq_ofNat_of_zero_le (show 0 ≤ yes by omega)
        obtain ⟨no, rfl⟩ := Int.eq_ofNat_of_zero_le (show 0 ≤ no by omega)
        rcases h3 with rfl | rfl
        all_goals
          go_enter Tryd.func27, Tryd.ntmps27
          go_wp2
          go_ret
          refine ⟨_, rfl, FarZ.of (xs := [(i : Int) + 1 + yes, (i : Int) + 1 + no]) (Blk.second _ _ _ _) (by simp), by go_grown⟩
      · have e3 : (op == 3) = false := by simp; omega
        have e4 : (op == 4) = false := by simp; omega
        have e5 : (op == 5) = false := by simp; omega
        have e6 : (op == 6) = false := by simp; omega
        have hnx : nextI ⟨op, k, yes, no⟩ i = [(i : Int) + 1] := by unfold nextI nexts; rw [if_neg h6, if_neg h5, if_neg h3]; simp
        have HN := Lib.hid hnx; clear hnx
        go_enter Tryd.func27, Tryd.ntmps27
        go_wp2
        go_ret
        refine ⟨_, rfl, by rw [HN.out]; exact FarZ.of (xs := [(i : Int) + 1]) (Blk.second _ _ _ _) (by simp), by go_grown⟩
end Go.Proofs.YtbcbbemkjaabjaaDoor
