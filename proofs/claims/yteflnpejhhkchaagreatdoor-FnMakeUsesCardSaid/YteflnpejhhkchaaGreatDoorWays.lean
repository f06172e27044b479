/- The ways of a place, as an iterator: path.ways, and its contract for whatever body that keeps all blocks of cells but one. -/
import Derived.Test.YteflnpejhhkchaaGreatDoorMarks
import Derived.Test.YteflnpejhhkchaaGreatDoorNextP
namespace Go.Proofs.YteflnpejhhkchaaGreatDoor
open Go.RowKit Go.Shelf
set_option linter.unusedSimpArgs false
set_option linter.unusedVariables false
attribute [local go_sem] Oper.semAt_some

/-- All blocks of cells but b lie as they lay. -/
structure KC (b : Nat) (W W' : World) : Prop where
  size : W.heap.size ≤ W'.heap.size
  same : ∀ (k : Nat) (o : Obj), k ≠ b → W.heap[k]? = some o → o.isCells = true → W'.heap[k]? = some o
theorem KC.refl (b : Nat) (W : World) : KC b W W := ⟨Nat.le_refl _, fun _ _ _ h _ => h⟩
theorem KC.trans {b : Nat} {A B C : World} (h : KC b A B) (k : KC b B C) : KC b A C := ⟨Nat.le_trans h.size k.size, fun i o hi ho hc => k.same i o hi (h.same i o hi ho hc) hc⟩
theorem KC.of_grown {b : Nat} {A B : World} (h : A.grownBy B (some b)) : KC b A B :=
  ⟨h.size, fun k o hk ho _ => (h.block k (Array.getElem?_eq_some_iff.1 ho).1 (fun e => hk (Option.some.inj e))).trans ho⟩
theorem KC.putObj {b : Nat} (W : World) (l : Nat) (o o' : Obj) (h : W.heap[l]? = some o) (hc : o.isCells = false) : KC b W (W.putObj l o') :=
  ⟨by simp [World.putObj], fun k p _ hp hpc => by
    rw [putObj_other (fun e => by subst e; rw [h] at hp; cases hp; rw [hc] at hpc; cases hpc)]; exact hp⟩
theorem KC.cell {b : Nat} {W W' : World} (h : KC b W W') {p : Addr} {v : Value} (hp : p.block ≠ b) (hv : W.cell? p = some v) : W'.cell? p = some v := by
  obtain ⟨o, ho, hc⟩ := cells_of_cell hv
  exact (World.cell?_of_block ((h.same _ o hp ho hc).trans ho.symm)).trans hv
theorem KC.blk {b : Nat} {W W' : World} (h : KC b W W') {k : Nat} {t : TypeId} {cs : Array Value} (hk : k ≠ b) (hv : Blk W k t cs) : Blk W' k t cs := h.same k _ hk hv rfl

theorem ways_any (A : Option Addr) (n c : Nat) (i : Int) (w : World) :
    Calls Tryz.prog 82 #[.slice A n c, .int .i64 i] w fun e w' =>
      e = .returned (.func (.func 131) #[] #[.pointer (some ⟨w.heap.size, 0, none⟩), .pointer (some ⟨w.heap.size + 1, 0, none⟩)]) ∧
      w' = (w.alloc (.cells #[.slice A n c] 71)).alloc (.cells #[.int .i64 i] 3) := by
  go_enter Tryz.func82, Tryz.ntmps82
  go_wp2
  go_ret
  exact ⟨rfl, rfl⟩

/-- The places to which a place leads, as numbers. -/
def nextZ (x : In4) (i : Nat) : List Int := (nexts x i).map fun (j : Nat) => (j : Int)

set_option maxRecDepth 100000 in
set_option maxHeartbeats 4000000 in
theorem ways_stops (n : Nat) (hn : 1 ≤ n) (Bp Bi b : Nat) (A : Option Addr) (m c : Nat) (g : List In4) (i : Nat) (x : In4) (hg : waysOk g) (hx : g[i]? = some x) (w : World) (hA : SlA w 4 A m c (insR g)) (hp : w.cell? ⟨Bp, 0, none⟩ = some (.slice A m c)) (hi : w.cell? ⟨Bi, 0, none⟩ = some (.int .i64 i))
    (hbi : Bi ≠ b) (hb : b < w.heap.size) :
    SeqStopsK Fence.wide n Tryz.prog 131 #[.pointer (some ⟨Bp, 0, none⟩), .pointer (some ⟨Bi, 0, none⟩)] (fun j : { j : Int // (i : Int) < j ∧ j < m } => #[Value.int .i64 j.1]) (KC b) (fun ys => ys.map (·.1) = nextZ x i) (fun _ => True) 2 w := fun l J Jx W hW hJ _ hY h0 => by
  have hnl : g.length = m := by have := hA.len; rwa [insR_len] at this
  have him : i < m := by rw [← hnl]; exact (List.getElem?_eq_some_iff.1 hx).1
  have himi : (i : Int) < m := by omega
  have hmx := hA.max
  unfold maxLen at hmx
  have hm160 : m ≤ 160 := by rw [← hnl]; exact hg.2.1
  have ho := hg.2.2 i x (by rw [hnl]; exact him) hx
  obtain ⟨ab, off, y, rfl, hab, hgy, hcell⟩ := ins_get hA him
  rw [hx] at hgy; cases hgy
  obtain ⟨c0, c1, c2, c3⟩ := hcell W _ hW hab
  have p0 := (hW.cell (p := ⟨Bp, 0, none⟩) (World.block_lt_of_cell? _ _ hp)).trans hp
  have i0 := (hW.cell (p := ⟨Bi, 0, none⟩) (World.block_lt_of_cell? _ _ hi)).trans hi
  have hwsz := hW.size
  obtain ⟨op, k, yes, no⟩ := x
  simp only at c0 c1 c2 c3
  unfold insOk at ho
  simp only at ho
  rw [hnl] at ho
  clear hcell hx hg hA hp hi
  have h0' : J [] (W.alloc (.cells #[.int .i64 op, .int .i64 k, .int .i64 yes, .int .i64 no] 56)) := hJ _ _ _ none h0 (World.grownBy_alloc W _ _) (fun r e => by cases e)
  have hbi' : Bi < W.heap.size := World.block_lt_of_cell? _ _ i0
  have hi1 : (W.alloc (.cells #[.int .i64 op, .int .i64 k, .int .i64 yes, .int .i64 no] 56)).cell? ⟨Bi, 0, none⟩ = some (.int .i64 i) := (((Below.refl W.heap.size W).alloc (Nat.le_refl _) _).cell (p := ⟨Bi, 0, none⟩) hbi').trans i0
  have hL1 := Blk.new W 56 #[.int .i64 op, .int .i64 k, .int .i64 yes, .int .i64 no]
  refine callsIn_of_wp Tryz.func131 rfl trivial ?_ rfl
  simp only [Tryz.ntmps131, List.size_toArray, List.length_cons, List.length_nil, Nat.reduceAdd, Nat.reduceSub, Array.replicate_succ, Array.replicate_zero, List.push_toArray, List.append_toArray, List.nil_append, List.cons_append]
  by_cases h6 : op = 6
  · subst h6
    gi_wp2
    go_end0
    exact ⟨⟨_, rfl⟩, .inl ⟨[], by simp [nextZ, nexts], h0'⟩⟩
  · by_cases h5 : op = 5
    · subst h5
      obtain ⟨k, rfl⟩ := Int.eq_ofNat_of_zero_le (show 0 ≤ k by omega)
      obtain ⟨f1, t1, a1, b1, hy1, hR1⟩ := hY [] ⟨(i : Int) + 1 + k, by omega, by omega⟩ _ h0' (by simp)
      dsimp only at hy1
      gi_wp2
      refine hR1.mono ?_
      rintro e W1 (⟨rfl, hJ1, hk1⟩ | ⟨rfl, hx1⟩)
      · gi_wp2
        go_end0
        exact ⟨⟨_, rfl⟩, .inl ⟨[⟨(i : Int) + 1 + k, by omega, by omega⟩], by simp [nextZ, nexts], hJ1⟩⟩
      · gi_wp2
        go_end0
        exact ⟨⟨_, rfl⟩, .inr ⟨_, trivial, hx1⟩⟩
    · by_cases h3 : op = 3 ∨ op = 4
      · obtain ⟨yes, rfl⟩ := Int.eq_ofNat_of_zero_le (show 0 ≤ yes by omega)
        obtain ⟨no, rfl⟩ := Int.eq_ofNat_of_zero_le (show 0 ≤ no by omega)
        rcases h3 with rfl | rfl
        all_goals
          obtain ⟨f1, t1, a1, b1, hy1, hR1⟩ := hY [] ⟨(i : Int) + 1 + yes, by omega, by omega⟩ _ h0' (by simp)
          dsimp only at hy1
          gi_wp2
          refine hR1.mono ?_
          rintro e W1 (⟨rfl, hJ1, hk1⟩ | ⟨rfl, hx1⟩)
          · obtain ⟨f2, t2, a2, b2, hy2, hR2⟩ := hY [⟨(i : Int) + 1 + yes, by omega, by omega⟩] ⟨(i : Int) + 1 + no, by omega, by omega⟩ W1 hJ1 (by simp)
            dsimp only at hy2
            have i1 := hk1.cell (p := ⟨Bi, 0, none⟩) hbi hi1
            have L1 := hk1.blk (by omega) hL1
            have l3 : W1.cell? ⟨W.heap.size, 3, none⟩ = some (.int .i64 no) := L1.cell 3
            gi_wp2
            refine hR2.mono ?_
            rintro e W2 (⟨rfl, hJ2, hk2⟩ | ⟨rfl, hx2⟩)
            · gi_wp2
              go_end0
              exact ⟨⟨_, rfl⟩, .inl ⟨[⟨(i : Int) + 1 + yes, by omega, by omega⟩, ⟨(i : Int) + 1 + no, by omega, by omega⟩], by simp [nextZ, nexts], hJ2⟩⟩
            · gi_wp2
              go_end0
              exact ⟨⟨_, rfl⟩, .inr ⟨_, trivial, hx2⟩⟩
          · gi_wp2
            go_end0
            exact ⟨⟨_, rfl⟩, .inr ⟨_, trivial, hx1⟩⟩
      · have e3 : (op == 3) = false := by simp; omega
        have e4 : (op == 4) = false := by simp; omega
        have e5 : (op == 5) = false := by simp; omega
        have e6 : (op == 6) = false := by simp; omega
        have hnx : nextZ ⟨op, k, yes, no⟩ i = [(i : Int) + 1] := by unfold nextZ nexts; rw [if_neg h6, if_neg h5, if_neg h3]; simp
        have HN := Lib.hid hnx; clear hnx
        obtain ⟨f1, t1, a1, b1, hy1, hR1⟩ := hY [] ⟨(i : Int) + 1, by omega, by omega⟩ _ h0' (by simp)
        dsimp only at hy1
        gi_wp2
        refine hR1.mono ?_
        rintro e W1 (⟨rfl, hJ1, hk1⟩ | ⟨rfl, hx1⟩)
        · gi_wp2
          go_end0
          exact ⟨⟨_, rfl⟩, .inl ⟨[⟨(i : Int) + 1, by omega, by omega⟩], by rw [HN.out]; rfl, hJ1⟩⟩
        · gi_wp2
          go_end0
          exact ⟨⟨_, rfl⟩, .inr ⟨_, trivial, hx1⟩⟩
end Go.Proofs.YteflnpejhhkchaaGreatDoor
