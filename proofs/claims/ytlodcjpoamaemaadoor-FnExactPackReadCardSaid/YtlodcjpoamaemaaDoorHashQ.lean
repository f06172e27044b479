/- The program's sums of texts: impl.hashOf, impl.hashFigures, impl.HashSum. -/
import Derived.Test.YtlodcjpoamaemaaDoorHashO
namespace Go.Proofs.YtlodcjpoamaemaaDoor
open Go.RowKit
set_option linter.unusedSimpArgs false
set_option linter.unusedVariables false

/-- What is at a place of an array by value. -/
theorem run_index_row {P : Program} (w : World) (t e : TypeId) (n : Nat) (cs : Array Value) (k : Nat) (v : Value) (ht : P.underlying t = some (.array n e)) (he : ∀ w, (Go.sizeOf e).run P w = .ok 1 w) (ha : ∀ w, (Go.isAgg e).run P w = .ok false w) (hk : k < n) (hv : cs[k]? = some v) :
    (Instr.index t (.agg cs) (.int .i64 (k : Int))).run P w = .ok v w := by
  simp [Instr.index, asIntOf, run_underlying ht, he, part, ha, hk, hv]
theorem u8row_index (w : World) (l : List UInt8) (hl : l.length = 32) {k : Nat} (hk : k < 32) :
    (Instr.index 85 (.agg (bArr l)) (.int .i64 (k : Int))).run Tryd.prog w = .ok (.int .u8 ((l.getD k 0).toNat : Int)) w :=
  run_index_row w 85 5 32 (bArr l) k _ Tryd.underlying85 (fun w => by kernel_rfl) (fun w => by kernel_rfl) hk (bArr_get (getD_of (by omega)))

theorem and15 (n : Nat) (h : n < 256) : bits .and .u8 (n : Int) 15 = (n : Int) % 16 := by
  have : ∀ m : Fin 256, bits .and .u8 ((m.val : Nat) : Int) 15 = ((m.val : Nat) : Int) % 16 := by decide +kernel
  exact this ⟨n, h⟩

set_option maxRecDepth 100000 in
set_option maxHeartbeats 2000000 in
theorem hashFigures_any (l : List UInt8) (w : World) (hl : l.length = 32) :
    Calls Tryd.prog 46 #[.agg (bArr l)] w fun e w' => e = .returned (.string ⟨(hexOf l).toArray⟩) ∧ Below w.heap.size w w' := by
  have hmk : ∀ W : World, (Instr.makeSlice 77 (.int .i64 0) (.int .i64 64)).run Tryd.prog W = .ok (.slice (some ⟨W.heap.size, 0, none⟩) 0 64) (W.alloc (.cells (madeCells (Value.int .u8 0).cells (64 * 1)) 5)) := fun W => run_make_cap (P := Tryd.prog) 77 5 _ 1 1 Tryd.underlying77 info_u8 .i64 64 (by omega) (by omega) W
  obtain ⟨zs, hzs⟩ : ∃ z, z = madeCells (Value.int .u8 0).cells (64 * 1) := ⟨_, rfl⟩
  rw [← hzs] at hmk
  obtain ⟨C, hC⟩ : ∃ C, C = bArr l := ⟨_, rfl⟩
  have hcs : C.size = 32 := by rw [hC, bArr_size, hl]
  obtain ⟨w1, hw1⟩ : ∃ w1, w1 = w.alloc (.cells C 85) := ⟨_, rfl⟩
  have hB1 : Hid (Blk w1 w.heap.size 85 C) := by rw [hw1]; exact Blk.new _ _ _
  have b1 : Below w.heap.size w w1 := by rw [hw1]; go_grown
  have hO : (w1.alloc (.cells zs 5)).ownsRow w1.heap.size 5 1 (.slice (some ⟨w1.heap.size, 0, none⟩) 0 64) 0 [] := World.ownsRow_made w1 _ 64 (Nat.le_refl _) (by unfold maxLen; omega) (by rw [hzs]; simp [size_madeCells])
  have HO := Lib.hid hO
  have HB2 := Lib.hid (hB1.out.alloc (.cells zs 5))
  have HL := Lib.hid hl
  have HIX : Hid (∀ (k : Nat), k < 32 → ∀ W : World, (Instr.index 85 (.agg C) (.int .i64 (k : Int))).run Tryd.prog W = .ok (.int .u8 ((l.getD k 0).toNat : Int)) W) := fun k hk W => by rw [hC]; exact u8row_index W l hl hk
  have hi32 : (Tryd.prog.info? 85).map (·.size) = some C.size := by rw [hcs]; kernel_rfl
  have HI32 := Lib.hid hi32
  have HW1 := Lib.hid hw1
  rw [← hC]
  have hszc : w.heap.size < w1.heap.size := hB1.out.lt
  clear hzs hO hl hi32 hw1 hC
  go_enter Tryd.func46, Tryd.ntmps46
  go_upto_region 2 with (fail)
  rw [← HW1.out]
  have hsz1 : w.heap.size + 1 = w1.heap.size := by rw [HW1.out]; simp
  rw [hsz1]
  have HSZ1 := Lib.hid hsz1
  clear hsz1 hmk
  go_wp2_with (refine wpList_load_row rfl 85 (.tmp 1) rfl w.heap.size rfl _ _ _ _ HB2.out Tryd.underlying85 rfl HI32.out ?_)
  go_loopw [3, 8] (fun o i wr => ∃ k : Nat, k ≤ 32 ∧ i = .int .i64 k ∧ Hid (wr.ownsRow w1.heap.size 5 1 o (2 * k) ((hexOf (l.take k)).map u8V)) ∧ Below w1.heap.size w1 wr) (fun _ i _ => 32 - (intOf i).toNat)
  case atStart => exact ⟨0, by omega, rfl, HO, by go_grown⟩
  case round =>
    clear HO HB2
    obtain ⟨k, hk, rfl, HO, hb⟩ := hrel
    have hsz := hb.size
    by_cases hlt : k < 32
    · have HT := Lib.hid (show hexOf (l.take (k + 1)) = hexOf (l.take k) ++ hex2 (l.getD k 0) by
        rw [List.take_succ_eq_append_getElem (by rw [HL.out]; exact hlt), hexOf_snoc]
        congr 2
        simp [HL.out, hlt])
      have hix := HIX.out k hlt
      obtain ⟨b0, hb0⟩ : ∃ b, b = l.getD k 0 := ⟨_, rfl⟩
      rw [← hb0] at hix HT
      clear hb0
      obtain ⟨N, hN⟩ : ∃ N, N = b0.toNat := ⟨_, rfl⟩
      have hN2 : N < 256 := by rw [hN]; exact UInt8.toNat_lt b0
      rw [← hN] at hix
      have HN := Lib.hid hN
      clear hN
      obtain ⟨X, hX⟩ : ∃ X : Int, X = N := ⟨_, rfl⟩
      obtain ⟨Y, hY⟩ : ∃ Y : Int, Y = X / 16 := ⟨_, rfl⟩
      obtain ⟨Z, hZ⟩ : ∃ Z : Int, Z = X % 16 := ⟨_, rfl⟩
      have y0 : 0 ≤ Y := by omega
      have y1 : Y < 16 := by omega
      have z0 : 0 ≤ Z := by omega
      have z1 : Z < 16 := by omega
      have a1 : X / 16 = Y := hY.symm
      have a2 : bits .and .u8 X 15 = Z := by rw [hZ, hX]; exact and15 N hN2
      have HYN := Lib.hid (show Y.toNat = N / 16 by omega)
      have HZN := Lib.hid (show Z.toNat = N % 16 by omega)
      rw [← hX] at hix
      have HK := Lib.hid hlt
      have k32 : (k : Int) < 32 := by omega
      clear hX hY hZ hN2 hlt hk
      go_wp2
      have Y1 : (IntKind.u8.wrap Y) = Y := by simp [IntKind.wrap, IntKind.bits, IntKind.signed]; omega
      go_region_held3 (fun _ => True) (first | trivial | go_keep) ((refine step_appNg (w0 := wr.drew) 2 rfl (.tmp 11) (.tmp 18) _ rfl w1.heap.size 5 Tryd.underlying77 info_u8 rfl (by omega) (by omega) _ (2 * k) _ rfl (by exact HO.out) rfl (by simp [Value.oneCell']) rfl (by have := HK.out; omega) (by exact hsz) ?_; intro v9 w9 hown9 hg9))
      all_goals
        have hb9 : Below w1.heap.size wr w9 := (Below.refl w1.heap.size wr).drew.grown hg9 (by exact hsz) (fun k hk => (HO.out.lt k hk).1)
        clear hix
        go_wp2
        have hk := HK.out
        refine ⟨⟨k + 1, by omega, by go_num, ?_, hb.trans hb9⟩, by simp [intOf]; omega⟩
        simp only [figs_at, HYN.out, HZN.out] at hown9
        rw [HT.out, List.map_append, hex2, ← HN.out]
        exact hown9
    · obtain rfl : k = 32 := by omega
      have ho := HO.out
      rw [List.take_of_length_le (by rw [HL.out]; exact Nat.le_refl _)] at ho
      obtain ⟨g9, cap9, rfl, _, _⟩ := ho.form (by omega)
      have hconv := conv_back (by rw [hexOf_len, HL.out]) ho
      clear ho HO
      go_wp2
      go_ret
      exact ⟨rfl, b1.trans (hb.mono (by omega))⟩

/-- What is summed of texts, one behind the other. -/
theorem flat_take_succ {ls : List (List UInt8)} {k : Nat} {x : List UInt8} (h : ls[k]? = some x) : (ls.take (k + 1)).flatten = (ls.take k).flatten ++ x := by
  rw [List.take_add_one, h]; simp
theorem flat_take_le (ls : List (List UInt8)) (k : Nat) : ((ls.take k).flatten).length ≤ ls.flatten.length := by
  have : ls.flatten = (ls.take k).flatten ++ (ls.drop k).flatten := by rw [← List.flatten_append, List.take_append_drop]
  rw [this, List.length_append]
  omega

set_option maxRecDepth 100000 in
set_option maxHeartbeats 2000000 in
theorem hashOf_any (v : Value) (ls : List (List UInt8)) (w : World) (hk : Kww w) (hv : Sl w 1 v (strs ls)) (hl : ls.flatten.length ≤ 34359738368) :
    Calls Tryd.prog 45 #[v] w fun e w' => e = .returned (.agg (bArr (sumOf ls.flatten))) ∧ Below w.heap.size w w' := by
  obtain ⟨A, n, c, rfl, hA⟩ := hv
  have hln : ls.length = n := by have := hA.len; rwa [strs_len] at this
  have hmx := hA.max
  have hcp := hA.cap
  unfold maxLen at hmx
  have HA := Lib.hid hA
  have HLN := Lib.hid hln
  obtain ⟨w1, hw1⟩ : ∃ w1, w1 = w.alloc (.cells #[.int .u8 0, .int .u8 0, .int .u8 0, .int .u8 0, .int .u8 0, .int .u8 0, .int .u8 0, .int .u8 0, .int .u8 0, .int .u8 0, .int .u8 0, .int .u8 0, .int .u8 0, .int .u8 0, .int .u8 0, .int .u8 0, .int .u8 0, .int .u8 0, .int .u8 0, .int .u8 0, .int .u8 0, .int .u8 0, .int .u8 0, .int .u8 0, .int .u8 0, .int .u8 0, .int .u8 0, .int .u8 0, .int .u8 0, .int .u8 0, .int .u8 0, .int .u8 0] 85) := ⟨_, rfl⟩
  have hR1 : Hid (Blk w1 w.heap.size 85 #[.int .u8 0, .int .u8 0, .int .u8 0, .int .u8 0, .int .u8 0, .int .u8 0, .int .u8 0, .int .u8 0, .int .u8 0, .int .u8 0, .int .u8 0, .int .u8 0, .int .u8 0, .int .u8 0, .int .u8 0, .int .u8 0, .int .u8 0, .int .u8 0, .int .u8 0, .int .u8 0, .int .u8 0, .int .u8 0, .int .u8 0, .int .u8 0, .int .u8 0, .int .u8 0, .int .u8 0, .int .u8 0, .int .u8 0, .int .u8 0, .int .u8 0, .int .u8 0]) := by rw [hw1]; exact Blk.new _ _ _
  have b1 : Below w.heap.size w w1 := by rw [hw1]; go_grown
  have hs1 : w.heap.size < w1.heap.size := hR1.out.lt
  have HW1 := Lib.hid hw1
  have HK := Lib.hid hk; have HLL := Lib.hid hl
  clear hA hln hw1 hk hl
  go_enter Tryd.func45, Tryd.ntmps45
  go_wp2_with fail
  rw [← HW1.out]
  refine (newHasher_any w1).mono ?_; rintro e w2 ⟨rfl, hw2⟩
  have b2 : Below w1.heap.size w1 w2 := by rw [hw2]; go_grown
  have HB2 : Hid (Blk w2 w1.heap.size 120 (hcells h0W (List.replicate 64 0) 0 ((([] : List UInt8).length : Nat) : Int))) := by rw [hw2]; exact Blk.new _ _ _
  have hR2 : Hid (Blk w2 w.heap.size 85 #[.int .u8 0, .int .u8 0, .int .u8 0, .int .u8 0, .int .u8 0, .int .u8 0, .int .u8 0, .int .u8 0, .int .u8 0, .int .u8 0, .int .u8 0, .int .u8 0, .int .u8 0, .int .u8 0, .int .u8 0, .int .u8 0, .int .u8 0, .int .u8 0, .int .u8 0, .int .u8 0, .int .u8 0, .int .u8 0, .int .u8 0, .int .u8 0, .int .u8 0, .int .u8 0, .int .u8 0, .int .u8 0, .int .u8 0, .int .u8 0, .int .u8 0, .int .u8 0]) := Lib.hid (hR1.out.below b2 hs1)
  have b02 : Below w.heap.size w w2 := b1.trans (b2.mono (by omega))
  obtain ⟨hp, hhp⟩ : ∃ h, h = w1.heap.size := ⟨_, rfl⟩
  rw [← hhp] at HB2 b2 ⊢
  have hpl := HB2.out.lt
  have HHP := Lib.hid (show w.heap.size < hp by omega)
  clear hw2 b2 hhp hs1 hR1 b1 HW1
  go_wp2
  go_loopw [9] (fun i wr => ∃ (k : Nat) (ws : List Int) (blk : List UInt8) (used : Nat), k ≤ n ∧ i = .int .i64 k ∧ Hid (TookB (ls.take k).flatten ws blk used) ∧ Hid (Blk wr hp 120 (hcells ws blk used (((ls.take k).flatten.length : Nat) : Int))) ∧ Hid (Blk wr w.heap.size 85 #[.int .u8 0, .int .u8 0, .int .u8 0, .int .u8 0, .int .u8 0, .int .u8 0, .int .u8 0, .int .u8 0, .int .u8 0, .int .u8 0, .int .u8 0, .int .u8 0, .int .u8 0, .int .u8 0, .int .u8 0, .int .u8 0, .int .u8 0, .int .u8 0, .int .u8 0, .int .u8 0, .int .u8 0, .int .u8 0, .int .u8 0, .int .u8 0, .int .u8 0, .int .u8 0, .int .u8 0, .int .u8 0, .int .u8 0, .int .u8 0, .int .u8 0, .int .u8 0]) ∧ Below w.heap.size w wr) (fun i _ => n - (intOf i).toNat)
  case atStart => exact ⟨0, _, _, _, by omega, rfl, Lib.hid (by simpa using TookB.start (List.replicate 64 0) rfl), HB2, hR2, b02⟩
  case round =>
    clear HB2 hR2 b02 hpl
    obtain ⟨k, ws, blk, used, hk, rfl, HT, HB, HR, hb⟩ := hrel
    by_cases hlt : k < n
    · obtain ⟨b, off, x, rfl, hbl, hx, hcell⟩ := row_get (fun l : List UInt8 => Value.string ⟨l.toArray⟩) (show SlA w 1 A n c (ls.map fun l => [Value.string ⟨l.toArray⟩]) from HA.out) hlt
      have c0 := (hb.cell (p := ⟨b, off + k, none⟩) hbl).trans hcell
      have HX := Lib.hid hx
      have hkw := Lib.hid (HK.out.below hb (Nat.le_refl _))
      have HF := Lib.hid (flat_take_succ hx)
      have HLE := Lib.hid (flat_take_le ls (k + 1))
      have HLT := Lib.hid hlt
      have kn : (k : Int) < n := by omega
      obtain ⟨t, ht⟩ : ∃ t : ByteArray, t = ⟨x.toArray⟩ := ⟨_, rfl⟩
      have htl : t.data.toList = x := by rw [ht]
      have hts : t.size = x.length := by rw [ht, bsize]
      rw [← ht] at c0
      have HTL := Lib.hid htl; have HTS := Lib.hid hts
      clear hx hcell hlt hk ht htl hts
      go_wp2_with fail
      refine (take_any hp _ ws blk used _ t wr hkw.out HB.out HT.out (by omega) (by have h1 := HLE.out; rw [HF.out, List.length_append] at h1; have h2 := HLL.out; have h3 := HTS.out; omega)).mono ?_; rintro e w3 ⟨rfl, ⟨ws3, blk3, used3, ht3, hp3⟩, hg3⟩
      have HT3 : Hid (TookB (ls.take (k + 1)).flatten ws3 blk3 used3) := by rw [HF.out, ← HTL.out]; exact ht3
      have HB3 : Hid (Blk w3 hp 120 (hcells ws3 blk3 used3 (((ls.take (k + 1)).flatten.length : Nat) : Int))) := by
        rw [HF.out, List.length_append, ← HTS.out]; exact hp3
      have HR3 : Hid (Blk w3 w.heap.size 85 #[.int .u8 0, .int .u8 0, .int .u8 0, .int .u8 0, .int .u8 0, .int .u8 0, .int .u8 0, .int .u8 0, .int .u8 0, .int .u8 0, .int .u8 0, .int .u8 0, .int .u8 0, .int .u8 0, .int .u8 0, .int .u8 0, .int .u8 0, .int .u8 0, .int .u8 0, .int .u8 0, .int .u8 0, .int .u8 0, .int .u8 0, .int .u8 0, .int .u8 0, .int .u8 0, .int .u8 0, .int .u8 0, .int .u8 0, .int .u8 0, .int .u8 0, .int .u8 0]) := Lib.hid ((hg3.block _ HR.out.lt (fun e => by have := HHP.out; injection e with e; omega)).trans HR.out)
      have hb3 : Below w.heap.size w w3 := hb.grown hg3 hb.size (fun k hk => by have := HHP.out; injection hk with hk; omega)
      clear ht3 hp3 hg3 c0
      go_wp2
      have hk := HLT.out
      exact ⟨⟨k + 1, ws3, blk3, used3, by omega, by go_num, HT3, HB3, HR3, hb3⟩, by simp [intOf]; omega⟩
    · obtain rfl : k = n := by omega
      have hall : ls.take k = ls := List.take_of_length_le (by rw [HLN.out]; exact Nat.le_refl _)
      rw [hall] at HT HB
      have hkw := Lib.hid (HK.out.below hb (Nat.le_refl _))
      clear hall hk hlt
      go_wp2_with fail
      refine (sum_any hp _ ws blk used wr hkw.out HB.out HT.out HLL.out).mono ?_; rintro e w3 ⟨rfl, hg3⟩
      have HR3 : Hid (Blk w3 w.heap.size 85 #[.int .u8 0, .int .u8 0, .int .u8 0, .int .u8 0, .int .u8 0, .int .u8 0, .int .u8 0, .int .u8 0, .int .u8 0, .int .u8 0, .int .u8 0, .int .u8 0, .int .u8 0, .int .u8 0, .int .u8 0, .int .u8 0, .int .u8 0, .int .u8 0, .int .u8 0, .int .u8 0, .int .u8 0, .int .u8 0, .int .u8 0, .int .u8 0, .int .u8 0, .int .u8 0, .int .u8 0, .int .u8 0, .int .u8 0, .int .u8 0, .int .u8 0, .int .u8 0]) := Lib.hid ((hg3.block _ HR.out.lt (fun e => by have := HHP.out; injection e with e; omega)).trans HR.out)
      have hb3 : Below w.heap.size w w3 := hb.grown hg3 hb.size (fun k hk => by have := HHP.out; injection hk with hk; omega)
      obtain ⟨C, hC⟩ : ∃ C, C = bArr (sumOf ls.flatten) := ⟨_, rfl⟩
      have hcs : C.size = 32 := by rw [hC, bArr_size, sumOf_len]
      have hi32 : (Tryd.prog.info? 85).map (·.size) = some C.size := by rw [hcs]; kernel_rfl
      have hall : C.all (·.oneCell') = true := by
        rw [hC, Array.all_eq_true_iff_forall_mem]
        intro v hv
        unfold bArr at hv
        simp at hv
        obtain ⟨b, _, rfl⟩ := hv
        rfl
      have e1 : (sumOf ls.flatten |>.map u8V).toArray = C := hC.symm
      rw [e1]
      have HC := Lib.hid hC; have HI32 := Lib.hid hi32; have HALL := Lib.hid hall; have HCS := Lib.hid hcs
      clear hC hcs hi32 hall e1 hg3
      go_wp2_with (refine wpList_store_row rfl 85 (.tmp 2) (.tmp 18) rfl w.heap.size C rfl rfl _ _ HR3.out HI32.out (by rw [HCS.out]; rfl) HALL.out ?_)
      have hE := Blk.setRow_ HR3.out C
      refine bodyPost_ret (v := .agg C) (results_cell_row rfl _ _ w.heap.size _ _ _ _ rfl hE Tryd.underlying85 rfl HI32.out) rfl ⟨by rw [HC.out], below_setRow hb3 (Nat.le_refl _) _⟩

end Go.Proofs.YtlodcjpoamaemaaDoor
