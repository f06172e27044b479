/- The program's sum: impl.newHasher, (*impl.hasher).sum, impl.hashOf, impl.hashFigures, impl.HashSum. -/
import Derived.Test.YtlodcjpoamaemaaDoorHashN
import Derived.Test.YtlodcjpoamaemaaDoorHashE
import Derived.Deep.LoopGhost
namespace Go.Proofs.YtlodcjpoamaemaaDoor
open Go.RowKit
set_option linter.unusedSimpArgs false
set_option linter.unusedVariables false

set_option maxRecDepth 100000 in
theorem newHasher_any (w : World) :
    Calls Tryd.prog 58 #[] w fun e w' => e = .returned (.pointer (some ⟨w.heap.size, 0, none⟩)) ∧ w' = w.alloc (.cells (hcells h0W (List.replicate 64 0) 0 0) 120) := by
  go_enter Tryd.func58, Tryd.ntmps58
  go_wp2
  go_ret
  exact ⟨rfl, rfl⟩

/-- A block of bytes. -/
def bArr (l : List UInt8) : Array Value := (l.map u8V).toArray
theorem bArr_set (l : List UInt8) (k : Nat) (x : UInt8) : (bArr l).setIfInBounds k (u8V x) = bArr (l.set k x) := by
  unfold bArr
  rw [List.setIfInBounds_toArray, List.map_set]
theorem bArr_get {l : List UInt8} {k : Nat} {x : UInt8} (h : l[k]? = some x) : (bArr l)[k]? = some (u8V x) := by
  unfold bArr
  rw [List.getElem?_toArray, List.getElem?_map, h]; rfl
theorem bArr_size (l : List UInt8) : (bArr l).size = l.length := by simp [bArr]
theorem bArr_some {w : World} {g k : Nat} {t : TypeId} {l : List UInt8} (h : Blk w g t (bArr l)) (hk : k < l.length) : w.cell? ⟨g, k, none⟩ = some (u8V (l.getD k 0)) := (h.cell k).trans (bArr_get (getD_of hk))
theorem be8_at (n : Nat) {k : Nat} (h : k < 8) : (be8 n).take (k + 1) ++ List.replicate (8 - (k + 1)) 0 = ((be8 n).take k ++ List.replicate (8 - k) 0).set k (byteOf (((8 * n : Nat) : Int) / 2 ^ (56 - 8 * k))) := by
  have hl : ((be8 n).take k).length = k := by rw [List.length_take, be8_len]; omega
  rw [List.set_append_right _ _ (by rw [hl]; exact Nat.le_refl _), hl, Nat.sub_self, show 8 - k = (8 - (k + 1)) + 1 by omega, List.replicate_succ, List.set_cons_zero,
    List.take_succ_eq_append_getElem (by rw [be8_len]; exact h), List.append_assoc]
  congr 1
  simp [be8]

theorem grown_sr_new {w wr : World} {r : Option Nat} {g : Nat} (h : w.grownBy wr r) (hg : w.heap.size ≤ g) (cs : Array Value) : w.grownBy (wr.setRow g cs) r := by
  obtain ⟨h1, h2, h3, h4, h5⟩ := h
  refine ⟨h1, h2, h3, by unfold World.setRow; simpa using h4, fun k hk hr => ?_⟩
  unfold World.setRow
  show (wr.heap.modify g _)[k]? = _
  rw [Array.getElem?_modify, if_neg (by omega)]
  exact h5 k hk hr
theorem four_set (P : List UInt8) (m k : Nat) (a b c d : UInt8) (h : P.length = k) : ((((P ++ List.replicate (m + 4) 0).set k a).set (k + 1) b).set (k + 2) c).set (k + 3) d = P ++ [a, b, c, d] ++ List.replicate m 0 := by
  subst h
  rw [show List.replicate (m + 4) (0 : UInt8) = 0 :: 0 :: 0 :: 0 :: List.replicate m 0 from rfl]
  have e : ∀ (X : List UInt8) (i : Nat) (y : UInt8), (P ++ X).set (P.length + i) y = P ++ X.set i y := fun X i y => by
    rw [List.set_append_right _ _ (by omega), Nat.add_sub_cancel_left]
  have e0 := e (0 :: 0 :: 0 :: 0 :: List.replicate m 0) 0 a
  rw [Nat.add_zero] at e0
  rw [e0, e, e, e]
  simp
theorem flat4_len (R : List Int) : (R.flatMap be4).length = 4 * R.length := by
  induction R with
  | nil => rfl
  | cons x R ih => rw [List.flatMap_cons, List.length_append, ih]; simp [be4]; omega
theorem outs_step (R : List Int) {k : Nat} (hl : R.length = 8) (h : k < 8) :
    (((((R.take k).flatMap be4 ++ List.replicate (32 - 4 * k) 0).set (4 * k) (byteOf (R.getD k 0 / 16777216))).set (4 * k + 1) (byteOf (R.getD k 0 / 65536))).set (4 * k + 2) (byteOf (R.getD k 0 / 256))).set (4 * k + 3) (byteOf (R.getD k 0)) =
      (R.take (k + 1)).flatMap be4 ++ List.replicate (32 - 4 * (k + 1)) 0 := by
  have e : 32 - 4 * k = (32 - 4 * (k + 1)) + 4 := by omega
  rw [e, four_set _ _ _ _ _ _ _ (by rw [flat4_len, List.length_take, hl]; omega)]
  rw [List.take_succ_eq_append_getElem (by rw [hl]; exact h), List.flatMap_append]
  congr 2
  simp [be4, hl, h]
theorem agg_index (w : World) (a b c d e f g h : Int) {k : Nat} (hk : k < 8) :
    (Instr.index 118 (.agg #[.int .u32 a, .int .u32 b, .int .u32 c, .int .u32 d, .int .u32 e, .int .u32 f, .int .u32 g, .int .u32 h]) (.int .i64 (k : Int))).run Tryd.prog w = .ok (.int .u32 ([a, b, c, d, e, f, g, h].getD k 0)) w := by
  obtain rfl | rfl | rfl | rfl | rfl | rfl | rfl | rfl : k = 0 ∨ k = 1 ∨ k = 2 ∨ k = 3 ∨ k = 4 ∨ k = 5 ∨ k = 6 ∨ k = 7 := by omega
  all_goals kernel_rfl

theorem zeros_snoc (l : List UInt8) (k : Nat) : l ++ [128] ++ List.replicate k 0 ++ [0] = l ++ [128] ++ List.replicate (k + 1) 0 := by
  rw [List.append_assoc, ← List.replicate_succ']

set_option maxRecDepth 100000 in
set_option maxHeartbeats 4000000 in
theorem sum_any (p : Nat) (l : List UInt8) (ws : List Int) (blk : List UInt8) (used : Nat) (w : World) (hk : Kww w) (hp : Blk w p 120 (hcells ws blk used l.length)) (ht : TookB l ws blk used) (hl : l.length ≤ 34359738368) :
    Calls Tryd.prog 60 #[.pointer (some ⟨p, 0, none⟩)] w fun e w' => e = .returned (.agg ((sumOf l).map u8V).toArray) ∧ w.grownBy w' (some p) := by
  have hwl : ws.length = 8 := by rw [ht.words]; rfl
  have c73 := (hp.cell 73).trans (hcells_taken hwl ht.len)
  obtain ⟨n, hn⟩ : ∃ n, n = l.length := ⟨_, rfl⟩
  rw [← hn] at hp c73 hl
  have HN := Lib.hid hn; clear hn
  have hpl := hp.lt
  have w1 : IntKind.u64.wrap ((n : Int) * 8) = n * 8 := by simp [IntKind.wrap, IntKind.bits, IntKind.signed]; omega
  have w2 : ((n : Int) * 8) % 18446744073709551616 = n * 8 := by omega
  have HP := Lib.hid hp; have HT := Lib.hid ht; have HK := Lib.hid hk
  have HKP := Lib.hid (hk.apart hp (by rw [hcells_size hwl ht.len]; decide))
  clear hp ht hk hwl
  go_enter Tryd.func60, Tryd.ntmps60
  go_wp2_with fail
  obtain ⟨W1, hW1⟩ : ∃ W1, W1 = w.alloc (.cells #[.int .u8 0, .int .u8 0, .int .u8 0, .int .u8 0, .int .u8 0, .int .u8 0, .int .u8 0, .int .u8 0, .int .u8 0, .int .u8 0, .int .u8 0, .int .u8 0, .int .u8 0, .int .u8 0, .int .u8 0, .int .u8 0, .int .u8 0, .int .u8 0, .int .u8 0, .int .u8 0, .int .u8 0, .int .u8 0, .int .u8 0, .int .u8 0, .int .u8 0, .int .u8 0, .int .u8 0, .int .u8 0, .int .u8 0, .int .u8 0, .int .u8 0, .int .u8 0] 85) := ⟨_, rfl⟩
  obtain ⟨rb, hrb⟩ : ∃ r, r = w.heap.size := ⟨_, rfl⟩
  have hR1 : Hid (Blk W1 rb 85 #[.int .u8 0, .int .u8 0, .int .u8 0, .int .u8 0, .int .u8 0, .int .u8 0, .int .u8 0, .int .u8 0, .int .u8 0, .int .u8 0, .int .u8 0, .int .u8 0, .int .u8 0, .int .u8 0, .int .u8 0, .int .u8 0, .int .u8 0, .int .u8 0, .int .u8 0, .int .u8 0, .int .u8 0, .int .u8 0, .int .u8 0, .int .u8 0, .int .u8 0, .int .u8 0, .int .u8 0, .int .u8 0, .int .u8 0, .int .u8 0, .int .u8 0, .int .u8 0]) := by rw [hW1, hrb]; exact Blk.new _ _ _
  have hP1 : Hid (Blk W1 p 120 (hcells ws blk used n)) := by rw [hW1]; exact HP.out.alloc _
  have hG1 : Hid (w.grownBy W1 (some p)) := by rw [hW1]; exact World.grownBy_alloc _ _ _
  have hrp : rb ≠ p := by omega
  rw [← hW1, ← hrb]
  have HRP := Lib.hid hrp
  have hRW := Lib.hid (show w.heap.size ≤ rb by omega)
  have hrl : rb < W1.heap.size := hR1.out.lt
  have HK1 := Lib.hid (HK.out.of_block (hG1.out.block _ HK.out.lt (fun e => HKP.out (by injection e with e; exact e.symm))))
  clear hW1 hrb hrp HP c73 w1 w2
  refine (take_any p l ws blk used n ⟨#[128]⟩ W1 HK1.out hP1.out HT.out (by omega) (by show (n : Int) + 1 ≤ _; omega)).mono ?_; rintro e w2 ⟨rfl, ⟨ws2, blk2, used2, ht2, hp2⟩, hg2⟩
  have e2 : l ++ (⟨#[128]⟩ : ByteArray).data.toList = l ++ [128] ++ List.replicate 0 0 := by simp
  have HT2 : Hid (TookB (l ++ [128] ++ List.replicate 0 0) ws2 blk2 used2) := by rw [← e2]; exact ht2
  have HP2 : Hid (Blk w2 p 120 (hcells ws2 blk2 used2 ((n + 1 + 0 : Nat) : Int))) := hp2
  have HG2 := Lib.hid hg2
  clear ht2 hp2 hg2 e2 HT hP1
  go_wp2
  go_loopg [] (zerosFor n + 1) (fun gk wr => ∃ (k : Nat) (ws : List Int) (blk : List UInt8) (used : Nat), gk = zerosFor n + 1 - k ∧ k ≤ zerosFor n ∧ Hid (TookB (l ++ [128] ++ List.replicate k 0) ws blk used) ∧ Hid (Blk wr p 120 (hcells ws blk used ((n + 1 + k : Nat) : Int))) ∧ Hid (W1.grownBy wr (some p)))
  case atStart => exact ⟨0, ws2, blk2, used2, rfl, by omega, HT2, HP2, HG2⟩
  case round =>
    clear HT2 HP2 HG2
    obtain ⟨k, ws, blk, used, hgk, hk, HT, HP, HG⟩ := hrel
    have hgk := Lib.hid hgk
    have hwl : ws.length = 8 := by rw [HT.out.words]; rfl
    have c72 := (HP.out.cell 72).trans (hcells_used hwl HT.out.len)
    have hus : used = (n + 1 + k) % 64 := by
      have := HT.out.used
      rw [List.length_append, List.length_append, List.length_replicate, ← HN.out] at this
      exact this
    have hkw := Lib.hid (HK1.out.of_block (HG.out.block _ HK1.out.lt (fun e => HKP.out (by injection e with e; exact e.symm))))
    have HWL := Lib.hid hwl
    by_cases hlt : k < zerosFor n
    · have hb : ((used : Int) != 56) = true := by have := zerosFor_least n k hlt; simp; omega
      have HLT := Lib.hid hlt
      have hz := zerosFor_lt n
      clear hus hwl hlt hk
      go_wp2_with fail
      refine (take_any p (l ++ [128] ++ List.replicate k 0) ws blk used ((n + 1 + k : Nat) : Int) ⟨#[0]⟩ wr hkw.out HP.out HT.out (by omega) (by have := HLT.out; show ((n + 1 + k : Nat) : Int) + 1 ≤ _; omega)).mono ?_; rintro e w3 ⟨rfl, ⟨ws3, blk3, used3, ht3, hp3⟩, hg3⟩
      have HT3 : Hid (TookB (l ++ [128] ++ List.replicate (k + 1) 0) ws3 blk3 used3) := by rw [← zeros_snoc]; exact ht3
      have HP3 : Hid (Blk w3 p 120 (hcells ws3 blk3 used3 ((n + 1 + (k + 1) : Nat) : Int))) := hp3
      have HG3 := Lib.hid (World.grownBy.trans HG.out hg3)
      clear ht3 hp3 hg3 hz
      go_wp2
      go_roundg (zerosFor n + 1 - (k + 1))
      case rel => exact ⟨k + 1, ws3, blk3, used3, rfl, by have := HLT.out; omega, HT3, HP3, HG3⟩
      case measure => have := HLT.out; have := hgk.out; omega
    · have hkz : k = zerosFor n := by omega
      have hb : ((used : Int) != 56) = false := by have := zerosFor_mod n; rw [hkz] at hus; simp; omega
      rw [hkz] at HT HP
      clear hus hwl hlt hk hkz c72
      obtain ⟨wz, rfl⟩ : ∃ wz : World, wz = wr := ⟨_, rfl⟩
      have HPZ := HP
      have c72 := (HP.out.cell 72).trans (hcells_used HWL.out HT.out.len)
      obtain ⟨gt, hgt⟩ : ∃ g, g = wz.heap.size := ⟨_, rfl⟩
      have HB0 : Hid (Blk (wz.alloc (.cells #[.int .u8 0, .int .u8 0, .int .u8 0, .int .u8 0, .int .u8 0, .int .u8 0, .int .u8 0, .int .u8 0] 121)) gt 121 (bArr ((be8 n).take 0 ++ List.replicate (8 - 0) 0))) := by rw [hgt]; exact Blk.new _ _ _
      have hgt2 : wz.heap.size ≤ gt := by omega
      have hpz := HP.out.lt
      have hrz : rb < wz.heap.size := Nat.lt_of_lt_of_le hrl HG.out.size
      go_wp2
      rw [← hgt]
      have HGT := Lib.hid hgt
      clear hgt c72 hb
      go_loopw [23] (fun i wr => ∃ k : Nat, k ≤ 8 ∧ i = .int .i64 k ∧ Hid (Blk wr gt 121 (bArr ((be8 n).take k ++ List.replicate (8 - k) 0))) ∧ Below wz.heap.size wz wr) (fun i _ => 8 - (intOf i).toNat)
      case atStart => exact ⟨0, by omega, rfl, HB0, by go_grown⟩
      case round =>
        clear HB0
        obtain ⟨k, hk, rfl, HB, hbz⟩ := hrel
        by_cases hlt : k < 8
        · have hl8 : ((be8 n).take k ++ List.replicate (8 - k) (0 : UInt8)).length = 8 := by rw [List.length_append, List.length_take, be8_len, List.length_replicate]; omega
          obtain ⟨z, hz⟩ : ∃ z, z = ((be8 n).take k ++ List.replicate (8 - k) (0 : UInt8)).getD k 0 := ⟨_, rfl⟩
          have cz := bArr_some HB.out (k := k) (by rw [hl8]; exact hlt)
          rw [← hz] at cz
          have fz := HB.out.frozen k
          have HV := Lib.hid (show (Value.int .u8 ((n : Int) * 8 / 2 ^ (56 - 8 * k) % 256)) = u8V (byteOf (((8 * n : Nat) : Int) / 2 ^ (56 - 8 * k))) by
            rw [u8V, ← byteOf_mod]
            congr 3
            omega)
          have HLT := Lib.hid hlt
          have k8 : (k : Int) < 8 := by omega
          clear hl8 hz hlt hk
          go_wp2
          have hk := HLT.out
          refine ⟨⟨k + 1, by omega, by go_num, ?_, ?_⟩, ?_⟩
          · have := HB.out.set_ k (u8V (byteOf (((8 * n : Nat) : Int) / 2 ^ (56 - 8 * k))))
            rw [bArr_set, ← be8_at n hk, ← HV.out] at this
            exact Lib.hid this
          · exact hbz.setCell hgt2 _
          · simp [intOf]; omega
        · obtain rfl : k = 8 := by omega
          have hfull : (be8 n).take 8 ++ List.replicate (8 - 8) (0 : UInt8) = be8 n := by rw [List.take_of_length_le (by rw [be8_len]; exact Nat.le_refl _)]; simp
          rw [hfull] at HB
          have hconv : (convert 77 9 (.slice (some ⟨gt, 0, none⟩) 8 8)).run Tryd.prog wr = .ok (.string ⟨(be8 n).toArray⟩) wr := by
            have := run_convert_bytes_back (P := Tryd.prog) wr 77 9 5 ⟨gt, 0, none⟩ 8 (be8 n) Tryd.underlying77 Tryd.underlying5 Tryd.underlying9 (fun j hj => by
              rw [add_at, HB.out.cell]
              exact bArr_get (List.getElem?_eq_getElem hj))
            rwa [be8_len] at this
          have hPr := Lib.hid (HP.out.below hbz hpz)
          have hgr : Hid (W1.grownBy wr (some p)) := Lib.hid (World.grownBy.trans HG.out (below_gr hbz _))
          have hkr := Lib.hid (HK1.out.of_block (hgr.out.block _ HK1.out.lt (fun e => HKP.out (by injection e with e; exact e.symm))))
          have hpad : l ++ [128] ++ List.replicate (zerosFor n) 0 ++ be8 n = padded l := by rw [HN.out]; unfold padded; simp
          have HPAD := Lib.hid hpad
          have hz := zerosFor_lt n
          clear hfull hpad hbz HP HG hk hlt
          go_wp2_with fail
          refine (take_any p _ ws blk used ((n + 1 + zerosFor n : Nat) : Int) ⟨(be8 n).toArray⟩ wr hkr.out hPr.out HT.out (by omega) (by rw [bsize, be8_len]; omega)).mono ?_; rintro e w5 ⟨rfl, ⟨ws5, blk5, used5, ht5, hp5⟩, hg5⟩
          have ht6 : TookB (padded l) ws5 blk5 used5 := by rw [← HPAD.out]; exact ht5
          obtain ⟨R, hR⟩ : ∃ R : W8, R = sumTo (padded l) ((padded l).length / 64) := ⟨_, rfl⟩
          have hw5 : ws5 = R.row := by rw [hR]; exact ht6.words
          rw [hw5] at hp5
          have HSUM := Lib.hid (show sumOf l = R.row.flatMap be4 by rw [hR]; rfl)
          have hg15 : Hid (W1.grownBy w5 (some p)) := Lib.hid (World.grownBy.trans hgr.out hg5)
          have hw15 : Hid (w.grownBy w5 (some p)) := Lib.hid (World.grownBy.trans hG1.out hg15.out)
          have hRB5 : Hid (Blk w5 rb 85 #[.int .u8 0, .int .u8 0, .int .u8 0, .int .u8 0, .int .u8 0, .int .u8 0, .int .u8 0, .int .u8 0, .int .u8 0, .int .u8 0, .int .u8 0, .int .u8 0, .int .u8 0, .int .u8 0, .int .u8 0, .int .u8 0, .int .u8 0, .int .u8 0, .int .u8 0, .int .u8 0, .int .u8 0, .int .u8 0, .int .u8 0, .int .u8 0, .int .u8 0, .int .u8 0, .int .u8 0, .int .u8 0, .int .u8 0, .int .u8 0, .int .u8 0, .int .u8 0]) := Lib.hid ((hg15.out.block rb hrl (fun e => HRP.out (by injection e))).trans hR1.out)
          obtain ⟨sa, sb, sc, sd, se, sf, sg, sh⟩ := R
          have hr : w5.rangeAt p 0 [.int .u32 sa, .int .u32 sb, .int .u32 sc, .int .u32 sd, .int .u32 se, .int .u32 sf, .int .u32 sg, .int .u32 sh] := fun j v hv => by
            have hv' : ([sa, sb, sc, sd, se, sf, sg, sh].map (Value.int .u32))[j]? = some v := hv
            rw [List.getElem?_map] at hv'
            obtain ⟨x, hx, rfl⟩ := Option.map_eq_some_iff.1 hv'
            rw [Nat.zero_add]
            exact (hp5.cell j).trans (hcells_w hx)
          have HRR := Lib.hid hr
          have hi8 : (Tryd.prog.info? 118).map (·.size) = some 8 := by kernel_rfl
          have HI8 := Lib.hid hi8
          have hp5l := hp5.lt
          clear hr hi8 ht5 ht6 hp5 hg5 hR hw5 hconv hz hPr hgr hkr HB
          obtain ⟨go, hgo⟩ : ∃ g, g = w5.heap.size := ⟨_, rfl⟩
          have hgo2 : w5.heap.size ≤ go := by omega
          obtain ⟨w6, hw6⟩ : ∃ w6, w6 = w5.alloc (.cells #[.int .u8 0, .int .u8 0, .int .u8 0, .int .u8 0, .int .u8 0, .int .u8 0, .int .u8 0, .int .u8 0, .int .u8 0, .int .u8 0, .int .u8 0, .int .u8 0, .int .u8 0, .int .u8 0, .int .u8 0, .int .u8 0, .int .u8 0, .int .u8 0, .int .u8 0, .int .u8 0, .int .u8 0, .int .u8 0, .int .u8 0, .int .u8 0, .int .u8 0, .int .u8 0, .int .u8 0, .int .u8 0, .int .u8 0, .int .u8 0, .int .u8 0, .int .u8 0] 85) := ⟨_, rfl⟩
          have hB6 : Hid (Blk w6 go 85 (bArr (([] : List Int).flatMap be4 ++ List.replicate (32 - 4 * 0) 0))) := by rw [hw6, hgo]; exact Blk.new _ _ _
          have b56 : Below w5.heap.size w5 w6 := by rw [hw6]; go_grown
          have HR6 : Hid (w6.rangeAt p 0 [.int .u32 sa, .int .u32 sb, .int .u32 sc, .int .u32 sd, .int .u32 se, .int .u32 sf, .int .u32 sg, .int .u32 sh]) := Lib.hid (fun j v hv => (b56.cell (p := ⟨p, 0 + j, none⟩) hp5l).trans (HRR.out j v hv))
          have HW6 := Lib.hid hw6; have HGO := Lib.hid hgo
          clear hw6 hgo
          go_wp2_with (refine wpList_load_mid rfl 118 (.tmp 41) rfl p 0 rfl [.int .u32 sa, .int .u32 sb, .int .u32 sc, .int .u32 sd, .int .u32 se, .int .u32 sf, .int .u32 sg, .int .u32 sh] _ (by first | exact HR6.out | (rw [← HW6.out]; exact HR6.out)) Tryd.underlying118 rfl HI8.out ?_)
          rw [← HW6.out, ← HGO.out]
          obtain ⟨RL, hRL⟩ : ∃ R : List Int, R = [sa, sb, sc, sd, se, sf, sg, sh] := ⟨_, rfl⟩
          have hRl : RL.length = 8 := by rw [hRL]; rfl
          have HRl := Lib.hid hRl
          have HIX : Hid (∀ (k : Nat), k < 8 → ∀ W : World, (Instr.index 118 (.agg #[.int .u32 sa, .int .u32 sb, .int .u32 sc, .int .u32 sd, .int .u32 se, .int .u32 sf, .int .u32 sg, .int .u32 sh]) (.int .i64 (k : Int))).run Tryd.prog W = .ok (.int .u32 (RL.getD k 0)) W) := fun k hk W => by rw [hRL]; exact agg_index W _ _ _ _ _ _ _ _ hk
          have HS2 := Lib.hid (show sumOf l = RL.flatMap be4 by rw [HSUM.out, hRL]; rfl)
          clear hRl hRL HSUM
          go_loopw [43] (fun i wr => ∃ k : Nat, k ≤ 8 ∧ i = .int .i64 k ∧ Hid (Blk wr go 85 (bArr ((RL.take k).flatMap be4 ++ List.replicate (32 - 4 * k) 0))) ∧ Below w5.heap.size w5 wr) (fun i _ => 8 - (intOf i).toNat)
          case atStart => exact ⟨0, by omega, rfl, hB6, b56⟩
          case round =>
            clear hB6 b56 HR6 HRR HW6
            obtain ⟨k, hk, rfl, HB, hb5⟩ := hrel
            by_cases hlt : k < 8
            · have hl8 : ((RL.take k).flatMap be4 ++ List.replicate (32 - 4 * k) (0 : UInt8)).length = 32 := by rw [List.length_append, flat4_len, List.length_take, HRl.out, List.length_replicate]; omega
              have hix := HIX.out k hlt
              obtain ⟨x, hx⟩ : ∃ x, x = RL.getD k 0 := ⟨_, rfl⟩
              rw [← hx] at hix
              have HST := Lib.hid (outs_step RL HRl.out hlt)
              rw [← hx] at HST
              obtain ⟨L, hL⟩ : ∃ L, L = (RL.take k).flatMap be4 ++ List.replicate (32 - 4 * k) (0 : UInt8) := ⟨_, rfl⟩
              rw [← hL] at HB HST hl8
              clear hL hx
              have d0 := bArr_some HB.out (k := 4 * k) (by omega)
              have d1 := bArr_some HB.out (k := 4 * k + 1) (by omega)
              have d2 := bArr_some HB.out (k := 4 * k + 2) (by omega)
              have d3 := bArr_some HB.out (k := 4 * k + 3) (by omega)
              have f0 := HB.out.frozen (4 * k)
              have f1 := HB.out.frozen (4 * k + 1)
              have f2 := HB.out.frozen (4 * k + 2)
              have f3 := HB.out.frozen (4 * k + 3)
              have HB4 : Hid (∀ W : World, Blk W go 85 (bArr L) → Blk ((((W.setCell ⟨go, 4 * k, none⟩ (.int .u8 (x / 16777216 % 256))).setCell ⟨go, 4 * k + 1, none⟩ (.int .u8 (x / 65536 % 256))).setCell ⟨go, 4 * k + 2, none⟩ (.int .u8 (x / 256 % 256))).setCell ⟨go, 4 * k + 3, none⟩ (.int .u8 (x % 256))) go 85 (bArr ((RL.take (k + 1)).flatMap be4 ++ List.replicate (32 - 4 * (k + 1)) 0))) := fun W h => by
                have := (((h.set_ (4 * k) (u8V (byteOf (x / 16777216)))).set_ (4 * k + 1) (u8V (byteOf (x / 65536)))).set_ (4 * k + 2) (u8V (byteOf (x / 256)))).set_ (4 * k + 3) (u8V (byteOf x))
                rw [bArr_set, bArr_set, bArr_set, bArr_set, HST.out] at this
                simp only [u8V, ← byteOf_mod] at this
                exact this
              have HLT := Lib.hid hlt
              have k8 : (k : Int) < 8 := by omega
              clear hl8 hlt hk HST
              go_wp2
              have hk := HLT.out
              refine ⟨⟨k + 1, by omega, by go_num, Lib.hid (HB4.out _ HB.out), (((hb5.setCell hgo2 _).setCell hgo2 _).setCell hgo2 _).setCell hgo2 _⟩, by simp [intOf]; omega⟩
            · obtain rfl : k = 8 := by omega
              have hfull : (RL.take 8).flatMap be4 ++ List.replicate (32 - 4 * 8) (0 : UInt8) = sumOf l := by rw [List.take_of_length_le (by rw [HRl.out]; exact Nat.le_refl _), HS2.out]; simp
              rw [hfull] at HB
              have hi32 : (Tryd.prog.info? 85).map (·.size) = some (bArr (sumOf l)).size := by rw [bArr_size, sumOf_len]; kernel_rfl
              have HI32 := Lib.hid hi32
              have HSZ := Lib.hid (show (bArr (sumOf l)).size = 32 by rw [bArr_size, sumOf_len])
              have hall : (bArr (sumOf l)).all (·.oneCell') = true := by
                rw [Array.all_eq_true_iff_forall_mem]
                intro v hv
                unfold bArr at hv
                simp at hv
                obtain ⟨b, _, rfl⟩ := hv
                rfl
              have HALL := Lib.hid hall
              have hRBr : Hid (Blk wr rb 85 #[.int .u8 0, .int .u8 0, .int .u8 0, .int .u8 0, .int .u8 0, .int .u8 0, .int .u8 0, .int .u8 0, .int .u8 0, .int .u8 0, .int .u8 0, .int .u8 0, .int .u8 0, .int .u8 0, .int .u8 0, .int .u8 0, .int .u8 0, .int .u8 0, .int .u8 0, .int .u8 0, .int .u8 0, .int .u8 0, .int .u8 0, .int .u8 0, .int .u8 0, .int .u8 0, .int .u8 0, .int .u8 0, .int .u8 0, .int .u8 0, .int .u8 0, .int .u8 0]) := Lib.hid (hRB5.out.below hb5 (Nat.lt_of_lt_of_le hrl hg15.out.size))
              have hnrb : ¬ rb = go := by have := hg15.out.size; omega
              clear hfull hi32 hall hk hlt
              go_wp2_with (first
                | (refine wpList_load_row rfl 85 (.tmp 6) rfl go rfl _ _ _ _ HB.out Tryd.underlying85 rfl HI32.out ?_)
                | (refine wpList_store_row rfl 85 (.tmp 2) (.tmp 74) rfl rb (bArr (sumOf l)) rfl rfl _ _ hRBr.out HI32.out (by rw [HSZ.out]; rfl) HALL.out ?_))
              have hE := Blk.setRow_ hRBr.out (bArr (sumOf l))
              refine bodyPost_ret (v := .agg (bArr (sumOf l))) (results_cell_row rfl _ _ rb _ _ _ _ rfl hE Tryd.underlying85 rfl HI32.out) rfl ⟨rfl, ?_⟩
              exact grown_sr_new (World.grownBy.trans hw15.out (below_gr hb5 _)) hRW.out _
end Go.Proofs.YtlodcjpoamaemaaDoor
