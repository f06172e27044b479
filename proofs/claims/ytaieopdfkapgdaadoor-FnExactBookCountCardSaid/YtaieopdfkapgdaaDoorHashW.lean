/- The reference's words of a block: spec.l1Words, spec.l1Consts. -/
import Derived.Test.YtaieopdfkapgdaaDoorHashT
import Derived.Test.YtaieopdfkapgdaaDoorTxt
import Derived.StillTailTactics
import Derived.Deep.CutBlock
import Derived.Deep.DeepCutAuto
import Derived.Deep.RegionHeld3
import Derived.Deep.RegionLaw
namespace Go.Proofs.YtaieopdfkapgdaaDoor
open Go.RowKit
set_option linter.unusedSimpArgs false
set_option linter.unusedVariables false

theorem info_u32 : (Tryd.prog.info? 96).map (fun i => (i.zero, i.size, i.bytes)) = some (some (.int .u32 0), 1, 4) := by kernel_rfl
theorem info_u8 : (Tryd.prog.info? 5).map (fun i => (i.zero, i.size, i.bytes)) = some (some (.int .u8 0), 1, 1) := by kernel_rfl

/-- The cells of bytes, of words. -/
def u8V (b : UInt8) : Value := .int .u8 (b.toNat : Int)
def bts (l : List UInt8) : List (List Value) := l.map fun b => [u8V b]
def wds (xs : List Int) : List (List Value) := xs.map fun x => [.int .u32 x]
theorem bts_len (l : List UInt8) : (bts l).length = l.length := by simp [bts]
theorem wds_len (l : List Int) : (wds l).length = l.length := by simp [wds]
theorem bts_rows (l : List UInt8) : ∀ r ∈ bts l, r.length = 1 := by simp [bts]
theorem wds_rows (l : List Int) : ∀ r ∈ wds l, r.length = 1 := by simp [wds]
theorem wds_snoc (l : List Int) (x : Int) : wds (l ++ [x]) = wds l ++ [[.int .u32 x]] := by simp [wds]
theorem bts_snoc (l : List UInt8) (x : UInt8) : bts (l ++ [x]) = bts l ++ [[u8V x]] := by simp [bts]
theorem bts_flat (l : List UInt8) : (bts l).flatten = l.map u8V := by
  induction l with
  | nil => rfl
  | cons x xs ih => simp [bts] at ih ⊢; exact ih
theorem wds_flat (l : List Int) : (wds l).flatten = l.map (Value.int .u32) := by
  induction l with
  | nil => rfl
  | cons x xs ih => simp [wds] at ih ⊢; exact ih

/-- An element of a row that is read. -/
theorem row_get {α : Type} (f : α → Value) {w : World} {A : Option Addr} {n c : Nat} {xs : List α} (h : SlA w 1 A n c (xs.map fun x => [f x])) {k : Nat} (hk : k < n) :
    ∃ b off x, A = some ⟨b, off, none⟩ ∧ b < w.heap.size ∧ xs[k]? = some x ∧ w.cell? ⟨b, off + k, none⟩ = some (f x) := by
  have hl := h.len
  rw [List.length_map] at hl
  obtain ⟨b, o, e, hb, hc⟩ := h.get hk
  have hk' : k < xs.length := by omega
  refine ⟨b, o, xs[k], e, hb, List.getElem?_eq_getElem hk', ?_⟩
  have hr : (xs.map fun x => [f x])[k]? = some [f xs[k]] := by simp [hk']
  have g := hc _ hr 0 _ rfl
  rwa [Nat.mul_one, Nat.add_zero] at g
theorem below_drewN {B : Nat} {a w : World} (h : Below B a w) (n : Nat) : Below B a (w.drewN n) := ⟨h.os, h.tape, h.output, h.size, h.block⟩
/-- All elements of a row that is not empty. -/
theorem row_all {α : Type} (f : α → Value) {w : World} {A : Option Addr} {n c : Nat} {xs : List α} (h : SlA w 1 A n c (xs.map fun x => [f x])) (hn : 0 < n) :
    ∃ b off, A = some ⟨b, off, none⟩ ∧ b < w.heap.size ∧ ∀ k x, xs[k]? = some x → w.cell? ⟨b, off + k, none⟩ = some (f x) := by
  obtain ⟨b, o, e, hb, hc⟩ := h.at_ hn
  refine ⟨b, o, e, hb, fun k x hx => ?_⟩
  have hr : (xs.map fun x => [f x])[k]? = some [f x] := by simp [hx]
  have g := hc _ _ hr 0 _ rfl
  rwa [Nat.mul_one, Nat.add_zero] at g
theorem byteAt_bd (b : List UInt8) (i : Nat) : 0 ≤ byteAt b i ∧ byteAt b i < 256 := by
  unfold byteAt
  have := UInt8.toNat_lt (b.getD i 0)
  omega
theorem byteAt_mod (b : List UInt8) (i : Nat) : byteAt b i % 4294967296 = byteAt b i := by
  have := byteAt_bd b i; omega
theorem byteAt_wrap (b : List UInt8) (i : Nat) : IntKind.u32.wrap (byteAt b i) = byteAt b i := by
  have := byteAt_bd b i
  simp [IntKind.wrap, IntKind.bits, IntKind.signed]; omega
theorem getD_of {α : Type} {l : List α} {i : Nat} {d : α} (h : i < l.length) : l[i]? = some (l.getD i d) := by simp [h]

/-- 'make([]T, 0, m)'. -/
theorem run_make_cap {P : Program} (t e : TypeId) (z : Value) (size bytes : Nat) (ht : P.underlying t = some (.slice e)) (hinfo : (P.info? e).map (fun i => (i.zero, i.size, i.bytes)) = some (some z, size, bytes))
    (kl : IntKind) (m : Nat) (hbytes : bytes * m ≤ 281474976710656) (h63 : m ≤ 9223372036854775807) (w : World) :
    (Instr.makeSlice t (.int kl 0) (.int kl (m : Int))).run P w = .ok (.slice (some ⟨w.heap.size, 0, none⟩) 0 m) (w.alloc (.cells (madeCells z.cells (m * size)) e)) := by
  obtain ⟨i, hi, hz, hs, hb⟩ := info_parts hinfo
  have hb' : ((i.bytes : Nat) : Int) * (m : Int) ≤ 281474976710656 := by
    have h : ((i.bytes * m : Nat) : Int) ≤ 281474976710656 := by rw [hb]; omega
    rwa [Int.natCast_mul] at h
  have hr := run_make (P := P) w t e i z ht hi hz kl kl 0 m (by omega) (by omega) hb' (by omega)
  simp only [Int.toNat_natCast, hs] at hr
  exact hr

set_option maxHeartbeats 1000000 in
set_option maxRecDepth 100000 in
theorem l1Words_any (v : Value) (b : List UInt8) (w : World) (hs : Sl w 1 v (bts b)) (hb : b.length = 64) :
    Calls Tryd.prog 77 #[v] w fun e w' => ∃ v, e = .returned v ∧ w'.ownsRow w.heap.size 96 1 v 64 (wds (sched b)).flatten ∧ Below w.heap.size w w' := by
  obtain ⟨A, n, c, rfl, hA⟩ := hs
  have hl : b.length = n := by have := hA.len; rwa [bts_len] at this
  obtain rfl : n = 64 := by omega
  have hcp := hA.cap
  have hmx := hA.max
  unfold maxLen at hmx
  obtain ⟨B, off, rfl, hB, hcells⟩ := row_all u8V hA (by omega)
  have HC := Lib.hid hcells; clear hcells hA
  have HB := Lib.hid hb; clear hb hl
  obtain ⟨zs, hzs⟩ : ∃ z, z = madeCells (Value.int .u32 0).cells (64 * 1) := ⟨_, rfl⟩
  have hmk : ∀ W : World, (Instr.makeSlice 97 (.int .i64 0) (.int .i64 64)).run Tryd.prog W = .ok (.slice (some ⟨W.heap.size, 0, none⟩) 0 64) (W.alloc (.cells (madeCells (Value.int .u32 0).cells (64 * 1)) 96)) := fun W => run_make_cap (P := Tryd.prog) 97 96 _ 1 4 Tryd.underlying97 info_u32 .i64 64 (by omega) (by omega) W
  rw [← hzs] at hmk
  have hO : (w.alloc (.cells zs 96)).ownsRow w.heap.size 96 1 (.slice (some ⟨w.heap.size, 0, none⟩) 0 64) 0 [] := World.ownsRow_made w _ 64 (Nat.le_refl _) (by unfold maxLen; omega) (by rw [hzs]; simp [size_madeCells])
  have HO := Lib.hid hO; clear hO hzs
  go_enter Tryd.func77, Tryd.ntmps77
  go_upto_block 0 with (fail)
  go_cut [3] (fun s3 wx => Hid (wx.ownsRow w.heap.size 96 1 s3 16 (wds (firstW b 16)).flatten) ∧ Below w.heap.size w wx)
  case first =>
    go_wp2
    go_loopw [3, 4] (fun v i wr => ∃ k : Nat, k ≤ 16 ∧ i = .int .i64 k ∧ wr.ownsRow w.heap.size 96 1 v k (wds (firstW b k)).flatten ∧ Below w.heap.size w wr) (fun _ i _ => 16 - (intOf i).toNat)
    case atStart => exact ⟨0, by omega, rfl, by simpa [firstW, wds] using HO.out, by go_grown⟩
    case round =>
      obtain ⟨k, hk, rfl, hown, hb⟩ := hrel
      have hsz := hb.size
      by_cases hlt : k < 16
      · have cell := fun i (hi : i < 64) => (hb.cell (p := ⟨B, off + i, none⟩) hB).trans (HC.out i _ (getD_of (d := 0) (by rw [HB.out]; exact hi)))
        obtain ⟨x0, hx0⟩ : ∃ x, x = byteAt b (4 * k) := ⟨_, rfl⟩
        have c0 : wr.cell? ⟨B, off + 4 * k, none⟩ = some (.int .u8 x0) := by rw [hx0]; exact cell (4 * k) (by omega)
        have w0 : IntKind.u32.wrap x0 = x0 := by rw [hx0]; exact byteAt_wrap _ _
        have v0 : x0 % 4294967296 = x0 := by rw [hx0]; exact byteAt_mod _ _
        obtain ⟨x1, hx1⟩ : ∃ x, x = byteAt b (4 * k + 1) := ⟨_, rfl⟩
        have c1 : wr.cell? ⟨B, off + (4 * k + 1), none⟩ = some (.int .u8 x1) := by rw [hx1]; exact cell (4 * k + 1) (by omega)
        have w1 : IntKind.u32.wrap x1 = x1 := by rw [hx1]; exact byteAt_wrap _ _
        have v1 : x1 % 4294967296 = x1 := by rw [hx1]; exact byteAt_mod _ _
        obtain ⟨x2, hx2⟩ : ∃ x, x = byteAt b (4 * k + 2) := ⟨_, rfl⟩
        have c2 : wr.cell? ⟨B, off + (4 * k + 2), none⟩ = some (.int .u8 x2) := by rw [hx2]; exact cell (4 * k + 2) (by omega)
        have w2 : IntKind.u32.wrap x2 = x2 := by rw [hx2]; exact byteAt_wrap _ _
        have v2 : x2 % 4294967296 = x2 := by rw [hx2]; exact byteAt_mod _ _
        obtain ⟨x3, hx3⟩ : ∃ x, x = byteAt b (4 * k + 3) := ⟨_, rfl⟩
        have c3 : wr.cell? ⟨B, off + (4 * k + 3), none⟩ = some (.int .u8 x3) := by rw [hx3]; exact cell (4 * k + 3) (by omega)
        have w3 : IntKind.u32.wrap x3 = x3 := by rw [hx3]; exact byteAt_wrap _ _
        have v3 : x3 % 4294967296 = x3 := by rw [hx3]; exact byteAt_mod _ _
        have HX := Lib.hid (show firstW b (k + 1) = firstW b k ++ [word4 x0 x1 x2 x3] by rw [hx0, hx1, hx2, hx3]; rfl)
        clear hx0 hx1 hx2 hx3
        clear cell
        have HOW := Lib.hid hown; clear hown
        go_wp2
        have e0 : IntKind.i64.wrap (4 * (k : Int)) = 4 * k := IntWalk.i64_in _ (by omega)
        have e1 : IntKind.i64.wrap (4 * (k : Int) + 1) = 4 * k + 1 := IntWalk.i64_in _ (by omega)
        have e2 : IntKind.i64.wrap (4 * (k : Int) + 2) = 4 * k + 2 := IntWalk.i64_in _ (by omega)
        have e3 : IntKind.i64.wrap (4 * (k : Int) + 3) = 4 * k + 3 := IntWalk.i64_in _ (by omega)
        have t0 : (4 * (k : Int)).toNat = 4 * k := by omega
        have t1 : (4 * (k : Int) + 1).toNat = 4 * k + 1 := by omega
        have t2 : (4 * (k : Int) + 2).toNat = 4 * k + 2 := by omega
        have t3 : (4 * (k : Int) + 3).toNat = 4 * k + 3 := by omega
        have p0 : 0 ≤ 4 * (k : Int) := by omega
        have p1 : 0 ≤ 4 * (k : Int) + 1 := by omega
        have p2 : 0 ≤ 4 * (k : Int) + 2 := by omega
        have p3 : 0 ≤ 4 * (k : Int) + 3 := by omega
        have q0 : 4 * (k : Int) < 64 := by omega
        have q1 : 4 * (k : Int) + 1 < 64 := by omega
        have q2 : 4 * (k : Int) + 2 < 64 := by omega
        have q3 : 4 * (k : Int) + 3 < 64 := by omega
        go_region_held3 (fun w' => w'.cell? ⟨B, off + 4 * k, none⟩ = some (.int .u8 x0) ∧ w'.cell? ⟨B, off + (4 * k + 1), none⟩ = some (.int .u8 x1) ∧ w'.cell? ⟨B, off + (4 * k + 2), none⟩ = some (.int .u8 x2) ∧ w'.cell? ⟨B, off + (4 * k + 3), none⟩ = some (.int .u8 x3))
          (first | exact ⟨c0, c1, c2, c3⟩ | exact ⟨y0, y1, y2, y3⟩ | go_keep)
          ((refine step_app0g (w0 := wr.drew) rfl (.tmp 15) (.tmp 49) _ rfl w.heap.size 96 Tryd.underlying97 info_u32 rfl (by omega) (by omega) _ k (wds (firstW b k)) rfl (by exact HOW.out) rfl (by simp [Value.oneCell']) rfl (by omega) (by exact hsz) ?_; intro v9 w9 hown9 hg9 _; have hb9 : Below w.heap.size wr w9 := (Below.refl w.heap.size wr).drew.grown hg9 (by exact hsz) (fun k hk => (HOW.out.lt k hk).1); have y0 := (hb9.cell (p := ⟨B, off + 4 * k, none⟩) hB).trans c0; have y1 := (hb9.cell (p := ⟨B, off + (4 * k + 1), none⟩) hB).trans c1; have y2 := (hb9.cell (p := ⟨B, off + (4 * k + 2), none⟩) hB).trans c2; have y3 := (hb9.cell (p := ⟨B, off + (4 * k + 3), none⟩) hB).trans c3))
        go_wp2
        refine ⟨⟨k + 1, by omega, by go_num, ?_, hb.trans hb9⟩, by simp [intOf]; omega⟩
        rw [HX.out, wds_snoc]
        exact hown9
      · obtain rfl : k = 16 := by omega
        go_wp2
        go_meet
        exact ⟨Lib.hid hown, hb⟩
  case rest =>
    obtain ⟨HOW, hb⟩ := hcut
    obtain ⟨F, hF⟩ : ∃ F, F = firstW b 16 := ⟨_, rfl⟩
    rw [← hF] at HOW
    have hFl : F.length = 16 := by rw [hF, firstW_len]
    have HF := Lib.hid (show sched b = growW 48 F by rw [hF]; rfl)
    have HFl := Lib.hid hFl
    clear hF hFl hmk
    go_wp2
    go_loopw [3, 5] (fun v i wr => ∃ j : Nat, j ≤ 48 ∧ i = .int .i64 ((j : Int) + 16) ∧ wr.ownsRow w.heap.size 96 1 v (j + 16) (wds (growW j F)).flatten ∧ Below w.heap.size w wr) (fun _ i _ => 64 - (intOf i).toNat)
    case atStart => exact ⟨0, by omega, rfl, HOW.out, hb⟩
    case round =>
      obtain ⟨j, hj, rfl, hown, hb⟩ := hrel
      have hsz := hb.size
      by_cases hlt : j < 48
      · obtain ⟨G, hG⟩ : ∃ G, G = growW j F := ⟨_, rfl⟩
        have hGl : G.length = j + 16 := by rw [hG, growW_len, HFl.out]; omega
        have HG := Lib.hid (show growW (j + 1) F = G ++ [nextW G] by rw [hG]; rfl)
        rw [← hG] at hown
        clear hG
        obtain ⟨g, cap, rfl, hg1, hg2⟩ := hown.form (by omega)
        have cell : ∀ i, i < j + 16 → wr.cell? ⟨g, i, none⟩ = some (.int .u32 (G.getD i 0)) := fun i hi => by
          have := hown.cells (g := g) rfl i (.int .u32 (G.getD i 0)) (by rw [wds_flat, List.getElem?_map, getD_of (d := 0) (by omega : i < G.length)]; rfl)
          rwa [add_at] at this
        have HN := Lib.hid (show nextW G = ad (ad (ad (G.getD j 0) (smallS (G.getD (j + 1) 0))) (G.getD (j + 9) 0)) (greatS (G.getD (j + 14) 0)) by
          unfold nextW; rw [hGl, show j + 16 - 16 = j by omega, show j + 16 - 15 = j + 1 by omega, show j + 16 - 7 = j + 9 by omega, show j + 16 - 2 = j + 14 by omega])
        obtain ⟨y16, h16⟩ : ∃ y, y = G.getD j 0 := ⟨_, rfl⟩
        obtain ⟨y15, h15⟩ : ∃ y, y = G.getD (j + 1) 0 := ⟨_, rfl⟩
        obtain ⟨y7, h7⟩ : ∃ y, y = G.getD (j + 9) 0 := ⟨_, rfl⟩
        obtain ⟨y2, h2⟩ : ∃ y, y = G.getD (j + 14) 0 := ⟨_, rfl⟩
        rw [← h16, ← h15, ← h7, ← h2] at HN
        have c16 := cell j (by omega)
        have c15 := cell (j + 1) (by omega)
        have c7 := cell (j + 9) (by omega)
        have c2 := cell (j + 14) (by omega)
        rw [← h16] at c16; rw [← h15] at c15; rw [← h7] at c7; rw [← h2] at c2
        clear cell h16 h15 h7 h2
        have HGl := Lib.hid hGl; clear hGl
        have HOW := Lib.hid hown; clear hown
        have hlt2 : (j : Int) + 16 < 64 := by omega
        have HJ := Lib.hid hlt
        clear hj hlt
        go_wp2_with fail
        refine (l1Turn_i _ _ _ (by omega) (by omega)).mono ?_; rintro e w' ⟨rfl, k1, rfl⟩
        go_wp2_with fail
        refine (l1Turn_i _ _ _ (by omega) (by omega)).mono ?_; rintro e w' ⟨rfl, k2, rfl⟩
        go_wp2_with fail
        refine (l1Turn_i _ _ _ (by omega) (by omega)).mono ?_; rintro e w' ⟨rfl, k3, rfl⟩
        go_wp2_with fail
        refine (l1Turn_i _ _ _ (by omega) (by omega)).mono ?_; rintro e w' ⟨rfl, k4, rfl⟩
        go_wp2_with fail
        have hb4 : Below w.heap.size w (wr.drewN (k1 + k2 + k3 + k4)) := below_drewN hb _
        have d16 : (wr.drewN (k1 + k2 + k3 + k4)).cell? ⟨g, j, none⟩ = some (.int .u32 y16) := c16
        have d7 : (wr.drewN (k1 + k2 + k3 + k4)).cell? ⟨g, j + 9, none⟩ = some (.int .u32 y7) := c7
        have HOD := Lib.hid (show (wr.drewN (k1 + k2 + k3 + k4)).ownsRow w.heap.size 96 1 (.slice (some ⟨g, 0, none⟩) (j + 16) cap) (j + 16) (wds G).flatten from HOW.out)
        obtain ⟨wv, hwv⟩ : ∃ wv, wv = wr.drewN (k1 + k2 + k3 + k4) := ⟨_, rfl⟩
        rw [← hwv] at d16 d7 HOD hb4
        rw [← hwv]
        clear hwv HOW c16 c15 c7 c2 hb hsz hg2
        have hsz := hb4.size
        have e16 : IntKind.i64.wrap ((j : Int) + 16 - 16) = j := by rw [IntWalk.i64_in _ (by omega)]; omega
        have e16b : IntKind.i64.wrap (j : Int) = j := IntWalk.i64_in _ (by omega)
        have e7 : IntKind.i64.wrap ((j : Int) + 16 - 7) = j + 9 := by rw [IntWalk.i64_in _ (by omega)]; omega
        have t7 : ((j : Int) + 9).toNat = j + 9 := by omega
        have p16 : 0 ≤ (j : Int) := by omega
        have p7 : 0 ≤ (j : Int) + 9 := by omega
        have q16 : (j : Int) < j + 16 := by omega
        have q7 : (j : Int) + 9 < j + 16 := by omega
        go_region_law
          ((refine step_app0g (w0 := wv.drew) rfl (.tmp 81) (.tmp 97) _ rfl w.heap.size 96 Tryd.underlying97 info_u32 rfl (by omega) (by omega) (.slice (some ⟨g, 0, none⟩) (j + 16) cap) (j + 16) (wds G) rfl (by exact HOD.out) rfl (by simp [Value.oneCell']) rfl (by omega) (by exact hsz) ?_; intro v9 w9 hown9 hg9 _))
        all_goals
          go_wp2
          have hb9 : Below w.heap.size wv w9 := (Below.refl w.heap.size wv).drew.grown hg9 (by exact hsz) (fun k hk => (HOD.out.lt k hk).1)
          have hj := HJ.out
          refine ⟨⟨j + 1, by omega, ?_, ?_, hb4.trans hb9⟩, ?_⟩
          · simp; omega
          · rw [HG.out, wds_snoc, HN.out]
            exact hown9
          · simp [intOf]; omega
      · obtain rfl : j = 48 := by omega
        go_wp2
        go_ret
        exact ⟨_, rfl, by rw [HF.out]; exact hown, hb⟩
end Go.Proofs.YtaieopdfkapgdaaDoor
