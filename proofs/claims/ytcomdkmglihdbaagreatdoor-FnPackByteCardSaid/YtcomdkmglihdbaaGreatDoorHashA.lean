/- Joined texts: HashP HashT HashW HashB. -/
import Derived.Test.YtcomdkmglihdbaaGreatDoorKit
import Derived.Test.YtcomdkmglihdbaaGreatDoorTxt
import Derived.StillTailTactics
import Derived.Deep.CutBlock
import Derived.Deep.DeepCutAuto
import Derived.Deep.RegionHeld3
import Derived.Deep.RegionLaw
-- The sum of a text in plain words: numbers of the model's own words, rows of bytes; no Go function is walked here.
namespace Go.Proofs.YtcomdkmglihdbaaGreatDoor
open Go.RowKit
set_option linter.unusedSimpArgs false
set_option linter.unusedVariables false

/-! ### words -/
def rotI (x : Int) (n : Nat) : Int := bits .or .u32 (x / 2 ^ n) (x * 2 ^ (32 - n) % 4294967296)
def xr (a b : Int) : Int := bits .xor .u32 a b
def an (a b : Int) : Int := bits .and .u32 a b
def ad (a b : Int) : Int := (a + b) % 4294967296
def nt (a : Int) : Int := bits .xor .u32 IntKind.u32.max a
def smallS (x : Int) : Int := xr (xr (rotI x 7) (rotI x 18)) (x / 8)
def greatS (y : Int) : Int := xr (xr (rotI y 17) (rotI y 19)) (y / 1024)
def bigE (e : Int) : Int := xr (xr (rotI e 6) (rotI e 11)) (rotI e 25)
def bigA (a : Int) : Int := xr (xr (rotI a 2) (rotI a 13)) (rotI a 22)
def chI (e f g : Int) : Int := xr (an e f) (an (nt e) g)
def majI (a b c : Int) : Int := xr (xr (an a b) (an a c)) (an b c)
def mixT (e f g h k w : Int) : Int := ad (ad (ad (ad h (bigE e)) (chI e f g)) k) w
def word4 (a b c d : Int) : Int := bits .or .u32 (bits .or .u32 (bits .or .u32 (a * 16777216 % 4294967296) (b * 65536 % 4294967296)) (c * 256 % 4294967296)) d

def nextW (w : List Int) : Int :=
  ad (ad (ad (w.getD (w.length - 16) 0) (smallS (w.getD (w.length - 15) 0))) (w.getD (w.length - 7) 0)) (greatS (w.getD (w.length - 2) 0))
def growW : Nat → List Int → List Int
  | 0, w => w
  | k + 1, w => growW k w ++ [nextW (growW k w)]
def byteAt (b : List UInt8) (i : Nat) : Int := ((b.getD i 0).toNat : Int)
def firstW (b : List UInt8) : Nat → List Int
  | 0 => []
  | k + 1 => firstW b k ++ [word4 (byteAt b (4 * k)) (byteAt b (4 * k + 1)) (byteAt b (4 * k + 2)) (byteAt b (4 * k + 3))]
theorem firstW_len (b : List UInt8) : ∀ k, (firstW b k).length = k
  | 0 => rfl
  | k + 1 => by simp [firstW, firstW_len b k]
theorem growW_len (w : List Int) : ∀ k, (growW k w).length = w.length + k
  | 0 => rfl
  | k + 1 => by simp [growW, growW_len w k]; omega
/-- The 64 words of a block. -/
def sched (b : List UInt8) : List Int := growW 48 (firstW b 16)
theorem sched_len (b : List UInt8) : (sched b).length = 64 := by unfold sched; rw [growW_len, firstW_len]
theorem growW_pre (w : List Int) : ∀ k i, i < w.length → (growW k w)[i]? = w[i]?
  | 0, i, _ => rfl
  | k + 1, i, h => by
    rw [growW, List.getElem?_append_left (by rw [growW_len]; omega)]
    exact growW_pre w k i h

def kW : List Int := [
  0x428a2f98, 0x71374491, 0xb5c0fbcf, 0xe9b5dba5, 0x3956c25b, 0x59f111f1, 0x923f82a4, 0xab1c5ed5,
  0xd807aa98, 0x12835b01, 0x243185be, 0x550c7dc3, 0x72be5d74, 0x80deb1fe, 0x9bdc06a7, 0xc19bf174,
  0xe49b69c1, 0xefbe4786, 0x0fc19dc6, 0x240ca1cc, 0x2de92c6f, 0x4a7484aa, 0x5cb0a9dc, 0x76f988da,
  0x983e5152, 0xa831c66d, 0xb00327c8, 0xbf597fc7, 0xc6e00bf3, 0xd5a79147, 0x06ca6351, 0x14292967,
  0x27b70a85, 0x2e1b2138, 0x4d2c6dfc, 0x53380d13, 0x650a7354, 0x766a0abb, 0x81c2c92e, 0x92722c85,
  0xa2bfe8a1, 0xa81a664b, 0xc24b8b70, 0xc76c51a3, 0xd192e819, 0xd6990624, 0xf40e3585, 0x106aa070,
  0x19a4c116, 0x1e376c08, 0x2748774c, 0x34b0bcb5, 0x391c0cb3, 0x4ed8aa4a, 0x5b9cca4f, 0x682e6ff3,
  0x748f82ee, 0x78a5636f, 0x84c87814, 0x8cc70208, 0x90befffa, 0xa4506ceb, 0xbef9a3f7, 0xc67178f2]
def h0W : List Int := [0x6a09e667, 0xbb67ae85, 0x3c6ef372, 0xa54ff53a, 0x510e527f, 0x9b05688c, 0x1f83d9ab, 0x5be0cd19]

structure W8 where
  a : Int
  b : Int
  c : Int
  d : Int
  e : Int
  f : Int
  g : Int
  h : Int
def W8.row (s : W8) : List Int := [s.a, s.b, s.c, s.d, s.e, s.f, s.g, s.h]
def rnd (s : W8) (k w : Int) : W8 :=
  ⟨ad (ad (mixT s.e s.f s.g s.h k w) (bigA s.a)) (majI s.a s.b s.c), s.a, s.b, s.c, ad s.d (mixT s.e s.f s.g s.h k w), s.e, s.f, s.g⟩
def rnds (s : W8) (ws : List Int) : Nat → W8
  | 0 => s
  | k + 1 => rnd (rnds s ws k) (kW.getD k 0) (ws.getD k 0)
def addW (s t : W8) : W8 := ⟨ad s.a t.a, ad s.b t.b, ad s.c t.c, ad s.d t.d, ad s.e t.e, ad s.f t.f, ad s.g t.g, ad s.h t.h⟩
/-- A block put into a sum. -/
def blockW (s : W8) (b : List UInt8) : W8 := addW s (rnds s (sched b) 64)
def startW : W8 := ⟨0x6a09e667, 0xbb67ae85, 0x3c6ef372, 0xa54ff53a, 0x510e527f, 0x9b05688c, 0x1f83d9ab, 0x5be0cd19⟩
/-- The sum behind so many blocks of a text. -/
def sumTo (l : List UInt8) : Nat → W8
  | 0 => startW
  | k + 1 => blockW (sumTo l k) ((l.drop (64 * k)).take 64)
theorem sumTo_append (l m : List UInt8) : ∀ k, 64 * k ≤ l.length → sumTo (l ++ m) k = sumTo l k
  | 0, _ => rfl
  | k + 1, h => by
    rw [sumTo, sumTo, sumTo_append l m k (by omega)]
    congr 1
    rw [List.drop_append_of_le_length (by omega), List.take_append_of_le_length (by rw [List.length_drop]; omega)]

/-! ### bytes -/
def byteOf (n : Int) : UInt8 := UInt8.ofNat (n % 256).toNat
theorem byteOf_wrap (n : Int) : IntKind.u8.wrap n = ((byteOf n).toNat : Int) := by
  have h1 : 0 ≤ n % 256 := Int.emod_nonneg _ (by decide)
  have h2 : n % 256 < 256 := Int.emod_lt_of_pos _ (by decide)
  have h3 : (n % 256).toNat < 256 := by omega
  have h4 : (byteOf n).toNat = (n % 256).toNat := by
    unfold byteOf
    rw [UInt8.toNat_ofNat']
    omega
  rw [h4]
  simp [IntKind.wrap, IntKind.bits, IntKind.signed]
  omega
theorem byteOf_mod (n : Int) : n % 256 = ((byteOf n).toNat : Int) := by
  rw [← byteOf_wrap]
  simp [IntKind.wrap, IntKind.bits, IntKind.signed]
def be4 (x : Int) : List UInt8 := [byteOf (x / 16777216), byteOf (x / 65536), byteOf (x / 256), byteOf x]
def bytesW (s : W8) : List UInt8 := s.row.flatMap be4
theorem bytesW_len (s : W8) : (bytesW s).length = 32 := by simp [bytesW, W8.row, be4]
/-- The length of a text in bits, in eight bytes. -/
def be8 (n : Nat) : List UInt8 := (List.range 8).map fun i => byteOf (((8 * n : Nat) : Int) / 2 ^ (56 - 8 * i))
theorem be8_len (n : Nat) : (be8 n).length = 8 := by simp [be8]
def zerosFor (n : Nat) : Nat := (119 - n % 64) % 64
theorem zerosFor_mod (n : Nat) : (n + 1 + zerosFor n) % 64 = 56 := by unfold zerosFor; omega
theorem zerosFor_lt (n : Nat) : zerosFor n < 64 := by unfold zerosFor; omega
theorem zerosFor_least (n k : Nat) (h : k < zerosFor n) : (n + 1 + k) % 64 ≠ 56 := by unfold zerosFor at h; omega
def padded (l : List UInt8) : List UInt8 := l ++ 128 :: (List.replicate (zerosFor l.length) 0 ++ be8 l.length)
theorem padded_len (l : List UInt8) : (padded l).length = l.length + 1 + zerosFor l.length + 8 := by simp [padded, be8_len]; omega
theorem padded_mod (l : List UInt8) : (padded l).length % 64 = 0 := by rw [padded_len]; have := zerosFor_mod l.length; omega
/-- The sum of a text, as bytes. -/
def sumOf (l : List UInt8) : List UInt8 := bytesW (sumTo (padded l) ((padded l).length / 64))
theorem sumOf_len (l : List UInt8) : (sumOf l).length = 32 := bytesW_len _
def figs : List UInt8 := [48, 49, 50, 51, 52, 53, 54, 55, 56, 57, 97, 98, 99, 100, 101, 102]
def fig (n : Nat) : UInt8 := figs.getD n 0
def hex2 (b : UInt8) : List UInt8 := [fig (b.toNat / 16), fig (b.toNat % 16)]
def hexOf (l : List UInt8) : List UInt8 := l.flatMap hex2
theorem hexOf_len (l : List UInt8) : (hexOf l).length = 2 * l.length := by
  induction l with
  | nil => rfl
  | cons x l ih => simp [hexOf, hex2] at ih ⊢; omega
theorem hexOf_snoc (l : List UInt8) (b : UInt8) : hexOf (l ++ [b]) = hexOf l ++ hex2 b := by simp [hexOf]
/-- The sum of a text in figures. -/
def hashText (l : List UInt8) : List UInt8 := hexOf (sumOf l)
theorem hashText_len (l : List UInt8) : (hashText l).length = 64 := by unfold hashText; rw [hexOf_len, sumOf_len]
end Go.Proofs.YtcomdkmglihdbaaGreatDoor

-- Turning words: spec.l1Turn and math/bits.RotateLeft32.
namespace Go.Proofs.YtcomdkmglihdbaaGreatDoor
open Go.RowKit
set_option linter.unusedSimpArgs false
set_option linter.unusedVariables false

theorem bits_or_comm (a b : Int) : bits .or .u32 a b = bits .or .u32 b a := by
  unfold bits
  simp only [BitVec.or_comm]
theorem ret_u32 {a b : Int} (h : a = b) : Ending.returned (.int .u32 a) = .returned (.int .u32 b) := by rw [h]

theorem l1Turn_any (x : Int) (n : Nat) (w : World) (hn : n ≤ 32) :
    Calls Tryz.prog 65 #[.int .u32 x, .int .i64 n] w fun e w' => e = .returned (.int .u32 (rotI x n)) ∧ ∃ k, w' = w.drewN k := by
  go_enter Tryz.func65, Tryz.ntmps65
  go_wp2
  go_quiet (fail)
  go_wp2
  go_ret
  exact ⟨rfl, _, rfl⟩
theorem rotl_any (x k : Int) (n m : Nat) (w : World) (hm : bits .and .u64 (IntKind.u64.wrap k) 31 = (m : Int)) (h32 : n + m = 32) :
    Calls Tryz.prog 103 #[.int .u32 x, .int .i64 k] w fun e w' => e = .returned (.int .u32 (rotI x n)) ∧ w = w' := by
  obtain rfl : m = 32 - n := by omega
  have hn : n ≤ 32 := by omega
  have e1 : (((32 - n : Nat) : Int)).toNat = 32 - n := by omega
  have e2 : IntKind.u64.wrap (32 - ((32 - n : Nat) : Int)) = (n : Int) := by
    rw [show (32 : Int) - ((32 - n : Nat) : Int) = (n : Int) by omega]
    simp [IntKind.wrap, IntKind.bits, IntKind.signed]; omega
  go_enter Tryz.func103, Tryz.ntmps103
  go_wp2
  go_ret
  refine ⟨ret_u32 ?_, rfl⟩
  unfold rotI
  rw [bits_or_comm]
theorem rotl7 (x : Int) (w : World) : Calls Tryz.prog 103 #[.int .u32 x, .int .i64 (-7)] w fun e w' => e = .returned (.int .u32 (rotI x 7)) ∧ w = w' := rotl_any x (-7) 7 25 w (by decide) rfl
theorem rotl18 (x : Int) (w : World) : Calls Tryz.prog 103 #[.int .u32 x, .int .i64 (-18)] w fun e w' => e = .returned (.int .u32 (rotI x 18)) ∧ w = w' := rotl_any x (-18) 18 14 w (by decide) rfl
theorem rotl17 (x : Int) (w : World) : Calls Tryz.prog 103 #[.int .u32 x, .int .i64 (-17)] w fun e w' => e = .returned (.int .u32 (rotI x 17)) ∧ w = w' := rotl_any x (-17) 17 15 w (by decide) rfl
theorem rotl19 (x : Int) (w : World) : Calls Tryz.prog 103 #[.int .u32 x, .int .i64 (-19)] w fun e w' => e = .returned (.int .u32 (rotI x 19)) ∧ w = w' := rotl_any x (-19) 19 13 w (by decide) rfl
theorem rotl6 (x : Int) (w : World) : Calls Tryz.prog 103 #[.int .u32 x, .int .i64 (-6)] w fun e w' => e = .returned (.int .u32 (rotI x 6)) ∧ w = w' := rotl_any x (-6) 6 26 w (by decide) rfl
theorem rotl11 (x : Int) (w : World) : Calls Tryz.prog 103 #[.int .u32 x, .int .i64 (-11)] w fun e w' => e = .returned (.int .u32 (rotI x 11)) ∧ w = w' := rotl_any x (-11) 11 21 w (by decide) rfl
theorem rotl25 (x : Int) (w : World) : Calls Tryz.prog 103 #[.int .u32 x, .int .i64 (-25)] w fun e w' => e = .returned (.int .u32 (rotI x 25)) ∧ w = w' := rotl_any x (-25) 25 7 w (by decide) rfl
theorem rotl2 (x : Int) (w : World) : Calls Tryz.prog 103 #[.int .u32 x, .int .i64 (-2)] w fun e w' => e = .returned (.int .u32 (rotI x 2)) ∧ w = w' := rotl_any x (-2) 2 30 w (by decide) rfl
theorem rotl13 (x : Int) (w : World) : Calls Tryz.prog 103 #[.int .u32 x, .int .i64 (-13)] w fun e w' => e = .returned (.int .u32 (rotI x 13)) ∧ w = w' := rotl_any x (-13) 13 19 w (by decide) rfl
theorem rotl22 (x : Int) (w : World) : Calls Tryz.prog 103 #[.int .u32 x, .int .i64 (-22)] w fun e w' => e = .returned (.int .u32 (rotI x 22)) ∧ w = w' := rotl_any x (-22) 22 10 w (by decide) rfl
theorem l1Turn_i (x n : Int) (w : World) (h0 : 0 ≤ n) (hn : n ≤ 32) :
    Calls Tryz.prog 65 #[.int .u32 x, .int .i64 n] w fun e w' => e = .returned (.int .u32 (rotI x n.toNat)) ∧ ∃ k, w' = w.drewN k := by
  obtain ⟨m, rfl⟩ := Int.eq_ofNat_of_zero_le h0
  exact l1Turn_any x m w (by omega)
end Go.Proofs.YtcomdkmglihdbaaGreatDoor

-- The reference's words of a block: spec.l1Words, spec.l1Consts.
namespace Go.Proofs.YtcomdkmglihdbaaGreatDoor
open Go.RowKit
set_option linter.unusedSimpArgs false
set_option linter.unusedVariables false

theorem info_u32 : (Tryz.prog.info? 73).map (fun i => (i.zero, i.size, i.bytes)) = some (some (.int .u32 0), 1, 4) := by kernel_rfl
theorem info_u8 : (Tryz.prog.info? 5).map (fun i => (i.zero, i.size, i.bytes)) = some (some (.int .u8 0), 1, 1) := by kernel_rfl

/-- The cells of bytes, of words. -/
def u8V (b : UInt8) : Value := .int .u8 (b.toNat : Int)
def bts (l : List UInt8) : List (List Value) := l.map fun b => [u8V b]
def wds (xs : List Int) : List (List Value) := xs.map fun x => [.int .u32 x]
theorem bts_len (l : List UInt8) : (bts l).length = l.length := by simp [bts]
theorem wds_len (l : List Int) : (wds l).length = l.length := by simp [wds]
theorem bts_rows (l : List UInt8) : ∀ r ∈ bts l, r.length = 1 := by simp [bts]
theorem wds_rows (l : List Int) : ∀ r ∈ wds l, r.length = 1 := by simp [wds]
theorem wds_snoc (l : List Int) (x : Int) : wds (l ++ [x]) = wds l ++ [[.int .u32 x]] := by simp [wds]
theorem bts_snoc (l : List UInt8) (x : UInt8) : bts (l ++ [x]) = bts l ++ [[u8V x]] := by simp [bts]
theorem bts_flat (l : List UInt8) : (bts l).flatten = l.map u8V := by
  induction l with
  | nil => rfl
  | cons x xs ih => simp [bts] at ih ⊢; exact ih
theorem wds_flat (l : List Int) : (wds l).flatten = l.map (Value.int .u32) := by
  induction l with
  | nil => rfl
  | cons x xs ih => simp [wds] at ih ⊢; exact ih

/-- An element of a row that is read. -/
theorem row_get {α : Type} (f : α → Value) {w : World} {A : Option Addr} {n c : Nat} {xs : List α} (h : SlA w 1 A n c (xs.map fun x => [f x])) {k : Nat} (hk : k < n) :
    ∃ b off x, A = some ⟨b, off, none⟩ ∧ b < w.heap.size ∧ xs[k]? = some x ∧ w.cell? ⟨b, off + k, none⟩ = some (f x) := by
  have hl := h.len
  rw [List.length_map] at hl
  obtain ⟨b, o, e, hb, hc⟩ := h.get hk
  have hk' : k < xs.length := by omega
  refine ⟨b, o, xs[k], e, hb, List.getElem?_eq_getElem hk', ?_⟩
  have hr : (xs.map fun x => [f x])[k]? = some [f xs[k]] := by simp [hk']
  have g := hc _ hr 0 _ rfl
  rwa [Nat.mul_one, Nat.add_zero] at g
theorem below_drewN {B : Nat} {a w : World} (h : Below B a w) (n : Nat) : Below B a (w.drewN n) := ⟨h.os, h.tape, h.output, h.size, h.block⟩
/-- All elements of a row that is not empty. -/
theorem row_all {α : Type} (f : α → Value) {w : World} {A : Option Addr} {n c : Nat} {xs : List α} (h : SlA w 1 A n c (xs.map fun x => [f x])) (hn : 0 < n) :
    ∃ b off, A = some ⟨b, off, none⟩ ∧ b < w.heap.size ∧ ∀ k x, xs[k]? = some x → w.cell? ⟨b, off + k, none⟩ = some (f x) := by
  obtain ⟨b, o, e, hb, hc⟩ := h.at_ hn
  refine ⟨b, o, e, hb, fun k x hx => ?_⟩
  have hr : (xs.map fun x => [f x])[k]? = some [f x] := by simp [hx]
  have g := hc _ _ hr 0 _ rfl
  rwa [Nat.mul_one, Nat.add_zero] at g
theorem byteAt_bd (b : List UInt8) (i : Nat) : 0 ≤ byteAt b i ∧ byteAt b i < 256 := by
  unfold byteAt
  have := UInt8.toNat_lt (b.getD i 0)
  omega
theorem byteAt_mod (b : List UInt8) (i : Nat) : byteAt b i % 4294967296 = byteAt b i := by
  have := byteAt_bd b i; omega
theorem byteAt_wrap (b : List UInt8) (i : Nat) : IntKind.u32.wrap (byteAt b i) = byteAt b i := by
  have := byteAt_bd b i
  simp [IntKind.wrap, IntKind.bits, IntKind.signed]; omega
theorem getD_of {α : Type} {l : List α} {i : Nat} {d : α} (h : i < l.length) : l[i]? = some (l.getD i d) := by simp [h]

/-- 'make([]T, 0, m)'. -/
theorem run_make_cap {P : Program} (t e : TypeId) (z : Value) (size bytes : Nat) (ht : P.underlying t = some (.slice e)) (hinfo : (P.info? e).map (fun i => (i.zero, i.size, i.bytes)) = some (some z, size, bytes))
    (kl : IntKind) (m : Nat) (hbytes : bytes * m ≤ 281474976710656) (h63 : m ≤ 9223372036854775807) (w : World) :
    (Instr.makeSlice t (.int kl 0) (.int kl (m : Int))).run P w = .ok (.slice (some ⟨w.heap.size, 0, none⟩) 0 m) (w.alloc (.cells (madeCells z.cells (m * size)) e)) := by
  obtain ⟨i, hi, hz, hs, hb⟩ := info_parts hinfo
  have hb' : ((i.bytes : Nat) : Int) * (m : Int) ≤ 281474976710656 := by
    have h : ((i.bytes * m : Nat) : Int) ≤ 281474976710656 := by rw [hb]; omega
    rwa [Int.natCast_mul] at h
  have hr := run_make (P := P) w t e i z ht hi hz kl kl 0 m (by omega) (by omega) hb' (by omega)
  simp only [Int.toNat_natCast, hs] at hr
  exact hr

set_option maxHeartbeats 1000000 in
set_option maxRecDepth 100000 in
theorem l1Words_any (v : Value) (b : List UInt8) (w : World) (hs : Sl w 1 v (bts b)) (hb : b.length = 64) :
    Calls Tryz.prog 63 #[v] w fun e w' => ∃ v, e = .returned v ∧ w'.ownsRow w.heap.size 73 1 v 64 (wds (sched b)).flatten ∧ Below w.heap.size w w' := by
  obtain ⟨A, n, c, rfl, hA⟩ := hs
  have hl : b.length = n := by have := hA.len; rwa [bts_len] at this
  obtain rfl : n = 64 := by omega
  have hcp := hA.cap
  have hmx := hA.max
  unfold maxLen at hmx
  obtain ⟨B, off, rfl, hB, hcells⟩ := row_all u8V hA (by omega)
  have HC := Lib.hid hcells; clear hcells hA
  have HB := Lib.hid hb; clear hb hl
  obtain ⟨zs, hzs⟩ : ∃ z, z = madeCells (Value.int .u32 0).cells (64 * 1) := ⟨_, rfl⟩
  have hmk : ∀ W : World, (Instr.makeSlice 74 (.int .i64 0) (.int .i64 64)).run Tryz.prog W = .ok (.slice (some ⟨W.heap.size, 0, none⟩) 0 64) (W.alloc (.cells (madeCells (Value.int .u32 0).cells (64 * 1)) 73)) := fun W => run_make_cap (P := Tryz.prog) 74 73 _ 1 4 Tryz.underlying74 info_u32 .i64 64 (by omega) (by omega) W
  rw [← hzs] at hmk
  have hO : (w.alloc (.cells zs 73)).ownsRow w.heap.size 73 1 (.slice (some ⟨w.heap.size, 0, none⟩) 0 64) 0 [] := World.ownsRow_made w _ 64 (Nat.le_refl _) (by unfold maxLen; omega) (by rw [hzs]; simp [size_madeCells])
  have HO := Lib.hid hO; clear hO hzs
  go_enter Tryz.func63, Tryz.ntmps63
  go_upto_block 0 with (fail)
  go_cut [3] (fun s3 wx => Hid (wx.ownsRow w.heap.size 73 1 s3 16 (wds (firstW b 16)).flatten) ∧ Below w.heap.size w wx)
  case first =>
    go_wp2
    go_loopw [3, 4] (fun v i wr => ∃ k : Nat, k ≤ 16 ∧ i = .int .i64 k ∧ wr.ownsRow w.heap.size 73 1 v k (wds (firstW b k)).flatten ∧ Below w.heap.size w wr) (fun _ i _ => 16 - (intOf i).toNat)
    case atStart => exact ⟨0, by omega, rfl, by simpa [firstW, wds] using HO.out, by go_grown⟩
    case round =>
      obtain ⟨k, hk, rfl, hown, hb⟩ := hrel
      have hsz := hb.size
      by_cases hlt : k < 16
      · have cell := fun i (hi : i < 64) => (hb.cell (p := ⟨B, off + i, none⟩) hB).trans (HC.out i _ (getD_of (d := 0) (by rw [HB.out]; exact hi)))
        obtain ⟨x0, hx0⟩ : ∃ x, x = byteAt b (4 * k) := ⟨_, rfl⟩
        have c0 : wr.cell? ⟨B, off + 4 * k, none⟩ = some (.int .u8 x0) := by rw [hx0]; exact cell (4 * k) (by omega)
        have w0 : IntKind.u32.wrap x0 = x0 := by rw [hx0]; exact byteAt_wrap _ _
        have v0 : x0 % 4294967296 = x0 := by rw [hx0]; exact byteAt_mod _ _
        obtain ⟨x1, hx1⟩ : ∃ x, x = byteAt b (4 * k + 1) := ⟨_, rfl⟩
        have c1 : wr.cell? ⟨B, off + (4 * k + 1), none⟩ = some (.int .u8 x1) := by rw [hx1]; exact cell (4 * k + 1) (by omega)
        have w1 : IntKind.u32.wrap x1 = x1 := by rw [hx1]; exact byteAt_wrap _ _
        have v1 : x1 % 4294967296 = x1 := by rw [hx1]; exact byteAt_mod _ _
        obtain ⟨x2, hx2⟩ : ∃ x, x = byteAt b (4 * k + 2) := ⟨_, rfl⟩
        have c2 : wr.cell? ⟨B, off + (4 * k + 2), none⟩ = some (.int .u8 x2) := by rw [hx2]; exact cell (4 * k + 2) (by omega)
        have w2 : IntKind.u32.wrap x2 = x2 := by rw [hx2]; exact byteAt_wrap _ _
        have v2 : x2 % 4294967296 = x2 := by rw [hx2]; exact byteAt_mod _ _
        obtain ⟨x3, hx3⟩ : ∃ x, x = byteAt b (4 * k + 3) := ⟨_, rfl⟩
        have c3 : wr.cell? ⟨B, off + (4 * k + 3), none⟩ = some (.int .u8 x3) := by rw [hx3]; exact cell (4 * k + 3) (by omega)
        have w3 : IntKind.u32.wrap x3 = x3 := by rw [hx3]; exact byteAt_wrap _ _
        have v3 : x3 % 4294967296 = x3 := by rw [hx3]; exact byteAt_mod _ _
        have HX := Lib.hid (show firstW b (k + 1) = firstW b k ++ [word4 x0 x1 x2 x3] by rw [hx0, hx1, hx2, hx3]; rfl)
        clear hx0 hx1 hx2 hx3
        clear cell
        have HOW := Lib.hid hown; clear hown
        go_wp2
        have e0 : IntKind.i64.wrap (4 * (k : Int)) = 4 * k := IntWalk.i64_in _ (by omega)
        have e1 : IntKind.i64.wrap (4 * (k : Int) + 1) = 4 * k + 1 := IntWalk.i64_in _ (by omega)
        have e2 : IntKind.i64.wrap (4 * (k : Int) + 2) = 4 * k + 2 := IntWalk.i64_in _ (by omega)
        have e3 : IntKind.i64.wrap (4 * (k : Int) + 3) = 4 * k + 3 := IntWalk.i64_in _ (by omega)
        have t0 : (4 * (k : Int)).toNat = 4 * k := by omega
        have t1 : (4 * (k : Int) + 1).toNat = 4 * k + 1 := by omega
        have t2 : (4 * (k : Int) + 2).toNat = 4 * k + 2 := by omega
        have t3 : (4 * (k : Int) + 3).toNat = 4 * k + 3 := by omega
        have p0 : 0 ≤ 4 * (k : Int) := by omega
        have p1 : 0 ≤ 4 * (k : Int) + 1 := by omega
        have p2 : 0 ≤ 4 * (k : Int) + 2 := by omega
        have p3 : 0 ≤ 4 * (k : Int) + 3 := by omega
        have q0 : 4 * (k : Int) < 64 := by omega
        have q1 : 4 * (k : Int) + 1 < 64 := by omega
        have q2 : 4 * (k : Int) + 2 < 64 := by omega
        have q3 : 4 * (k : Int) + 3 < 64 := by omega
        go_region_held3 (fun w' => w'.cell? ⟨B, off + 4 * k, none⟩ = some (.int .u8 x0) ∧ w'.cell? ⟨B, off + (4 * k + 1), none⟩ = some (.int .u8 x1) ∧ w'.cell? ⟨B, off + (4 * k + 2), none⟩ = some (.int .u8 x2) ∧ w'.cell? ⟨B, off + (4 * k + 3), none⟩ = some (.int .u8 x3))
          (first | exact ⟨c0, c1, c2, c3⟩ | exact ⟨y0, y1, y2, y3⟩ | go_keep)
          ((refine step_app0g (w0 := wr.drew) rfl (.tmp 15) (.tmp 49) _ rfl w.heap.size 73 Tryz.underlying74 info_u32 rfl (by omega) (by omega) _ k (wds (firstW b k)) rfl (by exact HOW.out) rfl (by simp [Value.oneCell']) rfl (by omega) (by exact hsz) ?_; intro v9 w9 hown9 hg9 _; have hb9 : Below w.heap.size wr w9 := (Below.refl w.heap.size wr).drew.grown hg9 (by exact hsz) (fun k hk => (HOW.out.lt k hk).1); have y0 := (hb9.cell (p := ⟨B, off + 4 * k, none⟩) hB).trans c0; have y1 := (hb9.cell (p := ⟨B, off + (4 * k + 1), none⟩) hB).trans c1; have y2 := (hb9.cell (p := ⟨B, off + (4 * k + 2), none⟩) hB).trans c2; have y3 := (hb9.cell (p := ⟨B, off + (4 * k + 3), none⟩) hB).trans c3))
        go_wp2
        refine ⟨⟨k + 1, by omega, by go_num, ?_, hb.trans hb9⟩, by simp [intOf]; omega⟩
        rw [HX.out, wds_snoc]
        exact hown9
      · obtain rfl : k = 16 := by omega
        go_wp2
        go_meet
        exact ⟨Lib.hid hown, hb⟩
  case rest =>
    obtain ⟨HOW, hb⟩ := hcut
    obtain ⟨F, hF⟩ : ∃ F, F = firstW b 16 := ⟨_, rfl⟩
    rw [← hF] at HOW
    have hFl : F.length = 16 := by rw [hF, firstW_len]
    have HF := Lib.hid (show sched b = growW 48 F by rw [hF]; rfl)
    have HFl := Lib.hid hFl
    clear hF hFl hmk
    go_wp2
    go_loopw [3, 5] (fun v i wr => ∃ j : Nat, j ≤ 48 ∧ i = .int .i64 ((j : Int) + 16) ∧ wr.ownsRow w.heap.size 73 1 v (j + 16) (wds (growW j F)).flatten ∧ Below w.heap.size w wr) (fun _ i _ => 64 - (intOf i).toNat)
    case atStart => exact ⟨0, by omega, rfl, HOW.out, hb⟩
    case round =>
      obtain ⟨j, hj, rfl, hown, hb⟩ := hrel
      have hsz := hb.size
      by_cases hlt : j < 48
      · obtain ⟨G, hG⟩ : ∃ G, G = growW j F := ⟨_, rfl⟩
        have hGl : G.length = j + 16 := by rw [hG, growW_len, HFl.out]; omega
        have HG := Lib.hid (show growW (j + 1) F = G ++ [nextW G] by rw [hG]; rfl)
        rw [← hG] at hown
        clear hG
        obtain ⟨g, cap, rfl, hg1, hg2⟩ := hown.form (by omega)
        have cell : ∀ i, i < j + 16 → wr.cell? ⟨g, i, none⟩ = some (.int .u32 (G.getD i 0)) := fun i hi => by
          have := hown.cells (g := g) rfl i (.int .u32 (G.getD i 0)) (by rw [wds_flat, List.getElem?_map, getD_of (d := 0) (by omega : i < G.length)]; rfl)
          rwa [add_at] at this
        have HN := Lib.hid (show nextW G = ad (ad (ad (G.getD j 0) (smallS (G.getD (j + 1) 0))) (G.getD (j + 9) 0)) (greatS (G.getD (j + 14) 0)) by
          unfold nextW; rw [hGl, show j + 16 - 16 = j by omega, show j + 16 - 15 = j + 1 by omega, show j + 16 - 7 = j + 9 by omega, show j + 16 - 2 = j + 14 by omega])
        obtain ⟨y16, h16⟩ : ∃ y, y = G.getD j 0 := ⟨_, rfl⟩
        obtain ⟨y15, h15⟩ : ∃ y, y = G.getD (j + 1) 0 := ⟨_, rfl⟩
        obtain ⟨y7, h7⟩ : ∃ y, y = G.getD (j + 9) 0 := ⟨_, rfl⟩
        obtain ⟨y2, h2⟩ : ∃ y, y = G.getD (j + 14) 0 := ⟨_, rfl⟩
        rw [← h16, ← h15, ← h7, ← h2] at HN
        have c16 := cell j (by omega)
        have c15 := cell (j + 1) (by omega)
        have c7 := cell (j + 9) (by omega)
        have c2 := cell (j + 14) (by omega)
        rw [← h16] at c16; rw [← h15] at c15; rw [← h7] at c7; rw [← h2] at c2
        clear cell h16 h15 h7 h2
        have HGl := Lib.hid hGl; clear hGl
        have HOW := Lib.hid hown; clear hown
        have hlt2 : (j : Int) + 16 < 64 := by omega
        have HJ := Lib.hid hlt
        clear hj hlt
        go_wp2_with fail
        refine (l1Turn_i _ _ _ (by omega) (by omega)).mono ?_; rintro e w' ⟨rfl, k1, rfl⟩
        go_wp2_with fail
        refine (l1Turn_i _ _ _ (by omega) (by omega)).mono ?_; rintro e w' ⟨rfl, k2, rfl⟩
        go_wp2_with fail
        refine (l1Turn_i _ _ _ (by omega) (by omega)).mono ?_; rintro e w' ⟨rfl, k3, rfl⟩
        go_wp2_with fail
        refine (l1Turn_i _ _ _ (by omega) (by omega)).mono ?_; rintro e w' ⟨rfl, k4, rfl⟩
        go_wp2_with fail
        have hb4 : Below w.heap.size w (wr.drewN (k1 + k2 + k3 + k4)) := below_drewN hb _
        have d16 : (wr.drewN (k1 + k2 + k3 + k4)).cell? ⟨g, j, none⟩ = some (.int .u32 y16) := c16
        have d7 : (wr.drewN (k1 + k2 + k3 + k4)).cell? ⟨g, j + 9, none⟩ = some (.int .u32 y7) := c7
        have HOD := Lib.hid (show (wr.drewN (k1 + k2 + k3 + k4)).ownsRow w.heap.size 73 1 (.slice (some ⟨g, 0, none⟩) (j + 16) cap) (j + 16) (wds G).flatten from HOW.out)
        obtain ⟨wv, hwv⟩ : ∃ wv, wv = wr.drewN (k1 + k2 + k3 + k4) := ⟨_, rfl⟩
        rw [← hwv] at d16 d7 HOD hb4
        rw [← hwv]
        clear hwv HOW c16 c15 c7 c2 hb hsz hg2
        have hsz := hb4.size
        have e16 : IntKind.i64.wrap ((j : Int) + 16 - 16) = j := by rw [IntWalk.i64_in _ (by omega)]; omega
        have e16b : IntKind.i64.wrap (j : Int) = j := IntWalk.i64_in _ (by omega)
        have e7 : IntKind.i64.wrap ((j : Int) + 16 - 7) = j + 9 := by rw [IntWalk.i64_in _ (by omega)]; omega
        have t7 : ((j : Int) + 9).toNat = j + 9 := by omega
        have p16 : 0 ≤ (j : Int) := by omega
        have p7 : 0 ≤ (j : Int) + 9 := by omega
        have q16 : (j : Int) < j + 16 := by omega
        have q7 : (j : Int) + 9 < j + 16 := by omega
        go_region_law
          ((refine step_app0g (w0 := wv.drew) rfl (.tmp 81) (.tmp 97) _ rfl w.heap.size 73 Tryz.underlying74 info_u32 rfl (by omega) (by omega) (.slice (some ⟨g, 0, none⟩) (j + 16) cap) (j + 16) (wds G) rfl (by exact HOD.out) rfl (by simp [Value.oneCell']) rfl (by omega) (by exact hsz) ?_; intro v9 w9 hown9 hg9 _))
        all_goals
          go_wp2
          have hb9 : Below w.heap.size wv w9 := (Below.refl w.heap.size wv).drew.grown hg9 (by exact hsz) (fun k hk => (HOD.out.lt k hk).1)
          have hj := HJ.out
          refine ⟨⟨j + 1, by omega, ?_, ?_, hb4.trans hb9⟩, ?_⟩
          · simp; omega
          · rw [HG.out, wds_snoc, HN.out]
            exact hown9
          · simp [intOf]; omega
      · obtain rfl : j = 48 := by omega
        go_wp2
        go_ret
        exact ⟨_, rfl, by rw [HF.out]; exact hown, hb⟩
end Go.Proofs.YtcomdkmglihdbaaGreatDoor

-- The reference's block: spec.l1Consts, spec.l1Block.
namespace Go.Proofs.YtcomdkmglihdbaaGreatDoor
open Go.RowKit
set_option linter.unusedSimpArgs false
set_option linter.unusedVariables false

set_option maxRecDepth 100000 in
theorem l1Consts_any (w : World) :
    Calls Tryz.prog 64 #[] w fun e w' => e = .returned (.slice (some ⟨w.heap.size, 0, none⟩) 64 64) ∧ w' = w.alloc (.cells (kW.map (Value.int .u32)).toArray 73) := by
  go_enter Tryz.func64, Tryz.ntmps64
  go_wp2
  go_ret
  exact ⟨rfl, rfl⟩

/-- A block whose first cells are words. -/
def WRow (w : World) (g : Nat) (t : TypeId) (xs : List Int) : Prop := ∃ cur, Blk w g t cur ∧ ∀ (i : Nat) (x : Int), xs[i]? = some x → cur[i]? = some (.int .u32 x)
theorem WRow.lt {w : World} {g : Nat} {t : TypeId} {xs : List Int} (h : WRow w g t xs) : g < w.heap.size := let ⟨_, hb, _⟩ := h; hb.lt
theorem WRow.cell {w : World} {g : Nat} {t : TypeId} {xs : List Int} (h : WRow w g t xs) {i : Nat} {x : Int} (hx : xs[i]? = some x) : w.cell? ⟨g, i, none⟩ = some (.int .u32 x) :=
  let ⟨_, hb, hc⟩ := h; (hb.cell i).trans (hc i x hx)
theorem WRow.at_ {w : World} {g : Nat} {t : TypeId} {xs : List Int} (h : WRow w g t xs) {i : Nat} (hi : i < xs.length) : w.cell? ⟨g, i, none⟩ = some (.int .u32 (xs.getD i 0)) := h.cell (getD_of hi)
theorem WRow.frozen {w : World} {g : Nat} {t : TypeId} {xs : List Int} (h : WRow w g t xs) (i : Nat) : w.frozen? ⟨g, i, none⟩ = false := let ⟨_, hb, _⟩ := h; hb.frozen i
theorem WRow.set_ {w : World} {g : Nat} {t : TypeId} {xs : List Int} (h : WRow w g t xs) (i : Nat) (y : Int) : WRow (w.setCell ⟨g, i, none⟩ (.int .u32 y)) g t (xs.set i y) := by
  obtain ⟨cur, hb, hc⟩ := h
  refine ⟨_, hb.set_ i _, fun j x hx => ?_⟩
  rw [List.getElem?_set] at hx
  rw [Array.getElem?_setIfInBounds]
  by_cases e : i = j
  · subst e
    rw [if_pos rfl] at hx ⊢
    by_cases hi : i < xs.length
    · rw [if_pos hi] at hx
      cases hx
      have := hc i _ (List.getElem?_eq_getElem hi)
      rw [if_pos (Array.getElem?_eq_some_iff.1 this).1]
    · rw [if_neg hi] at hx; cases hx
  · rw [if_neg e] at hx ⊢
    exact hc j x hx
theorem WRow.block {w w' : World} {g : Nat} {t : TypeId} {xs : List Int} (h : WRow w g t xs) (e : w'.heap[g]? = w.heap[g]?) : WRow w' g t xs := let ⟨cur, hb, hc⟩ := h; ⟨cur, e.trans hb, hc⟩
theorem WRow.below {w w' : World} {B g : Nat} {t : TypeId} {xs : List Int} (h : WRow w g t xs) (hb : Below B w w') (hg : g < B) : WRow w' g t xs := h.block (hb.block g hg)
theorem WRow.drewN {w : World} {g : Nat} {t : TypeId} {xs : List Int} (h : WRow w g t xs) (n : Nat) : WRow (w.drewN n) g t xs := h
theorem WRow.of_own {w : World} {base n g c : Nat} {t : TypeId} {xs : List Int} (h : w.ownsRow base t 1 (.slice (some ⟨g, 0, none⟩) n c) n (wds xs).flatten) : WRow w g t xs := by
  rcases h.2 with ⟨e, _⟩ | ⟨g', cap, cur, e, _, hg, _, _, _, htake⟩
  · cases e
  · injection e with e1 e2 e3
    injection e1 with e1
    injection e1 with e1 _ _
    subst e1
    refine ⟨cur, hg, fun i x hx => ?_⟩
    have : (wds xs).flatten[i]? = some (.int .u32 x) := by rw [wds_flat, List.getElem?_map, hx]; rfl
    rw [← htake, List.getElem?_take] at this
    split at this
    · simpa using this
    · cases this
theorem addr_add (b o j : Nat) : (⟨b, o, none⟩ : Addr).add j = ⟨b, o + j, none⟩ := by
  unfold Addr.add
  split
  · rename_i h; subst h; rfl
  · rfl
theorem flat_cells {α : Type} (f : α → Value) {w : World} {B off : Nat} {xs : List α} (h : ∀ (k : Nat) (x : α), xs[k]? = some x → w.cell? ⟨B, off + k, none⟩ = some (f x)) :
    ∀ (j : Nat) (u : Value), (xs.map f)[j]? = some u → w.cell? ((⟨B, off, none⟩ : Addr).add j) = some u := by
  intro j u hu
  rw [List.getElem?_map] at hu
  obtain ⟨x, hx, rfl⟩ := Option.map_eq_some_iff.1 hu
  rw [addr_add]
  exact h j x hx
theorem drew2 (w : World) (a b : Nat) : ∃ n, (w.drewN a).drewN b = w.drewN n := ⟨a + b, World.drewN_drewN _ _ _⟩
theorem row_len (s : W8) : s.row.length = 8 := rfl

/-- A row that is moved on by one, from behind. -/
def shiftAt (r : List Int) (n : Nat) : List Int := r.take (n + 1) ++ (r.take 7).drop n
theorem shiftAt_len (s : W8) {n : Nat} (h : n ≤ 7) : (shiftAt s.row n).length = 8 := by simp [shiftAt, W8.row]; omega
theorem shiftAt_full (s : W8) : shiftAt s.row 7 = s.row := rfl
theorem shiftAt_step (s : W8) {n : Nat} (h : n < 7) : (shiftAt s.row (n + 1)).set (n + 1) ((shiftAt s.row (n + 1)).getD n 0) = shiftAt s.row n := by
  obtain rfl | rfl | rfl | rfl | rfl | rfl | rfl : n = 0 ∨ n = 1 ∨ n = 2 ∨ n = 3 ∨ n = 4 ∨ n = 5 ∨ n = 6 := by omega
  all_goals rfl
theorem shift_end (s : W8) (x y : Int) : ((shiftAt s.row 0).set 4 x).set 0 y = [y, s.a, s.b, s.c, x, s.e, s.f, s.g] := rfl
theorem addW_take (s t : W8) {k : Nat} (h : k < 8) : (addW s t).row.take (k + 1) = (addW s t).row.take k ++ [(s.row.getD k 0 + t.row.getD k 0) % 4294967296] := by
  obtain rfl | rfl | rfl | rfl | rfl | rfl | rfl | rfl : k = 0 ∨ k = 1 ∨ k = 2 ∨ k = 3 ∨ k = 4 ∨ k = 5 ∨ k = 6 ∨ k = 7 := by omega
  all_goals rfl
theorem kW_len : kW.length = 64 := rfl
theorem rnd_row (s : W8) (k w : Int) : (rnd s k w).row = [ad (ad (mixT s.e s.f s.g s.h k w) (bigA s.a)) (majI s.a s.b s.c), s.a, s.b, s.c, ad s.d (mixT s.e s.f s.g s.h k w), s.e, s.f, s.g] := rfl

set_option maxHeartbeats 4000000 in
set_option maxRecDepth 100000 in
theorem l1Block_any (v u : Value) (s : W8) (b : List UInt8) (w : World) (hv : Sl w 1 v (wds s.row)) (hs : Sl w 1 u (bts b)) (hb : b.length = 64) :
    Calls Tryz.prog 46 #[v, u] w fun e w' => ∃ v, e = .returned v ∧ w'.ownsRow w.heap.size 73 1 v 8 (wds (blockW s b).row).flatten ∧ Below w.heap.size w w' := by
  obtain ⟨i0, hi0, hz0, hz1, hz2⟩ := info_parts info_u32
  obtain ⟨A, n, c, rfl, hA⟩ := hv
  have hl : 8 = n := by have := hA.len; rwa [wds_len, row_len] at this
  subst hl
  obtain ⟨A2, n2, c2, rfl, hA2⟩ := id hs
  clear hA2
  have hcp := hA.cap
  have hmx := hA.max
  unfold maxLen at hmx
  obtain ⟨B, off, rfl, hB, hcells⟩ := row_all (Value.int .u32) (show SlA w 1 A 8 c (s.row.map fun x => [Value.int .u32 x]) from hA) (by omega)
  have HC := Lib.hid hcells; clear hcells hA
  go_enter Tryz.func46, Tryz.ntmps46
  go_wp2_with fail
  refine (l1Words_any _ b _ hs hb).mono ?_; rintro e w1 ⟨v1, rfl, o1, b1⟩
  obtain ⟨g1, cap1, rfl, hg1, hg1'⟩ := o1.form (by omega)
  have W1 := WRow.of_own o1
  have HW1 := Lib.hid W1
  have HO1 := Lib.hid o1
  clear o1 W1 hs
  go_wp2_with fail
  refine (l1Consts_any _).mono ?_; rintro e w2 ⟨rfl, hw2⟩
  have b2 : Below w1.heap.size w1 w2 := by rw [hw2]; go_grown
  have K2 : WRow w2 w1.heap.size 73 kW := ⟨_, by rw [hw2]; exact Blk.new _ _ _, fun i x hx => by simp [hx]⟩
  have z2 : w2.heap.size = w1.heap.size + 1 := by rw [hw2]; simp
  have b02 := below_then b1 b2
  have W2 := HW1.out.below b2 hg1'
  have HW2 := Lib.hid W2; have HK2 := Lib.hid K2
  have HZ2 := Lib.hid z2
  clear HW1 HO1 W2 K2 hw2
  have l12 : w1.heap.size < w2.heap.size := by omega
  clear z2
  have lB2 : B < w2.heap.size := by have := b1.size; omega
  have hb02c : Below w.heap.size w (w2.alloc (.cells #[] 73)) := b02.alloc (by omega) _
  have HN3 := Lib.hid (flat_cells (Value.int .u32) (w := w2.alloc (.cells #[] 73)) (B := B) (off := off) (xs := s.row) (fun k x hx => (hb02c.cell (p := ⟨B, off + k, none⟩) hB).trans (HC.out k x hx)))
  have HO3 := Lib.hid (World.ownsRow_made (base := w2.heap.size) (e := 73) (size := 1) w2 #[] 0 (Nat.le_refl _) (Nat.zero_le _) rfl)
  clear hb02c
  go_upto_block 0 with (at_builtin; go_must (refine wpList_append_own _ rfl (.tmp 20) (.tmp 21) _ rfl w2.heap.size 73 i0 (.int .u32 0) 1 4 Tryz.underlying74 hi0 hz0 hz1 hz2 rfl (by omega) (.slice (some ⟨w2.heap.size, 0, none⟩) 0 0) 0 [] rfl HO3.out ⟨B, off, none⟩ 8 c (s.row.map (Value.int .u32)) rfl rfl HN3.out (by simp [Value.oneCell']) (by unfold maxLen; omega) (by omega) (by simp) ?_; intro v3 w3 o3 g3 _))
  obtain ⟨g, cap, rfl, hg3, hg3'⟩ := o3.form (by omega)
  have b3 : Below w2.heap.size w2 w3 := ((Below.refl w2.heap.size w2).alloc (Nat.le_refl _) _).grown g3 (by simp) (fun k hk => (HO3.out.lt k hk).1)
  have R3 := Lib.hid (WRow.of_own (by rw [wds_flat]; simpa using o3 : w3.ownsRow w2.heap.size 73 1 (.slice (some ⟨g, 0, none⟩) 8 cap) 8 (wds s.row).flatten))
  have hval : Value.slice (some ⟨g, 0, none⟩) (0 + 8) cap = .slice (some ⟨g, 0, none⟩) 8 cap := rfl
  rw [hval]
  clear hval o3 g3 HO3 HN3
  go_cut [] (fun wx => Hid (WRow wx g 73 (rnds s (sched b) 64).row) ∧ Below w2.heap.size w2 wx)
  case first =>
    go_wp2
    go_loopw [8] (fun i wr => ∃ k : Nat, k ≤ 64 ∧ i = .int .i64 k ∧ Hid (WRow wr g 73 (rnds s (sched b) k).row) ∧ Below w2.heap.size w2 wr) (fun i _ => 64 - (intOf i).toNat)
    case atStart => exact ⟨0, by omega, rfl, R3, b3⟩
    case round =>
      clear R3 b3
      obtain ⟨k, hk, rfl, HR, hb⟩ := hrel
      by_cases hlt : k < 64
      · obtain ⟨wo, rfl⟩ : ∃ wo : World, wo = wr := ⟨_, rfl⟩
        have CW := (HW2.out.below hb (by omega)).at_ (i := k) (by rw [sched_len]; omega)
        have CK := (HK2.out.below hb (by omega)).at_ (i := k) (by rw [kW_len]; omega)
        obtain ⟨x, hx⟩ : ∃ x, x = (sched b).getD k 0 := ⟨_, rfl⟩
        obtain ⟨y, hy⟩ : ∃ y, y = kW.getD k 0 := ⟨_, rfl⟩
        have HRN := Lib.hid (show rnds s (sched b) (k + 1) = rnd (rnds s (sched b) k) y x by rw [hx, hy]; rfl)
        rw [← hx] at CW; rw [← hy] at CK
        clear hx hy
        obtain ⟨r, hr⟩ : ∃ r, r = rnds s (sched b) k := ⟨_, rfl⟩
        rw [← hr] at HRN HR
        clear hr
        obtain ⟨ra, rb, rc, rd, re, rf, rg, rh⟩ := r
        have c0 := HR.out.cell (i := 0) rfl
        have c1 := HR.out.cell (i := 1) rfl
        have c2 := HR.out.cell (i := 2) rfl
        have c4 := HR.out.cell (i := 4) rfl
        have c5 := HR.out.cell (i := 5) rfl
        have c6 := HR.out.cell (i := 6) rfl
        have c7 := HR.out.cell (i := 7) rfl
        have hlt2 : (k : Int) < 64 := by omega
        have HLT := Lib.hid hlt; clear hlt hk
        go_wp2
        go_quiet ((go_at_call 65; exact Calls.quiet_of (l1Turn_i _ _ _ (by omega) (by omega))))
        rename_i nq1
        go_wp2
        go_quiet ((fail))
        rename_i nq2
        go_wp2
        go_upto_region 9 with (fail)
        go_cut [11] (fun s11 wx => s11 = .int .u32 (mixT re rf rg rh y x) ∧ ∃ n, wx = wo.drewN n)
        case first =>
          go_quiet ((fail))
          go_wp2
          go_meet
          exact ⟨congrArg _ (by unfold mixT ad bigE chI nt xr an; omega), drew2 _ _ _⟩
        case rest =>
          obtain ⟨rfl, nq4, rfl⟩ := hcut
          obtain ⟨T, hT⟩ : ∃ T, T = mixT re rf rg rh y x := ⟨_, rfl⟩
          rw [← hT]
          have HT := Lib.hid hT; clear hT
          obtain ⟨V, hV⟩ : ∃ V, V = wo.drewN nq4 := ⟨_, rfl⟩
          rw [← hV]
          have HRV : Hid (WRow V g 73 (W8.mk ra rb rc rd re rf rg rh).row) := by rw [hV]; exact HR
          have hbV : Below w2.heap.size w2 V := by rw [hV]; exact below_drewN hb _
          clear hV c0 c1 c2 c4 c5 c6 c7 CW CK HR hb
          have c0 := HRV.out.cell (i := 0) rfl
          have c1 := HRV.out.cell (i := 1) rfl
          have c2 := HRV.out.cell (i := 2) rfl
          go_wp2
          go_quiet ((go_at_call 65; exact Calls.quiet_of (l1Turn_i _ _ _ (by omega) (by omega))))
          go_upto_region 11 with (fail)
          go_cut [13] (fun s13 wx => s13 = .int .u32 (majI ra rb rc) ∧ ∃ n, wx = V.drewN n)
          case first =>
            go_quiet ((fail))
            go_wp2
            go_meet
            exact ⟨rfl, drew2 _ _ _⟩
          case rest =>
            obtain ⟨rfl, nq6, hw⟩ := hcut
            have HRC : Hid (WRow wc g 73 (W8.mk ra rb rc rd re rf rg rh).row) := by rw [hw]; exact HRV
            have hbC : Below w2.heap.size w2 wc := by rw [hw]; exact below_drewN hbV _
            clear hw HRV hbV c0 c1 c2
            obtain ⟨r, hr⟩ : ∃ r, r = W8.mk ra rb rc rd re rf rg rh := ⟨_, rfl⟩
            rw [← hr] at HRC HRN
            have HRE := Lib.hid hr
            clear hr
            go_wp2
            go_loopw [14] (fun i wr => ∃ n : Nat, n ≤ 7 ∧ i = .int .i64 n ∧ Hid (WRow wr g 73 (shiftAt r.row n)) ∧ Below w2.heap.size w2 wr) (fun i _ => (intOf i).toNat)
            case atStart => exact ⟨7, by omega, rfl, Lib.hid (by rw [shiftAt_full]; exact HRC.out), hbC⟩
            case round =>
              clear HRC hbC
              obtain ⟨n, hn, rfl, HR, hb⟩ := hrel
              by_cases h0 : 0 < n
              · obtain ⟨m, rfl⟩ : ∃ m, n = m + 1 := ⟨n - 1, by omega⟩
                have cm := HR.out.at_ (i := m) (by rw [shiftAt_len _ hn]; omega)
                have cn := HR.out.at_ (i := m + 1) (by rw [shiftAt_len _ hn]; omega)
                have fn := HR.out.frozen (m + 1)
                obtain ⟨z, hz⟩ : ∃ z, z = (shiftAt r.row (m + 1)).getD m 0 := ⟨_, rfl⟩
                obtain ⟨z', hz'⟩ : ∃ z, z = (shiftAt r.row (m + 1)).getD (m + 1) 0 := ⟨_, rfl⟩
                rw [← hz] at cm
                rw [← hz'] at cn
                have HS := Lib.hid (show WRow (wr.setCell ⟨g, m + 1, none⟩ (.int .u32 z)) g 73 (shiftAt r.row m) by rw [← shiftAt_step r (by omega), ← hz]; exact HR.out.set_ _ _)
                clear hz hz'
                have HM := Lib.hid hn
                have hm7 : (m : Int) + 1 < 8 := by omega
                clear hn h0
                go_wp2
                refine ⟨⟨m, by have := HM.out; omega, ?_, HS, hb.setCell hg3 _⟩, ?_⟩
                · simp
                · simp [intOf]
              · obtain rfl : n = 0 := by omega
                have E0 : shiftAt r.row 0 = [ra, ra, rb, rc, rd, re, rf, rg] := by rw [HRE.out]; rfl
                rw [E0] at HR
                have c4 := HR.out.cell (i := 4) rfl
                have f4 := HR.out.frozen 4
                have c0 := HR.out.cell (i := 0) rfl
                have f0 := HR.out.frozen 0
                have HS := Lib.hid ((HR.out.set_ 4 ((rd + T) % 4294967296)).set_ 0 ((T + (bits .xor .u32 (bits .xor .u32 (rotI ra 2) (rotI ra 13)) (rotI ra 22)) + majI ra rb rc) % 4294967296))
                have HRN2 := HRN.out
                have hfin : (rnds s (sched b) (k + 1)).row = ([ra, ra, rb, rc, rd, re, rf, rg].set 4 ((rd + T) % 4294967296)).set 0 ((T + (bits .xor .u32 (bits .xor .u32 (rotI ra 2) (rotI ra 13)) (rotI ra 22)) + majI ra rb rc) % 4294967296) := by
                  rw [HRN.out, HRE.out, rnd_row, ← HT.out]
                  show _ = [(T + bigA ra + majI ra rb rc) % 4294967296, ra, rb, rc, (rd + T) % 4294967296, re, rf, rg]
                  rw [show ad (ad T (bigA ra)) (majI ra rb rc) = (T + bigA ra + majI ra rb rc) % 4294967296 by unfold ad; omega]
                  rfl
                have HFIN := Lib.hid hfin
                clear E0 hfin HRN2
                go_wp2
                have hk := HLT.out
                refine ⟨⟨k + 1, by omega, by go_num, ?_, (hb.setCell hg3 _).setCell hg3 _⟩, by simp [intOf]; omega⟩
                rw [HFIN.out]
                exact HS
      · obtain rfl : k = 64 := by omega
        go_wp2
        go_meet
        exact ⟨HR, hb⟩
  case rest =>
    obtain ⟨HR, hb⟩ := hcut
    clear R3 b3
    have hsz := hb.size
    have gl := HR.out.lt
    have b0c := below_step b02 (by omega) hb
    have hOE := Lib.hid (World.ownsRow_made (base := wc.heap.size) (e := 73) (size := 1) wc #[] 0 (Nat.le_refl _) (Nat.zero_le _) rfl)
    have hbE : Below wc.heap.size wc (wc.alloc (.cells #[] 73)) := by go_grown
    go_wp2
    go_loopw [15, 16] (fun o i wr => ∃ k : Nat, k ≤ 8 ∧ i = .int .i64 k ∧ wr.ownsRow wc.heap.size 73 1 o k (wds ((blockW s b).row.take k)).flatten ∧ Below wc.heap.size wc wr) (fun _ i _ => 8 - (intOf i).toNat)
    case atStart => exact ⟨0, by omega, rfl, hOE.out, hbE⟩
    case round =>
      clear hbE
      obtain ⟨k, hk, rfl, hown, hbr⟩ := hrel
      have hsr := hbr.size
      by_cases hlt : k < 8
      · have lBc : B < wc.heap.size := by omega
        have d1 := ((below_step b0c (by omega) hbr).cell (p := ⟨B, off + k, none⟩) hB).trans (HC.out k _ (getD_of (d := 0) (by rw [row_len]; exact hlt)))
        have d2 := (HR.out.below hbr gl).at_ (i := k) (by rw [row_len]; exact hlt)
        obtain ⟨x, hx⟩ : ∃ x, x = s.row.getD k 0 := ⟨_, rfl⟩
        obtain ⟨y, hy⟩ : ∃ y, y = (rnds s (sched b) 64).row.getD k 0 := ⟨_, rfl⟩
        have HX := Lib.hid (show (blockW s b).row.take (k + 1) = (blockW s b).row.take k ++ [(x + y) % 4294967296] by rw [hx, hy]; exact addW_take _ _ hlt)
        rw [← hx] at d1
        rw [← hy] at d2
        clear hx hy
        have HOW := Lib.hid hown
        have hlt2 : (k : Int) < 8 := by omega
        have HLT := Lib.hid hlt
        clear hown hlt hk
        go_wp2
        go_region_held3 (fun w' => w'.cell? ⟨B, off + k, none⟩ = some (.int .u32 x) ∧ w'.cell? ⟨g, k, none⟩ = some (.int .u32 y))
          (first | exact ⟨d1, d2⟩ | exact ⟨z1, z2⟩ | go_keep)
          ((refine step_app0g (w0 := wr.drew) rfl (.tmp 142) (.tmp 152) _ rfl wc.heap.size 73 Tryz.underlying74 info_u32 rfl (by omega) (by omega) _ k (wds ((blockW s b).row.take k)) rfl (by exact HOW.out) rfl (by simp [Value.oneCell']) rfl (by have := HLT.out; omega) (by exact hsr) ?_; intro v9 w9 hown9 hg9 _; have hb9 : Below wc.heap.size wr w9 := (Below.refl wc.heap.size wr).drew.grown hg9 (by exact hsr) (fun k hk => (HOW.out.lt k hk).1); have z1 := (hb9.cell (p := ⟨B, off + k, none⟩) lBc).trans d1; have z2 := (hb9.cell (p := ⟨g, k, none⟩) gl).trans d2))
        go_wp2
        have hk := HLT.out
        refine ⟨⟨k + 1, by omega, by go_num, ?_, hbr.trans hb9⟩, by simp [intOf]; omega⟩
        rw [HX.out, wds_snoc]
        exact hown9
      · obtain rfl : k = 8 := by omega
        go_wp2
        go_ret
        refine ⟨_, rfl, own_base hown (by omega), b0c.trans (hbr.mono (by omega))⟩
end Go.Proofs.YtcomdkmglihdbaaGreatDoor
