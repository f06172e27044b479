/- The sum of a text in plain words: numbers of the model's own words, rows of bytes; no Go function is walked here. -/
import Derived.Test.YtaieopdfkapgdaaDoorKit
namespace Go.Proofs.YtaieopdfkapgdaaDoor
open Go.RowKit
set_option linter.unusedSimpArgs false
set_option linter.unusedVariables false

/-! ### words -/
def rotI (x : Int) (n : Nat) : Int := bits .or .u32 (x / 2 ^ n) (x * 2 ^ (32 - n) % 4294967296)
def xr (a b : Int) : Int := bits .xor .u32 a b
def an (a b : Int) : Int := bits .and .u32 a b
def ad (a b : Int) : Int := (a + b) % 4294967296
def nt (a : Int) : Int := bits .xor .u32 IntKind.u32.max a
def smallS (x : Int) : Int := xr (xr (rotI x 7) (rotI x 18)) (x / 8)
def greatS (y : Int) : Int := xr (xr (rotI y 17) (rotI y 19)) (y / 1024)
def bigE (e : Int) : Int := xr (xr (rotI e 6) (rotI e 11)) (rotI e 25)
def bigA (a : Int) : Int := xr (xr (rotI a 2) (rotI a 13)) (rotI a 22)
def chI (e f g : Int) : Int := xr (an e f) (an (nt e) g)
def majI (a b c : Int) : Int := xr (xr (an a b) (an a c)) (an b c)
def mixT (e f g h k w : Int) : Int := ad (ad (ad (ad h (bigE e)) (chI e f g)) k) w
def word4 (a b c d : Int) : Int := bits .or .u32 (bits .or .u32 (bits .or .u32 (a * 16777216 % 4294967296) (b * 65536 % 4294967296)) (c * 256 % 4294967296)) d

def nextW (w : List Int) : Int :=
  ad (ad (ad (w.getD (w.length - 16) 0) (smallS (w.getD (w.length - 15) 0))) (w.getD (w.length - 7) 0)) (greatS (w.getD (w.length - 2) 0))
def growW : Nat → List Int → List Int
  | 0, w => w
  | k + 1, w => growW k w ++ [nextW (growW k w)]
def byteAt (b : List UInt8) (i : Nat) : Int := ((b.getD i 0).toNat : Int)
def firstW (b : List UInt8) : Nat → List Int
  | 0 => []
  | k + 1 => firstW b k ++ [word4 (byteAt b (4 * k)) (byteAt b (4 * k + 1)) (byteAt b (4 * k + 2)) (byteAt b (4 * k + 3))]
theorem firstW_len (b : List UInt8) : ∀ k, (firstW b k).length = k
  | 0 => rfl
  | k + 1 => by simp [firstW, firstW_len b k]
theorem growW_len (w : List Int) : ∀ k, (growW k w).length = w.length + k
  | 0 => rfl
  | k + 1 => by simp [growW, growW_len w k]; omega
/-- The 64 words of a block. -/
def sched (b : List UInt8) : List Int := growW 48 (firstW b 16)
theorem sched_len (b : List UInt8) : (sched b).length = 64 := by unfold sched; rw [growW_len, firstW_len]
theorem growW_pre (w : List Int) : ∀ k i, i < w.length → (growW k w)[i]? = w[i]?
  | 0, i, _ => rfl
  | k + 1, i, h => by
    rw [growW, List.getElem?_append_left (by rw [growW_len]; omega)]
    exact growW_pre w k i h

def kW : List Int := [
  0x428a2f98, 0x71374491, 0xb5c0fbcf, 0xe9b5dba5, 0x3956c25b, 0x59f111f1, 0x923f82a4, 0xab1c5ed5,
  0xd807aa98, 0x12835b01, 0x243185be, 0x550c7dc3, 0x72be5d74, 0x80deb1fe, 0x9bdc06a7, 0xc19bf174,
  0xe49b69c1, 0xefbe4786, 0x0fc19dc6, 0x240ca1cc, 0x2de92c6f, 0x4a7484aa, 0x5cb0a9dc, 0x76f988da,
  0x983e5152, 0xa831c66d, 0xb00327c8, 0xbf597fc7, 0xc6e00bf3, 0xd5a79147, 0x06ca6351, 0x14292967,
  0x27b70a85, 0x2e1b2138, 0x4d2c6dfc, 0x53380d13, 0x650a7354, 0x766a0abb, 0x81c2c92e, 0x92722c85,
  0xa2bfe8a1, 0xa81a664b, 0xc24b8b70, 0xc76c51a3, 0xd192e819, 0xd6990624, 0xf40e3585, 0x106aa070,
  0x19a4c116, 0x1e376c08, 0x2748774c, 0x34b0bcb5, 0x391c0cb3, 0x4ed8aa4a, 0x5b9cca4f, 0x682e6ff3,
  0x748f82ee, 0x78a5636f, 0x84c87814, 0x8cc70208, 0x90befffa, 0xa4506ceb, 0xbef9a3f7, 0xc67178f2]
def h0W : List Int := [0x6a09e667, 0xbb67ae85, 0x3c6ef372, 0xa54ff53a, 0x510e527f, 0x9b05688c, 0x1f83d9ab, 0x5be0cd19]

structure W8 where
  a : Int
  b : Int
  c : Int
  d : Int
  e : Int
  f : Int
  g : Int
  h : Int
def W8.row (s : W8) : List Int := [s.a, s.b, s.c, s.d, s.e, s.f, s.g, s.h]
def rnd (s : W8) (k w : Int) : W8 :=
  ⟨ad (ad (mixT s.e s.f s.g s.h k w) (bigA s.a)) (majI s.a s.b s.c), s.a, s.b, s.c, ad s.d (mixT s.e s.f s.g s.h k w), s.e, s.f, s.g⟩
def rnds (s : W8) (ws : List Int) : Nat → W8
  | 0 => s
  | k + 1 => rnd (rnds s ws k) (kW.getD k 0) (ws.getD k 0)
def addW (s t : W8) : W8 := ⟨ad s.a t.a, ad s.b t.b, ad s.c t.c, ad s.d t.d, ad s.e t.e, ad s.f t.f, ad s.g t.g, ad s.h t.h⟩
/-- A block put into a sum. -/
def blockW (s : W8) (b : List UInt8) : W8 := addW s (rnds s (sched b) 64)
def startW : W8 := ⟨0x6a09e667, 0xbb67ae85, 0x3c6ef372, 0xa54ff53a, 0x510e527f, 0x9b05688c, 0x1f83d9ab, 0x5be0cd19⟩
/-- The sum behind so many blocks of a text. -/
def sumTo (l : List UInt8) : Nat → W8
  | 0 => startW
  | k + 1 => blockW (sumTo l k) ((l.drop (64 * k)).take 64)
theorem sumTo_append (l m : List UInt8) : ∀ k, 64 * k ≤ l.length → sumTo (l ++ m) k = sumTo l k
  | 0, _ => rfl
  | k + 1, h => by
    rw [sumTo, sumTo, sumTo_append l m k (by omega)]
    congr 1
    rw [List.drop_append_of_le_length (by omega), List.take_append_of_le_length (by rw [List.length_drop]; omega)]

/-! ### bytes -/
def byteOf (n : Int) : UInt8 := UInt8.ofNat (n % 256).toNat
theorem byteOf_wrap (n : Int) : IntKind.u8.wrap n = ((byteOf n).toNat : Int) := by
  have h1 : 0 ≤ n % 256 := Int.emod_nonneg _ (by decide)
  have h2 : n % 256 < 256 := Int.emod_lt_of_pos _ (by decide)
  have h3 : (n % 256).toNat < 256 := by omega
  have h4 : (byteOf n).toNat = (n % 256).toNat := by
    unfold byteOf
    rw [UInt8.toNat_ofNat']
    omega
  rw [h4]
  simp [IntKind.wrap, IntKind.bits, IntKind.signed]
  omega
theorem byteOf_mod (n : Int) : n % 256 = ((byteOf n).toNat : Int) := by
  rw [← byteOf_wrap]
  simp [IntKind.wrap, IntKind.bits, IntKind.signed]
def be4 (x : Int) : List UInt8 := [byteOf (x / 16777216), byteOf (x / 65536), byteOf (x / 256), byteOf x]
def bytesW (s : W8) : List UInt8 := s.row.flatMap be4
theorem bytesW_len (s : W8) : (bytesW s).length = 32 := by simp [bytesW, W8.row, be4]
/-- The length of a text in bits, in eight bytes. -/
def be8 (n : Nat) : List UInt8 := (List.range 8).map fun i => byteOf (((8 * n : Nat) : Int) / 2 ^ (56 - 8 * i))
theorem be8_len (n : Nat) : (be8 n).length = 8 := by simp [be8]
def zerosFor (n : Nat) : Nat := (119 - n % 64) % 64
theorem zerosFor_mod (n : Nat) : (n + 1 + zerosFor n) % 64 = 56 := by unfold zerosFor; omega
theorem zerosFor_lt (n : Nat) : zerosFor n < 64 := by unfold zerosFor; omega
theorem zerosFor_least (n k : Nat) (h : k < zerosFor n) : (n + 1 + k) % 64 ≠ 56 := by unfold zerosFor at h; omega
def padded (l : List UInt8) : List UInt8 := l ++ 128 :: (List.replicate (zerosFor l.length) 0 ++ be8 l.length)
theorem padded_len (l : List UInt8) : (padded l).length = l.length + 1 + zerosFor l.length + 8 := by simp [padded, be8_len]; omega
theorem padded_mod (l : List UInt8) : (padded l).length % 64 = 0 := by rw [padded_len]; have := zerosFor_mod l.length; omega
/-- The sum of a text, as bytes. -/
def sumOf (l : List UInt8) : List UInt8 := bytesW (sumTo (padded l) ((padded l).length / 64))
theorem sumOf_len (l : List UInt8) : (sumOf l).length = 32 := bytesW_len _
def figs : List UInt8 := [48, 49, 50, 51, 52, 53, 54, 55, 56, 57, 97, 98, 99, 100, 101, 102]
def fig (n : Nat) : UInt8 := figs.getD n 0
def hex2 (b : UInt8) : List UInt8 := [fig (b.toNat / 16), fig (b.toNat % 16)]
def hexOf (l : List UInt8) : List UInt8 := l.flatMap hex2
theorem hexOf_len (l : List UInt8) : (hexOf l).length = 2 * l.length := by
  induction l with
  | nil => rfl
  | cons x l ih => simp [hexOf, hex2] at ih ⊢; omega
theorem hexOf_snoc (l : List UInt8) (b : UInt8) : hexOf (l ++ [b]) = hexOf l ++ hex2 b := by simp [hexOf]
/-- The sum of a text in figures. -/
def hashText (l : List UInt8) : List UInt8 := hexOf (sumOf l)
theorem hashText_len (l : List UInt8) : (hashText l).length = 64 := by unfold hashText; rw [hexOf_len, sumOf_len]
end Go.Proofs.YtaieopdfkapgdaaDoor
