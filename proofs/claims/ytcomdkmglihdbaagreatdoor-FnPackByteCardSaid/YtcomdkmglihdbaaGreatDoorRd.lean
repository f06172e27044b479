/- The reader by which the laws draw their inputs: what it gives is in its bounds, and what is changed is its own place. -/
import Derived.Test.YtcomdkmglihdbaaGreatDoorKit
import Derived.BigRegion
import Derived.Laws.BitsLemmas
import Derived.Laws.Runes
namespace Go.Proofs.YtcomdkmglihdbaaGreatDoor
open Go.RowKit
set_option linter.unusedSimpArgs false
set_option linter.unusedVariables false

/-- A reader at a block, with p letters taken. -/
structure RdA (w : World) (g : Nat) (A : Option Addr) (n c : Nat) (ys : List Int) (p : Nat) : Prop where
  blk : Blk w g 58 #[.slice A n c, .int .i64 p]
  len : ys.length = n
  few : n ≤ 2000
  cap : n ≤ c
  max : c ≤ maxLen
  bytes : ∀ y ∈ ys, 0 ≤ y ∧ y ≤ 255
  at_ : 0 < n → ∃ b off, A = some ⟨b, off, none⟩ ∧ b < g ∧ ∀ (k : Nat) (y : Int), ys[k]? = some y → w.cell? ⟨b, off + k, none⟩ = some (.int .u8 y)
def Rd (w : World) (g p : Nat) : Prop := ∃ A n c ys, RdA w g A n c ys p

theorem RdA.below {w w' : World} {g n c p B : Nat} {A : Option Addr} {ys : List Int} (h : RdA w g A n c ys p) (hb : Below B w w') (hg : g < B) : RdA w' g A n c ys p :=
  ⟨h.blk.below hb hg, h.len, h.few, h.cap, h.max, h.bytes, fun hn => let ⟨b, off, e, hl, hc⟩ := h.at_ hn
    ⟨b, off, e, hl, fun k y hy => (hb.cell (p := ⟨b, off + k, none⟩) (Nat.lt_trans hl hg)).trans (hc k y hy)⟩⟩
theorem Rd.below {w w' : World} {g p B : Nat} (h : Rd w g p) (hb : Below B w w') (hg : g < B) : Rd w' g p :=
  let ⟨A, n, c, ys, h⟩ := h; ⟨A, n, c, ys, h.below hb hg⟩
theorem Rd.lt {w : World} {g p : Nat} (h : Rd w g p) : g < w.heap.size := let ⟨_, _, _, _, h⟩ := h; h.blk.lt
theorem Rd.next {w w' : World} {g p : Nat} (h : Rd w g p) (hb : Below w.heap.size w w') : Rd w' g p := h.below hb h.lt
theorem RdA.step {w : World} {g n c p : Nat} {A : Option Addr} {ys : List Int} (h : RdA w g A n c ys p) (q : Int) (hq : q = ((p + 1 : Nat) : Int)) : RdA (w.setCell ⟨g, 1, none⟩ (.int .i64 q)) g A n c ys (p + 1) := by
  subst hq
  refine ⟨?_, h.len, h.few, h.cap, h.max, h.bytes, fun hn => let ⟨b, off, e, hl, hc⟩ := h.at_ hn
    ⟨b, off, e, hl, fun k y hy => ?_⟩⟩
  · have := h.blk.set_ 1 (.int .i64 ((p + 1 : Nat) : Int))
    simpa using this
  · have hb : Below g w (w.setCell ⟨g, 1, none⟩ (.int .i64 ((p + 1 : Nat) : Int))) := (Below.refl g w).setCell (Nat.le_refl _) _
    exact (hb.cell (p := ⟨b, off + k, none⟩) hl).trans (hc k y hy)
theorem Rd.slice_one {w : World} {b off : Nat} : (⟨b, off, none⟩ : Addr).add 0 = ⟨b, off, none⟩ := by simp [Addr.add]

theorem xor_nat (a b : Nat) (ha : a < 2 ^ 62) (hb : b < 2 ^ 62) : bits .xor .i64 (a : Int) (b : Int) = ((a ^^^ b : Nat) : Int) := by
  have h1 : a % 2 ^ 64 = a := Nat.mod_eq_of_lt (Nat.lt_trans ha (by decide))
  have h2 : b % 2 ^ 64 = b := Nat.mod_eq_of_lt (Nat.lt_trans hb (by decide))
  have h3 := Nat.xor_lt_two_pow ha hb
  simp only [bits, IntKind.bits, BitVec.ofInt_natCast]
  have h5 : ((a ^^^ b : Nat) : Int) < 9223372036854775808 := by
    have h4 : (2 : Nat) ^ 62 = 4611686018427387904 := by decide
    generalize a ^^^ b = x at h3 ⊢
    omega
  have h6 : (BitVec.ofNat 64 a ^^^ BitVec.ofNat 64 b).toNat = a ^^^ b := by rw [BitVec.toNat_xor, BitVec.toNat_ofNat, BitVec.toNat_ofNat, h1, h2]
  exact (congrArg (fun t : Nat => IntKind.i64.wrap (t : Int)) h6).trans (wrap_small _ (Int.natCast_nonneg _) h5)
theorem wrap64_id {x : Int} (h0 : 0 ≤ x) (h1 : x ≤ 1000000000000) : wrap64 x = x := by unfold wrap64; omega
theorem pick_fin (X n : Int) (h0 : 0 ≤ X) (h1 : X ≤ 1000000000000) : 0 ≤ (bits .xor .i64 X (wrap64 (X.tdiv 64))).tmod n ∧ (1 ≤ n → (bits .xor .i64 X (wrap64 (X.tdiv 64))).tmod n < n) := by
  obtain ⟨x, rfl⟩ := Int.eq_ofNat_of_zero_le h0
  have e1 : wrap64 ((x : Int).tdiv 64) = ((x / 64 : Nat) : Int) := by
    rw [Int.tdiv_eq_ediv_of_nonneg (by omega)]
    unfold wrap64
    omega
  have h2 : (2 : Nat) ^ 62 = 4611686018427387904 := by decide
  rw [e1, xor_nat x (x / 64) (by omega) (by omega)]
  refine ⟨Int.tmod_nonneg _ (Int.natCast_nonneg _), fun hn => ?_⟩
  rw [Int.tmod_eq_emod_of_nonneg (Int.natCast_nonneg _)]
  exact Int.emod_lt_of_pos _ (by omega)

theorem u8at {ys : List Int} {k : Nat} (h : k < ys.length) (hb : ∀ y ∈ ys, 0 ≤ y ∧ y ≤ 255) : ∃ y, ys[k]? = some y ∧ 0 ≤ y ∧ y ≤ 255 :=
  ⟨ys[k], List.getElem?_eq_getElem h, hb _ (List.getElem_mem h)⟩

set_option maxHeartbeats 2000000 in
set_option maxRecDepth 100000 in
theorem pick_any (g p : Nat) (n : Int) (w : World) (h : Rd w g p) (hp : p ≤ 1000000000) :
    Calls Tryz.prog 26 #[.pointer (some ⟨g, 0, none⟩), .int .i64 n] w fun e w' =>
      ∃ k : Int, e = .returned (.int .i64 k) ∧ 0 ≤ k ∧ (1 ≤ n → k < n) ∧ w.grownBy w' (some g) ∧ Rd w' g (p + 1) := by
  obtain ⟨A, m, c, ys, h⟩ := h
  have c0 := h.blk.cell 0
  have c1 := h.blk.cell 1
  have f1 := h.blk.frozen 1
  have hlt := h.blk.lt
  have hfew := h.few
  have hcap := h.cap
  have hmx := h.max
  unfold maxLen at hmx
  simp at c0 c1
  by_cases hn : n < 1
  · go_enter Tryz.func26, Tryz.ntmps26
    go_wp2
    go_ret
    exact ⟨0, rfl, by omega, by omega, grown_set _ _ _ _, _, _, _, _, h.step _ (by go_num)⟩
  · by_cases hm : m = 0
    · subst hm
      go_enter Tryz.func26, Tryz.ntmps26
      go_wp2
      go_ret
      exact ⟨0, rfl, by omega, by omega, grown_set _ _ _ _, _, _, _, _, h.step _ (by go_num)⟩
    · have hm0 : ((m : Int) == 0) = false := by simp; omega
      obtain ⟨b, off, rfl, hbg, hcell⟩ := h.at_ (by omega)
      have hw := h.step ((p : Int) + 1) (by omega)
      have hne : ∀ j : Nat, (w.setCell ⟨g, 1, none⟩ (.int .i64 ((p : Int) + 1))).cell? ⟨b, j, none⟩ = w.cell? ⟨b, j, none⟩ := fun j => ((Below.refl g w).setCell (p := ⟨g, 1, none⟩) (Nat.le_refl _) _).cell (p := ⟨b, j, none⟩) hbg
      have hlen := h.len
      by_cases hlt : p < m
      · obtain ⟨y, hy, hy0, hy1⟩ := u8at (ys := ys) (k := p) (by omega) h.bytes
        have cy := hcell p y hy
        have HB := Lib.hid hcell; have HW := Lib.hid hw; have HH := Lib.hid h; clear hcell hw h hy hlen
        go_enter Tryz.func26, Tryz.ntmps26
        go_wp2
        go_ret
        exact ⟨y % n, rfl, Int.emod_nonneg _ (by omega), Int.emod_lt_of_pos _ (by omega), grown_set _ _ _ _, _, _, _, _, HW.out⟩
      · have hp1 : p % m < m := Nat.mod_lt _ (by omega)
        have hp2 : (p * 7 + 3) % m < m := Nat.mod_lt _ (by omega)
        obtain ⟨y1, hy1, hy10, hy11⟩ := u8at (ys := ys) (k := p % m) (by omega) h.bytes
        obtain ⟨y2, hy2, hy20, hy21⟩ := u8at (ys := ys) (k := (p * 7 + 3) % m) (by omega) h.bytes
        have cy1 := hcell _ y1 hy1
        have cy2 := hcell _ y2 hy2
        have e1 : (p : Int) % (m : Int) = ((p % m : Nat) : Int) := (Int.natCast_emod p m).symm
        have e2 : ((p : Int) * 7 + 3) % (m : Int) = (((p * 7 + 3) % m : Nat) : Int) := by rw [Int.natCast_emod]; push_cast; rfl
        generalize p % m = r1 at *
        generalize (p * 7 + 3) % m = r2 at *
        have i1 : (r1 : Int) < m := by omega
        have i2 : (r2 : Int) < m := by omega
        have e1' : (p : Int).tmod (m : Int) = (r1 : Int) := by rw [Int.tmod_eq_emod_of_nonneg (by omega)]; exact e1
        have e2' : ((p : Int) * 7 + 3).tmod (m : Int) = (r2 : Int) := by rw [Int.tmod_eq_emod_of_nonneg (by omega)]; exact e2
        have HB := Lib.hid hcell; have HW := Lib.hid hw; have HH := Lib.hid h; clear hcell hw h hy1 hy2 hlen
        go_enter Tryz.func26, Tryz.ntmps26
        go_wp2
        go_region
        all_goals go_wp2
        all_goals
          go_ret
          have hd0 : (0 : Int) ≤ (p : Int) / (m : Int) := Int.ediv_nonneg (by omega) (by omega)
          have hd1 : (p : Int) / (m : Int) ≤ p := Int.ediv_le_self _ (by omega)
          generalize (p : Int) / (m : Int) = d at hd0 hd1 ⊢
          have hX0 : 0 ≤ wrap64 (y1 * 131 + y2 * 1117 + ↑p * 29 + wrap64 (wrap64 d * 53)) ∧ wrap64 (y1 * 131 + y2 * 1117 + ↑p * 29 + wrap64 (wrap64 d * 53)) ≤ 1000000000000 := by
            rw [wrap64_id (x := d) hd0 (by omega), wrap64_id (x := d * 53) (by omega) (by omega), wrap64_id (by omega) (by omega)]
            omega
          obtain ⟨k1, k2⟩ := pick_fin _ n hX0.1 hX0.2
          exact ⟨_, rfl, k1, k2, (grown_set _ _ _ _).trans (grown_drew _ _), _, _, _, _, HW.out.below (Below.drew (Below.refl _ _)) HW.out.blk.lt⟩
end Go.Proofs.YtcomdkmglihdbaaGreatDoor
