/- The program's way to take a pack's text apart: impl.splitPack. -/
import Derived.Test.YtcomdkmglihdbaaGreatDoorPackPA
import Derived.Deep.RegionHeld3
import Derived.BigQuiet
import Derived.Deep.CutBlock
namespace Go.Proofs.YtcomdkmglihdbaaGreatDoor
open Go.RowKit
set_option linter.unusedSimpArgs false
set_option linter.unusedVariables false

def SplitPost (text : List UInt8) (w : World) (e : Ending) (w' : World) : Prop :=
  Below w.heap.size w w' ∧ ((∃ p : Pk, SplitTo text p ∧ e = .returned (.tuple #[.agg #[.int .i64 p.e, .string ⟨p.r.toArray⟩, .string ⟨p.c.toArray⟩], .nilIface])) ∨
    ((¬ ∃ p : Pk, SplitTo text p) ∧ ∃ a : Addr, e = .returned (.tuple #[.agg #[.int .i64 0, .string ⟨#[]⟩, .string ⟨#[]⟩], .iface 68 (.pointer (some a))])))

/-- How things stand at a round's head. -/
def SpSt (text : List UInt8) (gr g5 g6 g7 k : Nat) (b : Value) (wr : World) : Prop :=
  (b = .bool true ∧ ∃ (e n m : Int) (rest : List UInt8), Stage text k e n m rest ∧ Blk wr gr 91 #[.string ⟨rest.toArray⟩] ∧ Blk wr g5 24 #[.int .i64 e, .string ⟨#[]⟩, .string ⟨#[]⟩] ∧ Blk wr g6 3 #[.int .i64 n] ∧ Blk wr g7 3 #[.int .i64 m]) ∨
  (b = .bool false ∧ ¬ ∃ p, SplitTo text p)

theorem setCell_one {w : World} {g : Nat} {t : TypeId} {v : Value} (h : Blk w g t #[v]) : w.setCell ⟨g, 0, none⟩ v = w := by
  unfold World.setCell
  have e : (w.heap.modify g fun
      | .cells c elem frozen => .cells (c.setIfInBounds 0 v) elem frozen
      | o => o) = w.heap := by
    apply Array.ext_getElem?
    intro i
    rw [Array.getElem?_modify]
    split
    · rename_i hi
      subst hi
      rw [show w.heap[g]? = some (.cells #[v] t (0, 0)) from h]
      rfl
    · rfl
  cases w
  simp only at e ⊢
  simp only [Option.isSome_none, Bool.false_eq_true, if_false]
  congr 1
theorem skip_cases (s p : List UInt8) : ∃ (b : Bool) (t : List UInt8), (∀ (g : Nat) (w : World), Blk w g 91 #[.string ⟨s.toArray⟩] →
    Calls Tryz.prog 56 #[.pointer (some ⟨g, 0, none⟩), .string ⟨p.toArray⟩] w fun e w' => e = .returned (.bool b) ∧ w' = w.setCell ⟨g, 0, none⟩ (.string ⟨t.toArray⟩)) ∧
    (b = true → s = p ++ t) ∧ (b = false → ¬ ∃ t, s = p ++ t) := by
  by_cases h : ∃ t, s = p ++ t
  · obtain ⟨t, h⟩ := h
    exact ⟨true, t, fun g w hb => skip_yes ⟨s.toArray⟩ ⟨p.toArray⟩ t g 0 w (hb.cell 0) (hb.frozen 0) h, fun _ => h, fun h => by cases h⟩
  · exact ⟨false, s, fun g w hb => skip_no ⟨s.toArray⟩ ⟨p.toArray⟩ g 0 w (hb.cell 0) (hb.frozen 0) h, (fun h => by cases h), fun _ => h⟩
theorem number_cases (most : Int) (s : List UInt8) (hs : s.length ≤ 1048576) (h0 : 0 ≤ most) (h1 : most ≤ 4294967295) : ∃ (b : Bool) (v : Int) (t : List UInt8), (∀ (g : Nat) (w : World), Blk w g 91 #[.string ⟨s.toArray⟩] →
    Calls Tryz.prog 57 #[.pointer (some ⟨g, 0, none⟩), .int .i64 most] w fun e w' => e = .returned (.tuple #[.int .i64 v, .bool b]) ∧ w' = w.setCell ⟨g, 0, none⟩ (.string ⟨t.toArray⟩)) ∧
    (b = true → NumAt most s v t) ∧ (b = false → ¬ ∃ v t, NumAt most s v t) := by
  by_cases h : ∃ v t, NumAt most s v t
  · obtain ⟨v, t, h⟩ := h
    refine ⟨true, v, t, fun g w hb => ?_, fun _ => h, fun h => by cases h⟩
    refine (number_any most ⟨s.toArray⟩ g 0 w (hb.cell 0) (hb.frozen 0) (by rw [show (⟨s.toArray⟩ : ByteArray).size = s.length by simp [ByteArray.size]]; omega) h0 h1).mono fun e w' hp => ?_
    rcases hp with ⟨v', r, h2, rfl, rfl⟩ | ⟨h2, _⟩
    · obtain ⟨rfl, rfl⟩ := h.unique h2
      exact ⟨rfl, rfl⟩
    · exact absurd ⟨v, t, h⟩ h2
  · refine ⟨false, 0, s, fun g w hb => ?_, (fun h => by cases h), fun _ => h⟩
    refine (number_any most ⟨s.toArray⟩ g 0 w (hb.cell 0) (hb.frozen 0) (by rw [show (⟨s.toArray⟩ : ByteArray).size = s.length by simp [ByteArray.size]]; omega) h0 h1).mono fun e w' hp => ?_
    rcases hp with ⟨v', r, h2, _⟩ | ⟨_, rfl, rfl | rfl⟩
    · exact absurd ⟨v', r, h2⟩ h
    · exact ⟨rfl, (setCell_one hb).symm⟩
    · exact ⟨rfl, rfl⟩
theorem lines_cases (n : Nat) (s : List UInt8) (hs : s.length ≤ 1048576) (hn : n ≤ 1048576) : ∃ (b : Bool) (r t : List UInt8), (∀ (g : Nat) (w : World), Blk w g 91 #[.string ⟨s.toArray⟩] →
    Calls Tryz.prog 58 #[.pointer (some ⟨g, 0, none⟩), .int .i64 n] w fun e w' => e = .returned (.tuple #[.string ⟨r.toArray⟩, .bool b]) ∧ w' = w.setCell ⟨g, 0, none⟩ (.string ⟨t.toArray⟩)) ∧
    (b = true → TakeL n s r t) ∧ (b = false → ¬ ∃ r t, TakeL n s r t) := by
  by_cases h : ∃ r t, TakeL n s r t
  · obtain ⟨r, t, h⟩ := h
    refine ⟨true, r, t, fun g w hb => ?_, fun _ => h, fun h => by cases h⟩
    refine (lines_any n ⟨s.toArray⟩ g 0 w (hb.cell 0) (hb.frozen 0) (by rw [show (⟨s.toArray⟩ : ByteArray).size = s.length by simp [ByteArray.size]]; omega) hn).mono fun e w' hp => ?_
    rcases hp with ⟨r', t', h2, rfl, rfl⟩ | ⟨h2, _⟩
    · obtain ⟨rfl, rfl⟩ := h.unique h2
      exact ⟨rfl, rfl⟩
    · exact absurd ⟨r, t, h⟩ h2
  · refine ⟨false, [], s, fun g w hb => ?_, (fun h => by cases h), fun _ => h⟩
    refine (lines_any n ⟨s.toArray⟩ g 0 w (hb.cell 0) (hb.frozen 0) (by rw [show (⟨s.toArray⟩ : ByteArray).size = s.length by simp [ByteArray.size]]; omega) hn).mono fun e w' hp => ?_
    rcases hp with ⟨r', t', h2, _⟩ | ⟨_, rfl, rfl⟩
    · exact absurd ⟨r', t', h2⟩ h
    · exact ⟨rfl, (setCell_one hb).symm⟩
theorem Blk.at1 (w : World) (o : Obj) (t : TypeId) (cs : Array Value) : Blk ((w.alloc o).alloc (.cells cs t)) (w.heap.size + 1) t cs := by
  have := Blk.new (w.alloc o) t cs
  rwa [World.size_alloc] at this

set_option maxRecDepth 100000 in
set_option maxHeartbeats 4000000 in
theorem splitPack_any (text : List UInt8) (w : World) (ht : text.length ≤ 1048576) :
    Calls Tryz.prog 43 #[.string ⟨text.toArray⟩] w (SplitPost text w) := by
  obtain ⟨W5, hW5⟩ : ∃ W, W = ((((w.alloc (.cells #[.int .i64 0, .string ⟨#[]⟩, .string ⟨#[]⟩] 24)).alloc (.cells #[.string ⟨text.toArray⟩] 91)).alloc (.cells #[.int .i64 0, .string ⟨#[]⟩, .string ⟨#[]⟩] 24)).alloc (.cells #[.int .i64 0] 3)).alloc (.cells #[.int .i64 0] 3) := ⟨_, rfl⟩
  have B2 : Hid (Blk W5 w.heap.size 24 #[.int .i64 0, .string ⟨#[]⟩, .string ⟨#[]⟩]) := by rw [hW5]; exact Lib.hid (((((Blk.new _ _ _).alloc _).alloc _).alloc _).alloc _)
  have BR : Hid (Blk W5 (w.heap.size + 1) 91 #[.string ⟨text.toArray⟩]) := by rw [hW5]; exact Lib.hid ((((Blk.at1 _ _ _ _).alloc _).alloc _).alloc _)
  have B5 : Hid (Blk W5 (w.heap.size + 1 + 1) 24 #[.int .i64 0, .string ⟨#[]⟩, .string ⟨#[]⟩]) := by
    rw [hW5]
    have h := Blk.at1 (w.alloc (.cells #[.int .i64 0, .string ⟨#[]⟩, .string ⟨#[]⟩] 24)) (.cells #[.string ⟨text.toArray⟩] 91) 24 #[.int .i64 0, .string ⟨#[]⟩, .string ⟨#[]⟩]
    rw [World.size_alloc] at h
    exact Lib.hid ((h.alloc _).alloc _)
  have B6 : Hid (Blk W5 (w.heap.size + 1 + 1 + 1) 3 #[.int .i64 0]) := by
    rw [hW5]
    have h := Blk.at1 ((w.alloc (.cells #[.int .i64 0, .string ⟨#[]⟩, .string ⟨#[]⟩] 24)).alloc (.cells #[.string ⟨text.toArray⟩] 91)) (.cells #[.int .i64 0, .string ⟨#[]⟩, .string ⟨#[]⟩] 24) 3 #[.int .i64 0]
    rw [World.size_alloc, World.size_alloc] at h
    exact Lib.hid (h.alloc _)
  have B7 : Hid (Blk W5 (w.heap.size + 1 + 1 + 1 + 1) 3 #[.int .i64 0]) := by
    rw [hW5]
    have h := Blk.at1 (((w.alloc (.cells #[.int .i64 0, .string ⟨#[]⟩, .string ⟨#[]⟩] 24)).alloc (.cells #[.string ⟨text.toArray⟩] 91)).alloc (.cells #[.int .i64 0, .string ⟨#[]⟩, .string ⟨#[]⟩] 24)) (.cells #[.int .i64 0] 3) 3 #[.int .i64 0]
    rw [World.size_alloc, World.size_alloc, World.size_alloc] at h
    exact Lib.hid h
  have b5 : Hid (Below w.heap.size w W5) := by rw [hW5]; exact Lib.hid (by go_grown)
  obtain ⟨b0, t0, hsk, hy, hn⟩ := skip_cases text pkW
  have HSK := Lib.hid hsk
  have HST0 : Hid (∀ W, Blk W (w.heap.size + 1) 91 #[.string ⟨t0.toArray⟩] → Blk W (w.heap.size + 1 + 1) 24 #[.int .i64 0, .string ⟨#[]⟩, .string ⟨#[]⟩] → Blk W (w.heap.size + 1 + 1 + 1) 3 #[.int .i64 0] → Blk W (w.heap.size + 1 + 1 + 1 + 1) 3 #[.int .i64 0] → SpSt text (w.heap.size + 1) (w.heap.size + 1 + 1) (w.heap.size + 1 + 1 + 1) (w.heap.size + 1 + 1 + 1 + 1) 0 (.bool b0) W) := Lib.hid (fun W h1 h2 h3 h4 => by
    cases b0 with
    | true => exact .inl ⟨rfl, 0, 0, 0, t0, stage_start (hy rfl), h1, h2, h3, h4⟩
    | false => exact .inr ⟨rfl, start_no (hn rfl)⟩)
  have HW5 := Lib.hid hW5
  clear hsk hy hn hW5
  go_enter Tryz.func43, Tryz.ntmps43
  go_wp2_with fail
  rw [← HW5.out]
  obtain ⟨g2, hg2⟩ : ∃ g, g = w.heap.size := ⟨_, rfl⟩
  obtain ⟨gr, hgr⟩ : ∃ g, g = w.heap.size + 1 := ⟨_, rfl⟩
  obtain ⟨g5, hg5⟩ : ∃ g, g = w.heap.size + 1 + 1 := ⟨_, rfl⟩
  obtain ⟨g6, hg6⟩ : ∃ g, g = w.heap.size + 1 + 1 + 1 := ⟨_, rfl⟩
  obtain ⟨g7, hg7⟩ : ∃ g, g = w.heap.size + 1 + 1 + 1 + 1 := ⟨_, rfl⟩
  rw [← hg7] at B7 HST0 ⊢
  rw [← hg6] at B6 HST0 ⊢
  rw [← hg5] at B5 HST0 ⊢
  rw [← hgr] at BR HST0 ⊢
  have HGE := Lib.hid (show w.heap.size ≤ g2 ∧ w.heap.size ≤ gr ∧ w.heap.size ≤ g5 ∧ w.heap.size ≤ g6 ∧ w.heap.size ≤ g7 by omega)
  have HNE := Lib.hid (show (g2 ≠ gr ∧ g2 ≠ g5 ∧ g2 ≠ g6 ∧ g2 ≠ g7) ∧ (gr ≠ g5 ∧ gr ≠ g6 ∧ gr ≠ g7) ∧ g5 ≠ g6 ∧ g5 ≠ g7 ∧ g6 ≠ g7 by omega)
  rw [show Value.pointer (some ⟨w.heap.size, 0, none⟩) = Value.pointer (some ⟨g2, 0, none⟩) by rw [hg2]]
  rw [show Hid (Blk W5 w.heap.size 24 #[.int .i64 0, .string ⟨#[]⟩, .string ⟨#[]⟩]) = Hid (Blk W5 g2 24 #[.int .i64 0, .string ⟨#[]⟩, .string ⟨#[]⟩]) by rw [hg2]] at B2
  clear hg2 hgr hg5 hg6 hg7 HW5
  refine (HSK.out _ _ BR.out).mono ?_; rintro e w6 ⟨rfl, hw6⟩
  have C2 := Lib.hid (show Blk w6 g2 24 #[.int .i64 0, .string ⟨#[]⟩, .string ⟨#[]⟩] by rw [hw6]; exact B2.out.far HNE.out.1.1 _)
  have CS := Lib.hid (show SpSt text gr g5 g6 g7 0 (.bool b0) w6 by
    rw [hw6]
    obtain ⟨n1, n2, n3⟩ := HNE.out.2.1
    exact HST0.out _ (BR.out.set_ 0 _) (B5.out.far n1.symm _) (B6.out.far n2.symm _) (B7.out.far n3.symm _))
  have CB := Lib.hid (show Below w.heap.size w w6 by rw [hw6]; exact b5.out.setCell HGE.out.2.1 _)
  have HLL : g2 < w6.heap.size ∧ gr < w6.heap.size ∧ g5 < w6.heap.size ∧ g6 < w6.heap.size ∧ g7 < w6.heap.size := by
    rw [hw6]
    obtain ⟨n1, n2, n3⟩ := HNE.out.2.1
    exact ⟨(B2.out.far HNE.out.1.1 _).lt, (BR.out.set_ 0 _).lt, (B5.out.far n1.symm _).lt, (B6.out.far n2.symm _).lt, (B7.out.far n3.symm _).lt⟩
  clear hw6 B2 BR B5 B6 B7 b5 HST0 HSK
  have HL6 := Lib.hid HLL
  clear HLL
  obtain ⟨w7, hw7⟩ : ∃ X, X = w6.alloc (.cells #[.pointer (some ⟨g5, 0, none⟩), .int .i64 99, .string ⟨#[32]⟩, .pointer (some ⟨g6, 0, none⟩), .int .i64 900, .string ⟨#[32]⟩, .pointer (some ⟨g7, 0, none⟩), .int .i64 2600, .string ⟨#[10]⟩] 94) := ⟨_, rfl⟩
  obtain ⟨gp, hgp⟩ : ∃ g, g = w6.heap.size := ⟨_, rfl⟩
  have D2 : Hid (Blk w7 g2 24 #[.int .i64 0, .string ⟨#[]⟩, .string ⟨#[]⟩]) := by rw [hw7]; exact Lib.hid (C2.out.alloc _)
  have DP : Hid (Blk w7 gp 94 #[.pointer (some ⟨g5, 0, none⟩), .int .i64 99, .string ⟨#[32]⟩, .pointer (some ⟨g6, 0, none⟩), .int .i64 900, .string ⟨#[32]⟩, .pointer (some ⟨g7, 0, none⟩), .int .i64 2600, .string ⟨#[10]⟩]) := by rw [hw7, hgp]; exact Lib.hid (Blk.new _ _ _)
  have DB : Hid (Below w.heap.size w w7) := by rw [hw7]; exact Lib.hid (CB.out.alloc CB.out.size _)
  have DS : Hid (SpSt text gr g5 g6 g7 0 (.bool b0) w7) := Lib.hid (by
    rw [hw7]
    rcases CS.out with ⟨a, e, n, m, rest, h1, h2, h3, h4, h5⟩ | h
    · exact .inl ⟨a, e, n, m, rest, h1, h2.alloc _, h3.alloc _, h4.alloc _, h5.alloc _⟩
    · exact .inr h)
  have HNP := Lib.hid (show gp ≠ g2 ∧ gp ≠ gr ∧ gp ≠ g5 ∧ gp ≠ g6 ∧ gp ≠ g7 by have := HL6.out; omega)
  have HW7 := Lib.hid hw7; have HGP := Lib.hid hgp
  clear hw7 hgp
  go_wp2_with fail
  rw [← HW7.out, ← HGP.out]
  have HGPG := Lib.hid (show w.heap.size ≤ gp by have h1 := CB.out.size; have h2 := HGP.out; omega)
  clear HW7 HGP C2 CS CB HL6
  go_loopw [8, 22] (fun b i wr => ∃ k : Nat, k ≤ 3 ∧ i = .int .i64 k ∧ Hid (Blk wr g2 24 #[.int .i64 0, .string ⟨#[]⟩, .string ⟨#[]⟩]) ∧ Hid (Blk wr gp 94 #[.pointer (some ⟨g5, 0, none⟩), .int .i64 99, .string ⟨#[32]⟩, .pointer (some ⟨g6, 0, none⟩), .int .i64 900, .string ⟨#[32]⟩, .pointer (some ⟨g7, 0, none⟩), .int .i64 2600, .string ⟨#[10]⟩]) ∧ Hid (Below w.heap.size w wr) ∧ Hid (SpSt text gr g5 g6 g7 k b wr)) (fun _ i _ => 3 - (intOf i).toNat)
  case atStart => exact ⟨0, by omega, rfl, D2, DP, DB, DS⟩
  case round =>
    clear D2 DP DB DS
    obtain ⟨k, hk, rfl, C2, CP, CB, CS⟩ := hrel
    rcases CS.out with ⟨rfl, e, n, m, rest, hst, hbr, hb5, hb6, hb7⟩ | ⟨rfl, hno⟩
    · have HS := Lib.hid hst; have BR := Lib.hid hbr; have B5 := Lib.hid hb5; have B6 := Lib.hid hb6; have B7 := Lib.hid hb7
      clear CS hst hbr hb5 hb6 hb7
      obtain rfl | rfl | rfl | rfl : k = 0 ∨ k = 1 ∨ k = 2 ∨ k = 3 := by omega
      · -- round 0
        have p0 : wr.cell? ⟨gp, 0, none⟩ = some (.pointer (some ⟨g5, 0, none⟩)) := CP.out.cell 0
        have p1 : wr.cell? ⟨gp, 1, none⟩ = some (.int .i64 99) := CP.out.cell 1
        have p2 : wr.cell? ⟨gp, 2, none⟩ = some (.string ⟨#[32]⟩) := CP.out.cell 2
        obtain ⟨X, hX⟩ : ∃ X, X = wr.alloc (.cells #[.pointer (some ⟨g5, 0, none⟩), .int .i64 99, .string ⟨#[32]⟩] 94) := ⟨_, rfl⟩
        obtain ⟨gt, hgt⟩ : ∃ g, g = wr.heap.size := ⟨_, rfl⟩
        have BT : Hid (Blk X gt 94 #[.pointer (some ⟨g5, 0, none⟩), .int .i64 99, .string ⟨#[32]⟩]) := by rw [hX, hgt]; exact Lib.hid (Blk.new _ _ _)
        have BXR : Hid (Blk X gr 91 #[.string ⟨rest.toArray⟩]) := by rw [hX]; exact Lib.hid (BR.out.alloc _)
        have BX2 : Hid (Blk X g2 24 #[.int .i64 0, .string ⟨#[]⟩, .string ⟨#[]⟩]) := by rw [hX]; exact Lib.hid (C2.out.alloc _)
        have BXP : Hid (Blk X gp 94 #[.pointer (some ⟨g5, 0, none⟩), .int .i64 99, .string ⟨#[32]⟩, .pointer (some ⟨g6, 0, none⟩), .int .i64 900, .string ⟨#[32]⟩, .pointer (some ⟨g7, 0, none⟩), .int .i64 2600, .string ⟨#[10]⟩]) := by rw [hX]; exact Lib.hid (CP.out.alloc _)
        have BX5 : Hid (Blk X g5 24 #[.int .i64 e, .string ⟨#[]⟩, .string ⟨#[]⟩]) := by rw [hX]; exact Lib.hid (B5.out.alloc _)
        have BX6 : Hid (Blk X g6 3 #[.int .i64 n]) := by rw [hX]; exact Lib.hid (B6.out.alloc _)
        have BX7 : Hid (Blk X g7 3 #[.int .i64 m]) := by rw [hX]; exact Lib.hid (B7.out.alloc _)
        have HBX : Hid (Below w.heap.size w X) := by rw [hX]; exact Lib.hid (CB.out.alloc CB.out.size _)
        have HTG := Lib.hid (show gt ≠ g2 ∧ gt ≠ gr ∧ gt ≠ gp ∧ gt ≠ g5 ∧ gt ≠ g6 ∧ gt ≠ g7 by
          have a := C2.out.lt; have b := BR.out.lt; have c := CP.out.lt; have d := B5.out.lt; have f := B6.out.lt; have g := B7.out.lt; omega)
        have hge : w.heap.size ≤ gt := by have := CB.out.size; omega
        have HGT := Lib.hid hge
        have HX := Lib.hid hX; have HGT2 := Lib.hid hgt
        obtain ⟨b1, v1, t1, hnu, hy1, hn1⟩ := number_cases 99 rest (by have := stage_len HS.out; omega) (by omega) (by omega)
        have HNU := Lib.hid hnu; have HY1 := Lib.hid hy1; have HN1 := Lib.hid hn1
        clear hX hgt hge hnu hy1 hn1
        go_wp2_with fail
        rw [← HX.out, ← HGT2.out]
        clear p0 p1 p2
        have q0 := (show _ = some (Value.pointer (some ⟨g5, 0, none⟩)) from BT.out.cell 0)
        have q1 := (show _ = some (Value.int .i64 99) from BT.out.cell 1)
        obtain ⟨ng2, ngr, ngp, ng5, ng6, ng7⟩ := HTG.out
        obtain ⟨⟨n2r, n25, n26, n27⟩, ⟨nr5, nr6, nr7⟩, n56, n57, n67⟩ := HNE.out
        obtain ⟨np2, npr, np5, np6, np7⟩ := HNP.out
        have r0 : (X.setCell ⟨gr, 0, none⟩ (.string ⟨t1.toArray⟩)).drew.cell? ⟨gt, 0, none⟩ = some (.pointer (some ⟨g5, 0, none⟩)) := Blk.cell (w := (X.setCell ⟨gr, 0, none⟩ (.string ⟨t1.toArray⟩)).drew) (BT.out.far (p := ⟨gr, 0, none⟩) ngr (.string ⟨t1.toArray⟩)) 0
        have r1 : (X.setCell ⟨gr, 0, none⟩ (.string ⟨t1.toArray⟩)).drew.cell? ⟨gt, 1, none⟩ = some (.int .i64 99) := Blk.cell (w := (X.setCell ⟨gr, 0, none⟩ (.string ⟨t1.toArray⟩)).drew) (BT.out.far (p := ⟨gr, 0, none⟩) ngr (.string ⟨t1.toArray⟩)) 1
        have s0 : ((X.setCell ⟨gr, 0, none⟩ (.string ⟨t1.toArray⟩)).setCell ⟨g5, 0, none⟩ (.int .i64 v1)).drew.cell? ⟨gt, 0, none⟩ = some (.pointer (some ⟨g5, 0, none⟩)) := Blk.cell (w := ((X.setCell ⟨gr, 0, none⟩ (.string ⟨t1.toArray⟩)).setCell ⟨g5, 0, none⟩ (.int .i64 v1)).drew) ((BT.out.far (p := ⟨gr, 0, none⟩) ngr (.string ⟨t1.toArray⟩)).far (p := ⟨g5, 0, none⟩) ng5 (.int .i64 v1)) 0
        have s1 : ((X.setCell ⟨gr, 0, none⟩ (.string ⟨t1.toArray⟩)).setCell ⟨g5, 0, none⟩ (.int .i64 v1)).drew.cell? ⟨gt, 1, none⟩ = some (.int .i64 99) := Blk.cell (w := ((X.setCell ⟨gr, 0, none⟩ (.string ⟨t1.toArray⟩)).setCell ⟨g5, 0, none⟩ (.int .i64 v1)).drew) ((BT.out.far (p := ⟨gr, 0, none⟩) ngr (.string ⟨t1.toArray⟩)).far (p := ⟨g5, 0, none⟩) ng5 (.int .i64 v1)) 1
        have x0 : ∃ v, X.cell? ⟨g5, 0, none⟩ = some v := ⟨_, BX5.out.cell 0⟩
        obtain ⟨xv, x0⟩ := x0
        have xf := BX5.out.frozen 0
        go_region_held3 (fun w' => w'.cell? ⟨gt, 0, none⟩ = some (.pointer (some ⟨g5, 0, none⟩)) ∧ w'.cell? ⟨gt, 1, none⟩ = some (.int .i64 99)) (first | exact ⟨q0, q1⟩ | exact ⟨r0, r1⟩ | exact ⟨s0, s1⟩) ((go_at_call 57; refine (HNU.out gr _ (by exact BXR.out)).mono ?_; rintro e9 w9 ⟨rfl, rfl⟩))
        clear q0 q1 r0 r1 s0 s1 x0 xf
        obtain ⟨Y, hY⟩ : ∃ Y, Y = ((X.setCell ⟨gr, 0, none⟩ (.string ⟨t1.toArray⟩)).setCell ⟨g5, 0, none⟩ (.int .i64 v1)).drew := ⟨_, rfl⟩
        have Y2 : Hid (Blk Y g2 24 #[.int .i64 0, .string ⟨#[]⟩, .string ⟨#[]⟩]) := by rw [hY]; exact Lib.hid (Blk.drew ((BX2.out.far (p := ⟨gr, 0, none⟩) n2r (.string ⟨t1.toArray⟩)).far (p := ⟨g5, 0, none⟩) n25 (.int .i64 v1)))
        have YP : Hid (Blk Y gp 94 #[.pointer (some ⟨g5, 0, none⟩), .int .i64 99, .string ⟨#[32]⟩, .pointer (some ⟨g6, 0, none⟩), .int .i64 900, .string ⟨#[32]⟩, .pointer (some ⟨g7, 0, none⟩), .int .i64 2600, .string ⟨#[10]⟩]) := by rw [hY]; exact Lib.hid (Blk.drew ((BXP.out.far (p := ⟨gr, 0, none⟩) npr (.string ⟨t1.toArray⟩)).far (p := ⟨g5, 0, none⟩) np5 (.int .i64 v1)))
        have YT : Hid (Blk Y gt 94 #[.pointer (some ⟨g5, 0, none⟩), .int .i64 99, .string ⟨#[32]⟩]) := by rw [hY]; exact Lib.hid (Blk.drew ((BT.out.far (p := ⟨gr, 0, none⟩) ngr (.string ⟨t1.toArray⟩)).far (p := ⟨g5, 0, none⟩) ng5 (.int .i64 v1)))
        have YR : Hid (Blk Y gr 91 #[.string ⟨t1.toArray⟩]) := by rw [hY]; exact Lib.hid (Blk.drew ((BXR.out.set_ 0 (.string ⟨t1.toArray⟩)).far (p := ⟨g5, 0, none⟩) nr5 (.int .i64 v1)))
        have Y5 : Hid (Blk Y g5 24 #[.int .i64 (eOf 0 e v1), .string ⟨#[]⟩, .string ⟨#[]⟩]) := by rw [hY]; exact Lib.hid (Blk.drew ((BX5.out.far (p := ⟨gr, 0, none⟩) (Ne.symm nr5) (.string ⟨t1.toArray⟩)).set_ 0 (.int .i64 v1)))
        have Y6 : Hid (Blk Y g6 3 #[.int .i64 (nOf 0 n v1)]) := by rw [hY]; exact Lib.hid (Blk.drew ((BX6.out.far (p := ⟨gr, 0, none⟩) (Ne.symm nr6) (.string ⟨t1.toArray⟩)).far (p := ⟨g5, 0, none⟩) (Ne.symm n56) (.int .i64 v1)))
        have Y7 : Hid (Blk Y g7 3 #[.int .i64 (mOf 0 m v1)]) := by rw [hY]; exact Lib.hid (Blk.drew ((BX7.out.far (p := ⟨gr, 0, none⟩) (Ne.symm nr7) (.string ⟨t1.toArray⟩)).far (p := ⟨g5, 0, none⟩) (Ne.symm n57) (.int .i64 v1)))
        have YB : Hid (Below w.heap.size w Y) := by rw [hY]; exact Lib.hid (((HBX.out.setCell HGE.out.2.1 _).setCell HGE.out.2.2.1 _).drew)
        have HY := Lib.hid hY
        clear hY
        rw [← HY.out]
        cases b1 with
        | false =>
          have HNO := Lib.hid (stage_no (by omega) HS.out (fun ⟨v, t, h⟩ => HN1.out rfl ⟨v, _, h⟩))
          go_wp2
          exact ⟨⟨0 + 1, by omega, by go_num, Y2, YP, YB, Lib.hid (.inr ⟨rfl, HNO.out⟩)⟩, by simp [intOf]⟩
        | true =>
          obtain ⟨b2, t2, hsk2, hy2, hn2⟩ := skip_cases t1 [32]
          have HSK2 := Lib.hid hsk2; have HY2 := Lib.hid hy2; have HN2 := Lib.hid hn2
          have u2 : Y.cell? ⟨gt, 2, none⟩ = some (.string ⟨#[32]⟩) := YT.out.cell 2
          clear hsk2 hy2 hn2
          go_wp2_with fail
          refine (HSK2.out gr _ YR.out).mono ?_; rintro e9 w9 ⟨rfl, rfl⟩
          clear u2
          go_wp2
          refine ⟨⟨0 + 1, by omega, by go_num, Lib.hid (Y2.out.far (p := ⟨gr, 0, none⟩) n2r _), Lib.hid (YP.out.far (p := ⟨gr, 0, none⟩) npr _), Lib.hid (YB.out.setCell (p := ⟨gr, 0, none⟩) HGE.out.2.1 _), Lib.hid ?_⟩, by simp [intOf]⟩
          cases b2 with
          | true =>
            have e2 := HY2.out rfl
            exact .inl ⟨rfl, _, _, _, t2, stage_next (by omega) HS.out (by have := HY1.out (by first | rfl | trivial); rw [e2] at this; exact this), YR.out.set_ 0 _, Y5.out.far (p := ⟨gr, 0, none⟩) (Ne.symm nr5) _, Y6.out.far (p := ⟨gr, 0, none⟩) (Ne.symm nr6) _, Y7.out.far (p := ⟨gr, 0, none⟩) (Ne.symm nr7) _⟩
          | false => exact .inr ⟨rfl, stage_no (by omega) HS.out (part_no (HY1.out (by first | rfl | trivial)) (HN2.out rfl))⟩
      · -- round 1
        have p0 : wr.cell? ⟨gp, 3, none⟩ = some (.pointer (some ⟨g6, 0, none⟩)) := CP.out.cell 3
        have p1 : wr.cell? ⟨gp, 4, none⟩ = some (.int .i64 900) := CP.out.cell 4
        have p2 : wr.cell? ⟨gp, 5, none⟩ = some (.string ⟨#[32]⟩) := CP.out.cell 5
        obtain ⟨X, hX⟩ : ∃ X, X = wr.alloc (.cells #[.pointer (some ⟨g6, 0, none⟩), .int .i64 900, .string ⟨#[32]⟩] 94) := ⟨_, rfl⟩
        obtain ⟨gt, hgt⟩ : ∃ g, g = wr.heap.size := ⟨_, rfl⟩
        have BT : Hid (Blk X gt 94 #[.pointer (some ⟨g6, 0, none⟩), .int .i64 900, .string ⟨#[32]⟩]) := by rw [hX, hgt]; exact Lib.hid (Blk.new _ _ _)
        have BXR : Hid (Blk X gr 91 #[.string ⟨rest.toArray⟩]) := by rw [hX]; exact Lib.hid (BR.out.alloc _)
        have BX2 : Hid (Blk X g2 24 #[.int .i64 0, .string ⟨#[]⟩, .string ⟨#[]⟩]) := by rw [hX]; exact Lib.hid (C2.out.alloc _)
        have BXP : Hid (Blk X gp 94 #[.pointer (some ⟨g5, 0, none⟩), .int .i64 99, .string ⟨#[32]⟩, .pointer (some ⟨g6, 0, none⟩), .int .i64 900, .string ⟨#[32]⟩, .pointer (some ⟨g7, 0, none⟩), .int .i64 2600, .string ⟨#[10]⟩]) := by rw [hX]; exact Lib.hid (CP.out.alloc _)
        have BX5 : Hid (Blk X g5 24 #[.int .i64 e, .string ⟨#[]⟩, .string ⟨#[]⟩]) := by rw [hX]; exact Lib.hid (B5.out.alloc _)
        have BX6 : Hid (Blk X g6 3 #[.int .i64 n]) := by rw [hX]; exact Lib.hid (B6.out.alloc _)
        have BX7 : Hid (Blk X g7 3 #[.int .i64 m]) := by rw [hX]; exact Lib.hid (B7.out.alloc _)
        have HBX : Hid (Below w.heap.size w X) := by rw [hX]; exact Lib.hid (CB.out.alloc CB.out.size _)
        have HTG := Lib.hid (show gt ≠ g2 ∧ gt ≠ gr ∧ gt ≠ gp ∧ gt ≠ g5 ∧ gt ≠ g6 ∧ gt ≠ g7 by
          have a := C2.out.lt; have b := BR.out.lt; have c := CP.out.lt; have d := B5.out.lt; have f := B6.out.lt; have g := B7.out.lt; omega)
        have hge : w.heap.size ≤ gt := by have := CB.out.size; omega
        have HGT := Lib.hid hge
        have HX := Lib.hid hX; have HGT2 := Lib.hid hgt
        obtain ⟨b1, v1, t1, hnu, hy1, hn1⟩ := number_cases 900 rest (by have := stage_len HS.out; omega) (by omega) (by omega)
        have HNU := Lib.hid hnu; have HY1 := Lib.hid hy1; have HN1 := Lib.hid hn1
        clear hX hgt hge hnu hy1 hn1
        go_wp2_with fail
        rw [← HX.out, ← HGT2.out]
        clear p0 p1 p2
        have q0 := (show _ = some (Value.pointer (some ⟨g6, 0, none⟩)) from BT.out.cell 0)
        have q1 := (show _ = some (Value.int .i64 900) from BT.out.cell 1)
        obtain ⟨ng2, ngr, ngp, ng5, ng6, ng7⟩ := HTG.out
        obtain ⟨⟨n2r, n25, n26, n27⟩, ⟨nr5, nr6, nr7⟩, n56, n57, n67⟩ := HNE.out
        obtain ⟨np2, npr, np5, np6, np7⟩ := HNP.out
        have r0 : (X.setCell ⟨gr, 0, none⟩ (.string ⟨t1.toArray⟩)).drew.cell? ⟨gt, 0, none⟩ = some (.pointer (some ⟨g6, 0, none⟩)) := Blk.cell (w := (X.setCell ⟨gr, 0, none⟩ (.string ⟨t1.toArray⟩)).drew) (BT.out.far (p := ⟨gr, 0, none⟩) ngr (.string ⟨t1.toArray⟩)) 0
        have r1 : (X.setCell ⟨gr, 0, none⟩ (.string ⟨t1.toArray⟩)).drew.cell? ⟨gt, 1, none⟩ = some (.int .i64 900) := Blk.cell (w := (X.setCell ⟨gr, 0, none⟩ (.string ⟨t1.toArray⟩)).drew) (BT.out.far (p := ⟨gr, 0, none⟩) ngr (.string ⟨t1.toArray⟩)) 1
        have s0 : ((X.setCell ⟨gr, 0, none⟩ (.string ⟨t1.toArray⟩)).setCell ⟨g6, 0, none⟩ (.int .i64 v1)).drew.cell? ⟨gt, 0, none⟩ = some (.pointer (some ⟨g6, 0, none⟩)) := Blk.cell (w := ((X.setCell ⟨gr, 0, none⟩ (.string ⟨t1.toArray⟩)).setCell ⟨g6, 0, none⟩ (.int .i64 v1)).drew) ((BT.out.far (p := ⟨gr, 0, none⟩) ngr (.string ⟨t1.toArray⟩)).far (p := ⟨g6, 0, none⟩) ng6 (.int .i64 v1)) 0
        have s1 : ((X.setCell ⟨gr, 0, none⟩ (.string ⟨t1.toArray⟩)).setCell ⟨g6, 0, none⟩ (.int .i64 v1)).drew.cell? ⟨gt, 1, none⟩ = some (.int .i64 900) := Blk.cell (w := ((X.setCell ⟨gr, 0, none⟩ (.string ⟨t1.toArray⟩)).setCell ⟨g6, 0, none⟩ (.int .i64 v1)).drew) ((BT.out.far (p := ⟨gr, 0, none⟩) ngr (.string ⟨t1.toArray⟩)).far (p := ⟨g6, 0, none⟩) ng6 (.int .i64 v1)) 1
        have x0 : ∃ v, X.cell? ⟨g6, 0, none⟩ = some v := ⟨_, BX6.out.cell 0⟩
        obtain ⟨xv, x0⟩ := x0
        have xf := BX6.out.frozen 0
        go_region_held3 (fun w' => w'.cell? ⟨gt, 0, none⟩ = some (.pointer (some ⟨g6, 0, none⟩)) ∧ w'.cell? ⟨gt, 1, none⟩ = some (.int .i64 900)) (first | exact ⟨q0, q1⟩ | exact ⟨r0, r1⟩ | exact ⟨s0, s1⟩) ((go_at_call 57; refine (HNU.out gr _ (by exact BXR.out)).mono ?_; rintro e9 w9 ⟨rfl, rfl⟩))
        clear q0 q1 r0 r1 s0 s1 x0 xf
        obtain ⟨Y, hY⟩ : ∃ Y, Y = ((X.setCell ⟨gr, 0, none⟩ (.string ⟨t1.toArray⟩)).setCell ⟨g6, 0, none⟩ (.int .i64 v1)).drew := ⟨_, rfl⟩
        have Y2 : Hid (Blk Y g2 24 #[.int .i64 0, .string ⟨#[]⟩, .string ⟨#[]⟩]) := by rw [hY]; exact Lib.hid (Blk.drew ((BX2.out.far (p := ⟨gr, 0, none⟩) n2r (.string ⟨t1.toArray⟩)).far (p := ⟨g6, 0, none⟩) n26 (.int .i64 v1)))
        have YP : Hid (Blk Y gp 94 #[.pointer (some ⟨g5, 0, none⟩), .int .i64 99, .string ⟨#[32]⟩, .pointer (some ⟨g6, 0, none⟩), .int .i64 900, .string ⟨#[32]⟩, .pointer (some ⟨g7, 0, none⟩), .int .i64 2600, .string ⟨#[10]⟩]) := by rw [hY]; exact Lib.hid (Blk.drew ((BXP.out.far (p := ⟨gr, 0, none⟩) npr (.string ⟨t1.toArray⟩)).far (p := ⟨g6, 0, none⟩) np6 (.int .i64 v1)))
        have YT : Hid (Blk Y gt 94 #[.pointer (some ⟨g6, 0, none⟩), .int .i64 900, .string ⟨#[32]⟩]) := by rw [hY]; exact Lib.hid (Blk.drew ((BT.out.far (p := ⟨gr, 0, none⟩) ngr (.string ⟨t1.toArray⟩)).far (p := ⟨g6, 0, none⟩) ng6 (.int .i64 v1)))
        have YR : Hid (Blk Y gr 91 #[.string ⟨t1.toArray⟩]) := by rw [hY]; exact Lib.hid (Blk.drew ((BXR.out.set_ 0 (.string ⟨t1.toArray⟩)).far (p := ⟨g6, 0, none⟩) nr6 (.int .i64 v1)))
        have Y5 : Hid (Blk Y g5 24 #[.int .i64 (eOf 1 e v1), .string ⟨#[]⟩, .string ⟨#[]⟩]) := by rw [hY]; exact Lib.hid (Blk.drew ((BX5.out.far (p := ⟨gr, 0, none⟩) (Ne.symm nr5) (.string ⟨t1.toArray⟩)).far (p := ⟨g6, 0, none⟩) n56 (.int .i64 v1)))
        have Y6 : Hid (Blk Y g6 3 #[.int .i64 (nOf 1 n v1)]) := by rw [hY]; exact Lib.hid (Blk.drew ((BX6.out.far (p := ⟨gr, 0, none⟩) (Ne.symm nr6) (.string ⟨t1.toArray⟩)).set_ 0 (.int .i64 v1)))
        have Y7 : Hid (Blk Y g7 3 #[.int .i64 (mOf 1 m v1)]) := by rw [hY]; exact Lib.hid (Blk.drew ((BX7.out.far (p := ⟨gr, 0, none⟩) (Ne.symm nr7) (.string ⟨t1.toArray⟩)).far (p := ⟨g6, 0, none⟩) (Ne.symm n67) (.int .i64 v1)))
        have YB : Hid (Below w.heap.size w Y) := by rw [hY]; exact Lib.hid (((HBX.out.setCell HGE.out.2.1 _).setCell HGE.out.2.2.2.1 _).drew)
        have HY := Lib.hid hY
        clear hY
        rw [← HY.out]
        cases b1 with
        | false =>
          have HNO := Lib.hid (stage_no (by omega) HS.out (fun ⟨v, t, h⟩ => HN1.out rfl ⟨v, _, h⟩))
          go_wp2
          exact ⟨⟨1 + 1, by omega, by go_num, Y2, YP, YB, Lib.hid (.inr ⟨rfl, HNO.out⟩)⟩, by simp [intOf]⟩
        | true =>
          obtain ⟨b2, t2, hsk2, hy2, hn2⟩ := skip_cases t1 [32]
          have HSK2 := Lib.hid hsk2; have HY2 := Lib.hid hy2; have HN2 := Lib.hid hn2
          have u2 : Y.cell? ⟨gt, 2, none⟩ = some (.string ⟨#[32]⟩) := YT.out.cell 2
          clear hsk2 hy2 hn2
          go_wp2_with fail
          refine (HSK2.out gr _ YR.out).mono ?_; rintro e9 w9 ⟨rfl, rfl⟩
          clear u2
          go_wp2
          refine ⟨⟨1 + 1, by omega, by go_num, Lib.hid (Y2.out.far (p := ⟨gr, 0, none⟩) n2r _), Lib.hid (YP.out.far (p := ⟨gr, 0, none⟩) npr _), Lib.hid (YB.out.setCell (p := ⟨gr, 0, none⟩) HGE.out.2.1 _), Lib.hid ?_⟩, by simp [intOf]⟩
          cases b2 with
          | true =>
            have e2 := HY2.out rfl
            exact .inl ⟨rfl, _, _, _, t2, stage_next (by omega) HS.out (by have := HY1.out (by first | rfl | trivial); rw [e2] at this; exact this), YR.out.set_ 0 _, Y5.out.far (p := ⟨gr, 0, none⟩) (Ne.symm nr5) _, Y6.out.far (p := ⟨gr, 0, none⟩) (Ne.symm nr6) _, Y7.out.far (p := ⟨gr, 0, none⟩) (Ne.symm nr7) _⟩
          | false => exact .inr ⟨rfl, stage_no (by omega) HS.out (part_no (HY1.out (by first | rfl | trivial)) (HN2.out rfl))⟩
      · -- round 2
        have p0 : wr.cell? ⟨gp, 6, none⟩ = some (.pointer (some ⟨g7, 0, none⟩)) := CP.out.cell 6
        have p1 : wr.cell? ⟨gp, 7, none⟩ = some (.int .i64 2600) := CP.out.cell 7
        have p2 : wr.cell? ⟨gp, 8, none⟩ = some (.string ⟨#[10]⟩) := CP.out.cell 8
        obtain ⟨X, hX⟩ : ∃ X, X = wr.alloc (.cells #[.pointer (some ⟨g7, 0, none⟩), .int .i64 2600, .string ⟨#[10]⟩] 94) := ⟨_, rfl⟩
        obtain ⟨gt, hgt⟩ : ∃ g, g = wr.heap.size := ⟨_, rfl⟩
        have BT : Hid (Blk X gt 94 #[.pointer (some ⟨g7, 0, none⟩), .int .i64 2600, .string ⟨#[10]⟩]) := by rw [hX, hgt]; exact Lib.hid (Blk.new _ _ _)
        have BXR : Hid (Blk X gr 91 #[.string ⟨rest.toArray⟩]) := by rw [hX]; exact Lib.hid (BR.out.alloc _)
        have BX2 : Hid (Blk X g2 24 #[.int .i64 0, .string ⟨#[]⟩, .string ⟨#[]⟩]) := by rw [hX]; exact Lib.hid (C2.out.alloc _)
        have BXP : Hid (Blk X gp 94 #[.pointer (some ⟨g5, 0, none⟩), .int .i64 99, .string ⟨#[32]⟩, .pointer (some ⟨g6, 0, none⟩), .int .i64 900, .string ⟨#[32]⟩, .pointer (some ⟨g7, 0, none⟩), .int .i64 2600, .string ⟨#[10]⟩]) := by rw [hX]; exact Lib.hid (CP.out.alloc _)
        have BX5 : Hid (Blk X g5 24 #[.int .i64 e, .string ⟨#[]⟩, .string ⟨#[]⟩]) := by rw [hX]; exact Lib.hid (B5.out.alloc _)
        have BX6 : Hid (Blk X g6 3 #[.int .i64 n]) := by rw [hX]; exact Lib.hid (B6.out.alloc _)
        have BX7 : Hid (Blk X g7 3 #[.int .i64 m]) := by rw [hX]; exact Lib.hid (B7.out.alloc _)
        have HBX : Hid (Below w.heap.size w X) := by rw [hX]; exact Lib.hid (CB.out.alloc CB.out.size _)
        have HTG := Lib.hid (show gt ≠ g2 ∧ gt ≠ gr ∧ gt ≠ gp ∧ gt ≠ g5 ∧ gt ≠ g6 ∧ gt ≠ g7 by
          have a := C2.out.lt; have b := BR.out.lt; have c := CP.out.lt; have d := B5.out.lt; have f := B6.out.lt; have g := B7.out.lt; omega)
        have hge : w.heap.size ≤ gt := by have := CB.out.size; omega
        have HGT := Lib.hid hge
        have HX := Lib.hid hX; have HGT2 := Lib.hid hgt
        obtain ⟨b1, v1, t1, hnu, hy1, hn1⟩ := number_cases 2600 rest (by have := stage_len HS.out; omega) (by omega) (by omega)
        have HNU := Lib.hid hnu; have HY1 := Lib.hid hy1; have HN1 := Lib.hid hn1
        clear hX hgt hge hnu hy1 hn1
        go_wp2_with fail
        rw [← HX.out, ← HGT2.out]
        clear p0 p1 p2
        have q0 := (show _ = some (Value.pointer (some ⟨g7, 0, none⟩)) from BT.out.cell 0)
        have q1 := (show _ = some (Value.int .i64 2600) from BT.out.cell 1)
        obtain ⟨ng2, ngr, ngp, ng5, ng6, ng7⟩ := HTG.out
        obtain ⟨⟨n2r, n25, n26, n27⟩, ⟨nr5, nr6, nr7⟩, n56, n57, n67⟩ := HNE.out
        obtain ⟨np2, npr, np5, np6, np7⟩ := HNP.out
        have r0 : (X.setCell ⟨gr, 0, none⟩ (.string ⟨t1.toArray⟩)).drew.cell? ⟨gt, 0, none⟩ = some (.pointer (some ⟨g7, 0, none⟩)) := Blk.cell (w := (X.setCell ⟨gr, 0, none⟩ (.string ⟨t1.toArray⟩)).drew) (BT.out.far (p := ⟨gr, 0, none⟩) ngr (.string ⟨t1.toArray⟩)) 0
        have r1 : (X.setCell ⟨gr, 0, none⟩ (.string ⟨t1.toArray⟩)).drew.cell? ⟨gt, 1, none⟩ = some (.int .i64 2600) := Blk.cell (w := (X.setCell ⟨gr, 0, none⟩ (.string ⟨t1.toArray⟩)).drew) (BT.out.far (p := ⟨gr, 0, none⟩) ngr (.string ⟨t1.toArray⟩)) 1
        have s0 : ((X.setCell ⟨gr, 0, none⟩ (.string ⟨t1.toArray⟩)).setCell ⟨g7, 0, none⟩ (.int .i64 v1)).drew.cell? ⟨gt, 0, none⟩ = some (.pointer (some ⟨g7, 0, none⟩)) := Blk.cell (w := ((X.setCell ⟨gr, 0, none⟩ (.string ⟨t1.toArray⟩)).setCell ⟨g7, 0, none⟩ (.int .i64 v1)).drew) ((BT.out.far (p := ⟨gr, 0, none⟩) ngr (.string ⟨t1.toArray⟩)).far (p := ⟨g7, 0, none⟩) ng7 (.int .i64 v1)) 0
        have s1 : ((X.setCell ⟨gr, 0, none⟩ (.string ⟨t1.toArray⟩)).setCell ⟨g7, 0, none⟩ (.int .i64 v1)).drew.cell? ⟨gt, 1, none⟩ = some (.int .i64 2600) := Blk.cell (w := ((X.setCell ⟨gr, 0, none⟩ (.string ⟨t1.toArray⟩)).setCell ⟨g7, 0, none⟩ (.int .i64 v1)).drew) ((BT.out.far (p := ⟨gr, 0, none⟩) ngr (.string ⟨t1.toArray⟩)).far (p := ⟨g7, 0, none⟩) ng7 (.int .i64 v1)) 1
        have x0 : ∃ v, X.cell? ⟨g7, 0, none⟩ = some v := ⟨_, BX7.out.cell 0⟩
        obtain ⟨xv, x0⟩ := x0
        have xf := BX7.out.frozen 0
        go_region_held3 (fun w' => w'.cell? ⟨gt, 0, none⟩ = some (.pointer (some ⟨g7, 0, none⟩)) ∧ w'.cell? ⟨gt, 1, none⟩ = some (.int .i64 2600)) (first | exact ⟨q0, q1⟩ | exact ⟨r0, r1⟩ | exact ⟨s0, s1⟩) ((go_at_call 57; refine (HNU.out gr _ (by exact BXR.out)).mono ?_; rintro e9 w9 ⟨rfl, rfl⟩))
        clear q0 q1 r0 r1 s0 s1 x0 xf
        obtain ⟨Y, hY⟩ : ∃ Y, Y = ((X.setCell ⟨gr, 0, none⟩ (.string ⟨t1.toArray⟩)).setCell ⟨g7, 0, none⟩ (.int .i64 v1)).drew := ⟨_, rfl⟩
        have Y2 : Hid (Blk Y g2 24 #[.int .i64 0, .string ⟨#[]⟩, .string ⟨#[]⟩]) := by rw [hY]; exact Lib.hid (Blk.drew ((BX2.out.far (p := ⟨gr, 0, none⟩) n2r (.string ⟨t1.toArray⟩)).far (p := ⟨g7, 0, none⟩) n27 (.int .i64 v1)))
        have YP : Hid (Blk Y gp 94 #[.pointer (some ⟨g5, 0, none⟩), .int .i64 99, .string ⟨#[32]⟩, .pointer (some ⟨g6, 0, none⟩), .int .i64 900, .string ⟨#[32]⟩, .pointer (some ⟨g7, 0, none⟩), .int .i64 2600, .string ⟨#[10]⟩]) := by rw [hY]; exact Lib.hid (Blk.drew ((BXP.out.far (p := ⟨gr, 0, none⟩) npr (.string ⟨t1.toArray⟩)).far (p := ⟨g7, 0, none⟩) np7 (.int .i64 v1)))
        have YT : Hid (Blk Y gt 94 #[.pointer (some ⟨g7, 0, none⟩), .int .i64 2600, .string ⟨#[10]⟩]) := by rw [hY]; exact Lib.hid (Blk.drew ((BT.out.far (p := ⟨gr, 0, none⟩) ngr (.string ⟨t1.toArray⟩)).far (p := ⟨g7, 0, none⟩) ng7 (.int .i64 v1)))
        have YR : Hid (Blk Y gr 91 #[.string ⟨t1.toArray⟩]) := by rw [hY]; exact Lib.hid (Blk.drew ((BXR.out.set_ 0 (.string ⟨t1.toArray⟩)).far (p := ⟨g7, 0, none⟩) nr7 (.int .i64 v1)))
        have Y5 : Hid (Blk Y g5 24 #[.int .i64 (eOf 2 e v1), .string ⟨#[]⟩, .string ⟨#[]⟩]) := by rw [hY]; exact Lib.hid (Blk.drew ((BX5.out.far (p := ⟨gr, 0, none⟩) (Ne.symm nr5) (.string ⟨t1.toArray⟩)).far (p := ⟨g7, 0, none⟩) n57 (.int .i64 v1)))
        have Y6 : Hid (Blk Y g6 3 #[.int .i64 (nOf 2 n v1)]) := by rw [hY]; exact Lib.hid (Blk.drew ((BX6.out.far (p := ⟨gr, 0, none⟩) (Ne.symm nr6) (.string ⟨t1.toArray⟩)).far (p := ⟨g7, 0, none⟩) n67 (.int .i64 v1)))
        have Y7 : Hid (Blk Y g7 3 #[.int .i64 (mOf 2 m v1)]) := by rw [hY]; exact Lib.hid (Blk.drew ((BX7.out.far (p := ⟨gr, 0, none⟩) (Ne.symm nr7) (.string ⟨t1.toArray⟩)).set_ 0 (.int .i64 v1)))
        have YB : Hid (Below w.heap.size w Y) := by rw [hY]; exact Lib.hid (((HBX.out.setCell HGE.out.2.1 _).setCell HGE.out.2.2.2.2 _).drew)
        have HY := Lib.hid hY
        clear hY
        rw [← HY.out]
        cases b1 with
        | false =>
          have HNO := Lib.hid (stage_no (by omega) HS.out (fun ⟨v, t, h⟩ => HN1.out rfl ⟨v, _, h⟩))
          go_wp2
          exact ⟨⟨2 + 1, by omega, by go_num, Y2, YP, YB, Lib.hid (.inr ⟨rfl, HNO.out⟩)⟩, by simp [intOf]⟩
        | true =>
          obtain ⟨b2, t2, hsk2, hy2, hn2⟩ := skip_cases t1 [10]
          have HSK2 := Lib.hid hsk2; have HY2 := Lib.hid hy2; have HN2 := Lib.hid hn2
          have u2 : Y.cell? ⟨gt, 2, none⟩ = some (.string ⟨#[10]⟩) := YT.out.cell 2
          clear hsk2 hy2 hn2
          go_wp2_with fail
          refine (HSK2.out gr _ YR.out).mono ?_; rintro e9 w9 ⟨rfl, rfl⟩
          clear u2
          go_wp2
          refine ⟨⟨2 + 1, by omega, by go_num, Lib.hid (Y2.out.far (p := ⟨gr, 0, none⟩) n2r _), Lib.hid (YP.out.far (p := ⟨gr, 0, none⟩) npr _), Lib.hid (YB.out.setCell (p := ⟨gr, 0, none⟩) HGE.out.2.1 _), Lib.hid ?_⟩, by simp [intOf]⟩
          cases b2 with
          | true =>
            have e2 := HY2.out rfl
            exact .inl ⟨rfl, _, _, _, t2, stage_next (by omega) HS.out (by have := HY1.out (by first | rfl | trivial); rw [e2] at this; exact this), YR.out.set_ 0 _, Y5.out.far (p := ⟨gr, 0, none⟩) (Ne.symm nr5) _, Y6.out.far (p := ⟨gr, 0, none⟩) (Ne.symm nr6) _, Y7.out.far (p := ⟨gr, 0, none⟩) (Ne.symm nr7) _⟩
          | false => exact .inr ⟨rfl, stage_no (by omega) HS.out (part_no (HY1.out (by first | rfl | trivial)) (HN2.out rfl))⟩
      · -- behind the loop
        obtain ⟨⟨hn0, hn9⟩, hm0, hm9⟩ := stage_bd HS.out
        obtain ⟨N, rfl⟩ := Int.eq_ofNat_of_zero_le hn0
        obtain ⟨M, rfl⟩ := Int.eq_ofNat_of_zero_le hm0
        obtain ⟨b1, r1, t1, hli, hy1, hn1⟩ := lines_cases N rest (by have := stage_len HS.out; omega) (by omega)
        have HLI := Lib.hid hli; have HY1 := Lib.hid hy1; have HN1 := Lib.hid hn1
        have HTL := Lib.hid (show b1 = true → t1.length ≤ 1048576 from fun h => by
          have h1 := (hy1 h).1
          have h2 := stage_len HS.out
          rw [h1, List.length_append] at h2
          omega)
        have c6 := (show _ = some (Value.int .i64 (N : Int)) from B6.out.cell 0)
        have HMB := Lib.hid (show M ≤ 1048576 by omega)
        have HB0 := CB
        clear hli hy1 hn1 hn0 hn9 hm0 hm9
        go_wp2_with fail
        refine (HLI.out gr _ BR.out).mono ?_; rintro e9 w9 ⟨rfl, hw9⟩
        obtain ⟨⟨n2r, n25, n26, n27⟩, ⟨nr5, nr6, nr7⟩, n56, n57, n67⟩ := HNE.out
        have Y2 := Lib.hid (show Blk w9 g2 24 #[.int .i64 0, .string ⟨#[]⟩, .string ⟨#[]⟩] by rw [hw9]; exact C2.out.far (p := ⟨gr, 0, none⟩) n2r _)
        have YR := Lib.hid (show Blk w9 gr 91 #[.string ⟨t1.toArray⟩] by rw [hw9]; exact BR.out.set_ 0 _)
        have Y5 := Lib.hid (show Blk w9 g5 24 #[.int .i64 e, .string ⟨#[]⟩, .string ⟨#[]⟩] by rw [hw9]; exact B5.out.far (p := ⟨gr, 0, none⟩) (Ne.symm nr5) _)
        have Y7 := Lib.hid (show Blk w9 g7 3 #[.int .i64 M] by rw [hw9]; exact B7.out.far (p := ⟨gr, 0, none⟩) (Ne.symm nr7) _)
        have YB := Lib.hid (show Below w.heap.size w w9 by rw [hw9]; exact CB.out.setCell (p := ⟨gr, 0, none⟩) HGE.out.2.1 _)
        have y1 := (show _ = some (Value.string ⟨#[]⟩) from Y5.out.cell 1); have yf := Y5.out.frozen 1
        have HNS := Lib.hid (show g2 ≠ g5 ∧ g5 ≠ gr ∧ g5 ≠ g7 ∧ g2 ≠ gr ∧ g7 ≠ gr from ⟨n25, Ne.symm nr5, n57, n2r, Ne.symm nr7⟩)
        clear hw9 c6 HLI n2r n25 n26 n27 nr5 nr6 nr7 n56 n57 n67
        cases b1 with
        | false =>
          have HNO := Lib.hid (stage_no3 HS.out (by have := HN1.out (by first | rfl | trivial); simpa using this))
          have x0 := (show _ = some (Value.int .i64 0) from Y2.out.cell 0); have x1 := (show _ = some (Value.string ⟨#[]⟩) from Y2.out.cell 1); have x2 := (show _ = some (Value.string ⟨#[]⟩) from Y2.out.cell 2); have f0 := Y2.out.frozen 0; have f1 := Y2.out.frozen 1; have f2 := Y2.out.frozen 2
          have hne := HNS.out.1
          have hlt2 := Y2.out.lt
          go_wp2
          refine bodyPost_ret (v := .tuple #[.agg #[.int .i64 0, .string ⟨#[]⟩, .string ⟨#[]⟩], .iface 68 (.pointer (some ⟨w9.heap.size, 0, none⟩))]) (by simp [results, Tryz.results43, go_sem, x0, x1, x2, hne, hlt2]) rfl ⟨?_, .inr ⟨HNO.out, _, rfl⟩⟩
          ((repeat' (first | exact YB.out | (refine Below.setCell ?_ ?_ _) | (refine Below.alloc ?_ ?_ _))) <;> (first | exact HGE.out.1 | exact HGE.out.2.2.1 | (have := YB.out.size; simp; omega)))
        | true =>
          have HT1 := Lib.hid (show TakeL (N : Int).toNat rest r1 t1 by have := HY1.out (by first | rfl | trivial); simpa using this)
          obtain ⟨b2, r2, t2, hli2, hy2, hn2⟩ := lines_cases M t1 (HTL.out (by first | rfl | trivial)) HMB.out
          have HLI2 := Lib.hid hli2; have HY2 := Lib.hid hy2; have HN2 := Lib.hid hn2
          obtain ⟨Z, hZ⟩ : ∃ Z, Z = w9.setCell ⟨g5, 1, none⟩ (.string ⟨r1.toArray⟩) := ⟨_, rfl⟩
          have Z2 := Lib.hid (show Blk Z g2 24 #[.int .i64 0, .string ⟨#[]⟩, .string ⟨#[]⟩] by rw [hZ]; exact Y2.out.far (p := ⟨g5, 1, none⟩) HNS.out.1 _)
          have ZR := Lib.hid (show Blk Z gr 91 #[.string ⟨t1.toArray⟩] by rw [hZ]; exact YR.out.far (p := ⟨g5, 1, none⟩) (Ne.symm HNS.out.2.1) _)
          have Z5 := Lib.hid (show Blk Z g5 24 #[.int .i64 e, .string ⟨r1.toArray⟩, .string ⟨#[]⟩] by rw [hZ]; exact Y5.out.set_ 1 _)
          have z7 : (Z.cell? ⟨g7, 0, none⟩) = some (.int .i64 M) := by rw [hZ]; exact (Y7.out.far (p := ⟨g5, 1, none⟩) (Ne.symm HNS.out.2.2.1) _).cell 0
          have ZB := Lib.hid (show Below w.heap.size w Z by rw [hZ]; exact YB.out.setCell (p := ⟨g5, 1, none⟩) HGE.out.2.2.1 _)
          have HZ := Lib.hid hZ
          clear hli2 hy2 hn2 hZ
          go_upto_region 18 with (fail)
          rw [← HZ.out]
          clear y1 yf
          go_wp2_with fail
          refine (HLI2.out gr _ ZR.out).mono ?_; rintro e9 w8 ⟨rfl, hw8⟩
          have V2 := Lib.hid (show Blk w8 g2 24 #[.int .i64 0, .string ⟨#[]⟩, .string ⟨#[]⟩] by rw [hw8]; exact Z2.out.far (p := ⟨gr, 0, none⟩) HNS.out.2.2.2.1 _)
          have V5 := Lib.hid (show Blk w8 g5 24 #[.int .i64 e, .string ⟨r1.toArray⟩, .string ⟨#[]⟩] by rw [hw8]; exact Z5.out.far (p := ⟨gr, 0, none⟩) HNS.out.2.1 _)
          have VB := Lib.hid (show Below w.heap.size w w8 by rw [hw8]; exact ZB.out.setCell (p := ⟨gr, 0, none⟩) HGE.out.2.1 _)
          clear hw8 z7 HLI2
          have y0 := (show _ = some (Value.int .i64 e) from V5.out.cell 0); have y1 := (show _ = some (Value.string ⟨r1.toArray⟩) from V5.out.cell 1); have y2 := (show _ = some (Value.string ⟨#[]⟩) from V5.out.cell 2); have yf := V5.out.frozen 2
          have x0 := (show _ = some (Value.int .i64 0) from V2.out.cell 0); have x1 := (show _ = some (Value.string ⟨#[]⟩) from V2.out.cell 1); have x2 := (show _ = some (Value.string ⟨#[]⟩) from V2.out.cell 2); have f0 := V2.out.frozen 0; have f1 := V2.out.frozen 1; have f2 := V2.out.frozen 2
          have hne := HNS.out.1
          have hne' := Ne.symm hne
          have hlt2 := V2.out.lt
          cases b2 with
          | false =>
            have HNO := Lib.hid (stage_no4 HS.out HT1.out (by have := HN2.out (by first | rfl | trivial); simpa using this))
            go_wp2
            refine bodyPost_ret (v := .tuple #[.agg #[.int .i64 0, .string ⟨#[]⟩, .string ⟨#[]⟩], .iface 68 (.pointer (some ⟨w8.heap.size, 0, none⟩))]) (by simp [results, Tryz.results43, go_sem, x0, x1, x2, hne, hlt2]) rfl ⟨?_, .inr ⟨HNO.out, _, rfl⟩⟩
            ((repeat' (first | exact VB.out | (refine Below.setCell ?_ ?_ _) | (refine Below.alloc ?_ ?_ _))) <;> (first | exact HGE.out.1 | exact HGE.out.2.2.1 | (have := VB.out.size; simp; omega)))
          | true =>
            have HYS := Lib.hid (stage_yes HS.out HT1.out (show TakeL (M : Int).toNat t1 r2 t2 by have := HY2.out (by first | rfl | trivial); simpa using this))
            go_wp2
            refine bodyPost_ret (v := .tuple #[.agg #[.int .i64 e, .string ⟨r1.toArray⟩, .string ⟨r2.toArray⟩], .nilIface]) (by simp [results, Tryz.results43, go_sem, x0, x1, x2, y0, y1, y2, hne, hne']) rfl ⟨?_, .inl ⟨⟨e, r1, r2⟩, HYS.out, rfl⟩⟩
            ((repeat' (first | exact VB.out | (refine Below.setCell ?_ ?_ _) | (refine Below.alloc ?_ ?_ _))) <;> (first | exact HGE.out.1 | exact HGE.out.2.2.1 | (have := VB.out.size; simp; omega)))
    · have HNO := Lib.hid hno
      have hlt2 := C2.out.lt
      clear CS hno
      obtain rfl | rfl | rfl | rfl : k = 0 ∨ k = 1 ∨ k = 2 ∨ k = 3 := by omega
      · have p0 : wr.cell? ⟨gp, 0, none⟩ = some (.pointer (some ⟨g5, 0, none⟩)) := CP.out.cell 0
        have p1 : wr.cell? ⟨gp, 1, none⟩ = some (.int .i64 99) := CP.out.cell 1
        have p2 : wr.cell? ⟨gp, 2, none⟩ = some (.string ⟨#[32]⟩) := CP.out.cell 2
        have x0 := (show _ = some (Value.int .i64 0) from C2.out.cell 0); have x1 := (show _ = some (Value.string ⟨#[]⟩) from C2.out.cell 1); have x2 := (show _ = some (Value.string ⟨#[]⟩) from C2.out.cell 2); have f0 := C2.out.frozen 0; have f1 := C2.out.frozen 1; have f2 := C2.out.frozen 2
        go_wp2
        refine bodyPost_ret (v := .tuple #[.agg #[.int .i64 0, .string ⟨#[]⟩, .string ⟨#[]⟩], .iface 68 (.pointer (some ⟨wr.heap.size + 1, 0, none⟩))]) (by simp [results, Tryz.results43, go_sem, x0, x1, x2, hlt2]) rfl ⟨?_, .inr ⟨HNO.out, _, rfl⟩⟩
        ((repeat' (first | exact CB.out | (refine Below.setCell ?_ ?_ _) | (refine Below.alloc ?_ ?_ _))) <;> (first | exact HGE.out.1 | exact HGE.out.2.2.1 | (have := CB.out.size; simp; omega)))
      · have p0 : wr.cell? ⟨gp, 3, none⟩ = some (.pointer (some ⟨g6, 0, none⟩)) := CP.out.cell 3
        have p1 : wr.cell? ⟨gp, 4, none⟩ = some (.int .i64 900) := CP.out.cell 4
        have p2 : wr.cell? ⟨gp, 5, none⟩ = some (.string ⟨#[32]⟩) := CP.out.cell 5
        have x0 := (show _ = some (Value.int .i64 0) from C2.out.cell 0); have x1 := (show _ = some (Value.string ⟨#[]⟩) from C2.out.cell 1); have x2 := (show _ = some (Value.string ⟨#[]⟩) from C2.out.cell 2); have f0 := C2.out.frozen 0; have f1 := C2.out.frozen 1; have f2 := C2.out.frozen 2
        go_wp2
        refine bodyPost_ret (v := .tuple #[.agg #[.int .i64 0, .string ⟨#[]⟩, .string ⟨#[]⟩], .iface 68 (.pointer (some ⟨wr.heap.size + 1, 0, none⟩))]) (by simp [results, Tryz.results43, go_sem, x0, x1, x2, hlt2]) rfl ⟨?_, .inr ⟨HNO.out, _, rfl⟩⟩
        ((repeat' (first | exact CB.out | (refine Below.setCell ?_ ?_ _) | (refine Below.alloc ?_ ?_ _))) <;> (first | exact HGE.out.1 | exact HGE.out.2.2.1 | (have := CB.out.size; simp; omega)))
      · have p0 : wr.cell? ⟨gp, 6, none⟩ = some (.pointer (some ⟨g7, 0, none⟩)) := CP.out.cell 6
        have p1 : wr.cell? ⟨gp, 7, none⟩ = some (.int .i64 2600) := CP.out.cell 7
        have p2 : wr.cell? ⟨gp, 8, none⟩ = some (.string ⟨#[10]⟩) := CP.out.cell 8
        have x0 := (show _ = some (Value.int .i64 0) from C2.out.cell 0); have x1 := (show _ = some (Value.string ⟨#[]⟩) from C2.out.cell 1); have x2 := (show _ = some (Value.string ⟨#[]⟩) from C2.out.cell 2); have f0 := C2.out.frozen 0; have f1 := C2.out.frozen 1; have f2 := C2.out.frozen 2
        go_wp2
        refine bodyPost_ret (v := .tuple #[.agg #[.int .i64 0, .string ⟨#[]⟩, .string ⟨#[]⟩], .iface 68 (.pointer (some ⟨wr.heap.size + 1, 0, none⟩))]) (by simp [results, Tryz.results43, go_sem, x0, x1, x2, hlt2]) rfl ⟨?_, .inr ⟨HNO.out, _, rfl⟩⟩
        ((repeat' (first | exact CB.out | (refine Below.setCell ?_ ?_ _) | (refine Below.alloc ?_ ?_ _))) <;> (first | exact HGE.out.1 | exact HGE.out.2.2.1 | (have := CB.out.size; simp; omega)))
      · have x0 := (show _ = some (Value.int .i64 0) from C2.out.cell 0); have x1 := (show _ = some (Value.string ⟨#[]⟩) from C2.out.cell 1); have x2 := (show _ = some (Value.string ⟨#[]⟩) from C2.out.cell 2); have f0 := C2.out.frozen 0; have f1 := C2.out.frozen 1; have f2 := C2.out.frozen 2
        go_wp2
        refine bodyPost_ret (v := .tuple #[.agg #[.int .i64 0, .string ⟨#[]⟩, .string ⟨#[]⟩], .iface 68 (.pointer (some ⟨wr.heap.size, 0, none⟩))]) (by simp [results, Tryz.results43, go_sem, x0, x1, x2, hlt2]) rfl ⟨?_, .inr ⟨HNO.out, _, rfl⟩⟩
        ((repeat' (first | exact CB.out | (refine Below.setCell ?_ ?_ _) | (refine Below.alloc ?_ ?_ _))) <;> (first | exact HGE.out.1 | exact HGE.out.2.2.1 | (have := CB.out.size; simp; omega)))
end Go.Proofs.YtcomdkmglihdbaaGreatDoor
