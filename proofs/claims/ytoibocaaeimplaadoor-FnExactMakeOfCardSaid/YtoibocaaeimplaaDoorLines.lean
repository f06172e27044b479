/- impl's programs: codeLines, CodeWrite, CodeOk. -/
import Derived.Test.YtoibocaaeimplaaDoorCodeW2
import Derived.Test.YtoibocaaeimplaaDoorBuilder
import Derived.Test.YtoibocaaeimplaaDoorItoa
namespace Go.Proofs.YtoibocaaeimplaaDoor
open Go.RowKit
set_option linter.unusedSimpArgs false
set_option linter.unusedVariables false

theorem opName_any' (j : Int) (w : World) :
    Calls Tryd.prog 61 #[.int .i64 j] w fun e w' => e = .returned (.string ⟨(opNm j).toArray⟩) ∧ w = w' := by
  have ho : (j = 1 ∨ j = 2 ∨ j = 3 ∨ j = 4 ∨ j = 5 ∨ j = 6) ∨ ¬ (1 ≤ j ∧ j ≤ 6) := by omega
  rcases ho with (rfl | rfl | rfl | rfl | rfl | rfl) | ho
  case inr =>
    have e1 : (j == 1) = false := by simp; omega
    have e2 : (j == 2) = false := by simp; omega
    have e3 : (j == 3) = false := by simp; omega
    have e4 : (j == 4) = false := by simp; omega
    have e5 : (j == 5) = false := by simp; omega
    have e6 : (j == 6) = false := by simp; omega
    have hnm : opNm j = [] := by
      unfold opNm
      rw [if_neg (by omega), if_neg (by omega), if_neg (by omega), if_neg (by omega), if_neg (by omega), if_neg (by omega)]
    go_enter Tryd.func61, Tryd.ntmps61
    go_wp2
    all_goals (go_ret; exact ⟨by rw [hnm]; rfl, rfl⟩)
  all_goals
    go_enter Tryd.func61, Tryd.ntmps61
    go_wp2
    all_goals (go_ret; exact ⟨rfl, rfl⟩)

theorem BAt.below {B b : Nat} {l : List UInt8} {w w' : World} (h : BAt B b l w) (hb : Below w.heap.size w w') : BAt B b l w' := by
  have one : ∀ p, Lib.BuilderAt 102 5 B b p (Lib.byteCells l) w → Lib.BuilderAt 102 5 B b p (Lib.byteCells l) w' := fun p ⟨hB, v, hbk, ho, hne⟩ =>
    ⟨hB, v, (hb.block b (Array.getElem?_eq_some_iff.1 hbk).1).trans hbk, own_below ho hb, hne⟩
  rcases h with h | h
  · exact .inl (one _ h)
  · exact .inr (one _ h)
theorem BAt.lt {B b : Nat} {l : List UInt8} {w : World} (h : BAt B b l w) : b < w.heap.size := by
  rcases h with h | h
  · exact h.lt
  · exact h.lt
theorem bat_write (B b : Nat) (l : List UInt8) (s : ByteArray) (m : List UInt8) (hm : s.data.toList = m) (w : World) (h : BAt B b l w) (hlen : l.length + m.length ≤ 140737488355328) (hBw : B ≤ w.heap.size) :
    Calls Tryd.prog 60 #[.pointer (some ⟨b, 0, none⟩), .string s] w fun e w' => e = .returned (.tuple #[.int .i64 m.length, .nilIface]) ∧ BAt B b (l ++ m) w' ∧ Below B w w' ∧ Lib.OthersKept 5 (some b) w w' := by
  subst hm
  refine (writeString_any B b _ s w h (by rw [Lib.byteCells_length]; simpa using hlen) hBw).mono ?_
  rintro e w' ⟨rfl, h1, h2, h3⟩
  refine ⟨by simp, ?_, h2, h3⟩
  unfold BAt
  rw [Lib.byteCells_append, ← Lib.strCells_eq]
  exact h1
/-- A block of another kind stays while a builder is written on. -/
theorem Blk.others {w w' : World} {g b : Nat} {t e : TypeId} {cs : Array Value} (h : Blk w g t cs) (hk : Lib.OthersKept e (some b) w w') (hb : g ≠ b) (ht : t ≠ e) : Blk w' g t cs :=
  hk g _ h (fun h1 => hb (Option.some.inj h1)) (fun c fz h1 => ht (by cases h1; rfl))
theorem ba_list3 (a b c : List UInt8) : (⟨a.toArray⟩ ++ ⟨b.toArray⟩ ++ ⟨c.toArray⟩ : ByteArray).data.toList = a ++ b ++ c := by rw [ba_append, ba_append]
theorem ba_list4 (a b c d : List UInt8) : (⟨a.toArray⟩ ++ ⟨b.toArray⟩ ++ ⟨c.toArray⟩ ++ ⟨d.toArray⟩ : ByteArray).data.toList = a ++ b ++ c ++ d := by rw [ba_append, ba_append, ba_append]

set_option maxHeartbeats 8000000 in
theorem codeLines_any (v : Value) (g : List In4) (w : World) (hs : Sl w 4 v (insR g)) (hp : Pow w) (hw : ∀ x ∈ g, insWord x) (hl : g.length ≤ 160) :
    Calls Tryd.prog 42 #[v] w fun e w' => e = .returned (.string ⟨(codeText g).toArray⟩) ∧ Below w.heap.size w w' := by
  obtain ⟨A, n, c, rfl, hA⟩ := hs
  have hn : g.length = n := by have := hA.len; rwa [insR_len] at this
  have hc := hA.cap
  have hm := hA.max
  unfold maxLen at hm
  have HL := Lib.hid hn; have HW := Lib.hid hw; rw [hn] at hl; clear hn hw
  go_enter Tryd.func42, Tryd.ntmps42
  go_wp2
  go_loopw [8] (fun i wr => ∃ k : Nat, k ≤ n ∧ i = .int .i64 k ∧ BAt w.heap.size w.heap.size (codeText (g.take k)) wr ∧ Below w.heap.size w wr) (fun i _ => n - (intOf i).toNat)
  case atStart => exact ⟨0, by omega, rfl, by simpa [codeText, BAt, Lib.byteCells] using Lib.fresh_isBuilder 102 5 w, by go_grown⟩
  case round =>
    obtain ⟨k, hk, rfl, hBB, hb⟩ := hrel
    by_cases hlt : k < n
    · obtain ⟨b, off, x, rfl, hab, hgp, hcell⟩ := ins_get hA hlt
      obtain ⟨c0, c1, c2, c3⟩ := hcell wr _ hb hab
      have hx := HW.out x (List.mem_of_getElem? hgp)
      have HT := Lib.hid (show codeText (g.take (k + 1)) = codeText (g.take k) ++ insText x by rw [List.take_add_one, hgp]; exact codeText_snoc _ _)
      have hlen := codeText_len (g.take k) (fun y hy => HW.out y (List.mem_of_mem_take hy))
      have hlen2 : (codeText (g.take k)).length ≤ 6400 := by rw [List.length_take] at hlen; omega
      have hlen3 := itoa_le10 hx.1
      have hlen4 := opNm_len x.op
      have hx2 : -9223372036854775808 ≤ x.yes ∧ x.yes ≤ 6 ∧ -9223372036854775808 ≤ x.no ∧ x.no ≤ 6 := by unfold insWord at hx; omega
      clear hlen hcell hgp
      obtain ⟨op, kk, yes, no⟩ := x
      simp only at c0 c1 c2 c3 hlen3 hlen4
      have hK := hx.1
      simp only at hK
      have HX := Lib.hid hx; clear hx
      have d1 : ¬ 9223372036854775807 < (opNm op).length + 1 := by omega
      have d2 : ¬ 9223372036854775807 < (opNm op).length + 1 + (Lib.itoa kk).length := by omega
      have hpw := hp.below hb
      have hwlt := hBB.lt
      have hB5 := Blk.new wr 39 #[.int .i64 op, .int .i64 kk, .int .i64 yes, .int .i64 no]
      have hBB1 := hBB.below (w' := wr.alloc (.cells #[.int .i64 op, .int .i64 kk, .int .i64 yes, .int .i64 no] 39)) (by go_grown)
      have hpw1 := hpw.below (w' := (wr.alloc (.cells #[.int .i64 op, .int .i64 kk, .int .i64 yes, .int .i64 no] 39)).drew) (by go_grown)
      have HB5 := Lib.hid hB5; have HBB := Lib.hid hBB1; have HPW := Lib.hid hpw1; clear hBB1 hBB hB5 hpw1
      go_wp2
      apply region_mid (R := fun hh w' => Blk w' wr.heap.size 39 #[.int .i64 op, .int .i64 kk, .int .i64 yes, .int .i64 no] ∧ BAt w.heap.size w.heap.size (codeText (g.take k) ++ (opNm op ++ [32] ++ Lib.itoa kk)) w' ∧ Below w.heap.size wr w')
      case hr =>
        go_region_law (first
          | (go_simp; go_at_call 61; refine (opName_any' _ _).mono ?_; rintro e w0 ⟨rfl, rfl⟩)
          | (go_simp; go_at_call 62; refine (itoa_any _ _ HPW.out (by omega) (by omega)).mono ?_; rintro e wi ⟨rfl, hbi⟩; have hBi := (show BAt _ _ _ (wr.alloc _).drew from HBB.out).below hbi; have h5i := Blk.below (show Blk (wr.alloc _).drew _ _ _ from HB5.out) hbi (by simp); have hwi : wr.heap.size < wi.heap.size := Nat.lt_of_lt_of_le (by simp) hbi.size; have q0 : wi.cell? ⟨wr.heap.size, 0, none⟩ = some (.int .i64 op) := h5i.cell 0; have q1 : wi.cell? ⟨wr.heap.size, 1, none⟩ = some (.int .i64 kk) := h5i.cell 1)
          | (go_simp; go_at_call 60; refine (bat_write _ _ _ _ (opNm op ++ [32] ++ Lib.itoa kk) (ba_list3 _ _ _) _ hBi (by simp; omega) (by omega)).mono ?_; rintro e ww ⟨rfl, hBw, hbw, hkw⟩; have h5w := h5i.others hkw (by omega) (by decide)))
        all_goals
          simp [Act.put]
          have hh : Nat := 0
          exact ⟨hh, rfl, h5w, by simpa using hBw, (show Below w.heap.size wr wi from (show Below w.heap.size wr (wr.alloc _).drew by go_grown).trans (hbi.mono (by simp; omega))).trans hbw⟩
      case hq =>
        rintro hh w5 ⟨h5, hB5, hb5⟩
        have q0 : w5.cell? ⟨wr.heap.size, 0, none⟩ = some (.int .i64 op) := h5.cell 0
        have hb05 := hb.trans hb5
        by_cases h34 : op = 3 ∨ op = 4
        · have hy : (0 ≤ yes ∧ yes ≤ 6) ∧ (0 ≤ no ∧ no ≤ 6) := by have := HX.out; unfold insWord at this; simp only at this; omega
          have hlen5 := itoa_le10 (n := yes) (by omega)
          have hlen6 := itoa_le10 (n := no) (by omega)
          have hd3 : ((op == 3) = true ∧ (op == 4) = false) ∨ ((op == 3) = false ∧ (op == 4) = true) := by simp; omega
          have HJ := Lib.hid h34; clear h34
          have m1 : ¬ 9223372036854775807 < 1 + (Lib.itoa yes).length := by omega
          have m2 : ¬ 9223372036854775807 < 1 + (Lib.itoa yes).length + 1 := by omega
          have m3 : ¬ 9223372036854775807 < 1 + (Lib.itoa yes).length + 1 + (Lib.itoa no).length := by omega
          have hpw5 := hp.below hb05
          obtain ⟨e3, e4⟩ | ⟨e3, e4⟩ := hd3
          all_goals
            go_wp2
            apply region_mid (R := fun hh w' => BAt w.heap.size w.heap.size (codeText (g.take k) ++ (opNm op ++ [32] ++ Lib.itoa kk) ++ ([32] ++ Lib.itoa yes ++ [32] ++ Lib.itoa no)) w' ∧ Below w.heap.size w w')
            case hr =>
              have hBc : BAt _ _ _ w5.drew := hB5
              have h5c : Blk w5.drew _ _ _ := h5
              have hpc : Pow w5.drew := hpw5
              have hwc : Below w.heap.size w w5.drew := hb05.drew
              have q2 : w5.drew.cell? ⟨wr.heap.size, 2, none⟩ = some (.int .i64 yes) := h5c.cell 2
              have q3 : w5.drew.cell? ⟨wr.heap.size, 3, none⟩ = some (.int .i64 no) := h5c.cell 3
              go_region_law (first
                | (go_simp; go_at_call 62; refine (itoa_any _ _ hpc (by omega) (by omega)).mono ?_; rintro e wi ⟨rfl, hbi⟩; replace q2 := (hbi.cell (p := ⟨wr.heap.size, 2, none⟩) h5c.lt).trans q2; replace q3 := (hbi.cell (p := ⟨wr.heap.size, 3, none⟩) h5c.lt).trans q3; replace h5c := h5c.below hbi h5c.lt; replace hBc := hBc.below hbi; replace hpc := hpc.below hbi; replace hwc := below_then hwc hbi)
                | (go_simp; go_at_call 60; refine (bat_write _ _ _ _ ([32] ++ Lib.itoa yes ++ [32] ++ Lib.itoa no) (ba_list4 [32] _ [32] _) _ hBc (by simp; omega) hwc.size).mono ?_; rintro e ww ⟨rfl, hBw, hbw, hkw⟩))
              all_goals
                simp [Act.put]
                have hh : Nat := 0
                exact ⟨hh, rfl, by simpa using hBw, hwc.trans hbw⟩
            case hq =>
              rintro hh w6 ⟨hB6, hb6⟩
              go_wp2_with (go_at_call 60; refine (bat_write _ _ _ _ [10] rfl _ hB6 (by simp; omega) hb6.size).mono ?_; rintro e w7 ⟨rfl, hB7, hb7, -⟩)
              refine ⟨⟨k + 1, by omega, by go_num, ?_, hb6.trans hb7⟩, by simp [intOf]; omega⟩
              rw [HT.out]
              have ht : insText ⟨op, kk, yes, no⟩ = opNm op ++ [32] ++ Lib.itoa kk ++ ([32] ++ Lib.itoa yes ++ [32] ++ Lib.itoa no) ++ [10] := by simp [insText, insLine, tailW, HJ.out]
              rw [ht]
              simpa using hB7
        · have e3 : (op == 3) = false := by simp; omega
          have e4 : (op == 4) = false := by simp; omega
          have HJ := Lib.hid h34; clear h34
          go_wp2_with (go_at_call 60; refine (bat_write _ _ _ _ [10] rfl _ hB5 (by simp; omega) hb05.size).mono ?_; rintro e w7 ⟨rfl, hB7, hb7, -⟩)
          refine ⟨⟨k + 1, by omega, by go_num, ?_, hb05.trans hb7⟩, by simp [intOf]; omega⟩
          rw [HT.out]
          have ht : insText ⟨op, kk, yes, no⟩ = opNm op ++ [32] ++ Lib.itoa kk ++ [10] := by simp [insText, insLine, tailW, HJ.out]
          rw [ht]
          simpa using hB7
    · obtain rfl : k = n := by omega
      have e : g.take k = g := List.take_of_length_le (by rw [HL.out]; omega)
      rw [e] at hBB
      go_wp2_with (go_at_call 63; refine (Tryd.Builder_String_any _ _ _ _ hBB hb.size).mono ?_; rintro e w7 ⟨rfl, hb7⟩)
      go_ret
      exact ⟨rfl, hb.trans hb7⟩
end Go.Proofs.YtoibocaaeimplaaDoor
