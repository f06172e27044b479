/- Joined texts: Builder Itoa Lines CodeWI. -/
import Derived.Test.YtkiacbfpnidjlaaDoorKit
import Derived.Test.YtkiacbfpnidjlaaDoorShelf
import Derived.Lib.Walk
import Derived.Lib.Builder
import Derived.Lib.AppendStr
import Derived.Lib.UnsafeStr
import Derived.Laws.Externs
import Derived.Lib.OthersKept
import Derived.Lib.LaidTab
import Derived.Lib.AppendIntMem
import Derived.Test.YtkiacbfpnidjlaaDoorCodeWA
-- (*strings.Builder).WriteString, at a builder that the caller owns.
namespace Go.Proofs.YtkiacbfpnidjlaaDoor
open Go.RowKit
set_option linter.unusedSimpArgs false
set_option linter.unusedVariables false

theorem builderSize : ∃ j, Tryd.prog.info? 145 = some j ∧ j.size = 2 := by
  have h : (Tryd.prog.info? 145).map (·.size) = some 2 := by kernel_rfl
  obtain ⟨j, h1, h2⟩ := Option.map_eq_some_iff.1 h
  exact ⟨j, h1, h2⟩
theorem builderLies : liesAt Tryd.prog Tryd.prog.depth 145 (2 / Tryd.prog.cellsOf 145) 0 145 1 = true := by kernel_rfl
theorem info_byte : (Tryd.prog.info? 5).map (fun i => (i.zero, i.size, i.bytes)) = some (some (.int .u8 0), 1, 1) := by kernel_rfl

set_option maxHeartbeats 1000000 in
set_option maxRecDepth 100000 in
theorem copyCheck_used (b : Nat) (w : World) (h0 : w.cell? ⟨b, 0, none⟩ = some (.pointer (some ⟨b, 0, none⟩))) :
    Calls Tryd.prog 130 #[.pointer (some ⟨b, 0, none⟩)] w fun e w' => e = .returned (.tuple #[]) ∧ w' = w := by
  obtain ⟨j, hj, _⟩ := builderSize
  go_enter Tryd.func130, Tryd.ntmps130
  go_wp2
  rw [Lib.run_neq_ptr_same w _ Tryd.underlying143 hj]
  go_wp2
  go_end0
  exact ⟨rfl, rfl⟩
set_option maxHeartbeats 1000000 in
set_option maxRecDepth 100000 in
theorem copyCheck_fresh (b : Nat) (w : World) (h0 : w.cell? ⟨b, 0, none⟩ = some (.pointer none)) (hsh : w.shape? b = some (145, 2)) (hfz : w.frozen? ⟨b, 0, none⟩ = false) :
    Calls Tryd.prog 130 #[.pointer (some ⟨b, 0, none⟩)] w fun e w' => e = .returned (.tuple #[]) ∧ w' = w.setCell ⟨b, 0, none⟩ (.pointer (some ⟨b, 0, none⟩)) := by
  obtain ⟨j, hj, hjs⟩ := builderSize
  go_enter Tryd.func130, Tryd.ntmps130
  go_wp2
  rw [Lib.run_to_unsafe w ⟨b, 0, none⟩ Tryd.underlying143 Tryd.underlying188 hj (by rw [hjs]; decide) hsh (Nat.zero_lt_succ 1)]
  simp only [Result.andThen]
  rw [Oper.upon_value]
  go_wp2
  rw [run_callFunc_extern Tryd.func144 (by kernel_rfl) (by kernel_rfl) (by kernel_rfl) (e := Extern.AbiNoEscape.same) (by kernel_rfl)]
  rw [Lib.run_noEscape]
  simp only [Result.andThen]
  rw [Oper.upon_value]
  go_wp2
  rw [Lib.run_from_unsafe w ⟨b, 0, none⟩ Tryd.underlying188 Tryd.underlying143 hj hsh builderLies]
  simp only [Result.andThen]
  rw [Oper.upon_value]
  go_wp2
  go_end0
  exact ⟨rfl, rfl⟩

def BAt (B b : Nat) (l : List UInt8) (w : World) : Prop := Lib.IsBuilder 145 5 B b (Lib.byteCells l) w

theorem copyCheck_any (B b : Nat) (bs : List Value) (w : World) (h : Lib.IsBuilder 145 5 B b bs w) :
    Calls Tryd.prog 130 #[.pointer (some ⟨b, 0, none⟩)] w fun e w' => e = .returned (.tuple #[]) ∧ Lib.BuilderAt 145 5 B b (.pointer (some ⟨b, 0, none⟩)) bs w' ∧ Below B w w' ∧ Lib.OthersKept 5 (some b) w w' := by
  rcases h with h | h
  · refine (copyCheck_fresh b w h.cell0 h.shape h.frozen0).mono ?_
    rintro e w' ⟨rfl, rfl⟩
    exact ⟨rfl, h.used _, (Below.refl B w).setCell (p := ⟨b, 0, none⟩) h.1 _, (Lib.OthersKept.refl _ _ _).setCell ⟨b, 0, none⟩ rfl _⟩
  · refine (copyCheck_used b w h.cell0).mono ?_
    rintro e w' ⟨rfl, rfl⟩
    exact ⟨rfl, h, Below.refl B _, Lib.OthersKept.refl _ _ _⟩

set_option maxHeartbeats 2000000 in
set_option maxRecDepth 100000 in
theorem writeString_any (B b : Nat) (bs : List Value) (s : ByteArray) (w : World) (h : Lib.IsBuilder 145 5 B b bs w) (hlen : bs.length + s.size ≤ 140737488355328) (hBw : B ≤ w.heap.size) :
    Calls Tryd.prog 114 #[.pointer (some ⟨b, 0, none⟩), .string s] w fun e w' => e = .returned (.tuple #[.int .i64 s.size, .nilIface]) ∧ Lib.IsBuilder 145 5 B b (bs ++ Lib.strCells s) w' ∧ Below B w w' ∧ Lib.OthersKept 5 (some b) w w' := by
  obtain ⟨i0, hi, hz0, hz1, hz2⟩ := info_parts info_byte
  go_enter Tryd.func114, Tryd.ntmps114
  go_wp2_with fail
  refine (copyCheck_any B b bs _ h).mono ?_
  rintro e w1 ⟨rfl, h1, hb1, hk1⟩
  obtain ⟨hB, v, hbk, hown, hne⟩ := h1
  have c0 : w1.cell? ⟨b, 0, none⟩ = some (.pointer (some ⟨b, 0, none⟩)) := by rw [Lib.cell_of_heap hbk]; rfl
  have c1 : w1.cell? ⟨b, 1, none⟩ = some v := by rw [Lib.cell_of_heap hbk]; rfl
  go_wp2_with (at_builtin; refine Lib.wpList_append_own_string _ rfl _ _ 37 9 rfl B 5 i0 Tryd.underlying37 Tryd.underlying9 hi hz0 hz1 hz2 _ _ _ rfl hown s rfl ?c3 ?c4 ?c5 ?_)
  case c3 => unfold maxLen; omega
  case c4 => omega
  case c5 => have := hb1.size; omega
  intro v' w2 hown' hgrow _
  have hlt : b < w1.heap.size := (Array.getElem?_eq_some_iff.1 hbk).1
  have hb2 : w2.heap[b]? = some (.cells #[.pointer (some ⟨b, 0, none⟩), v] 145 (0, 0)) := by
    rw [hgrow.block b hlt (fun e => hne e.symm)]
    exact hbk
  have d0 : w2.cell? ⟨b, 0, none⟩ = some (.pointer (some ⟨b, 0, none⟩)) := by rw [Lib.cell_of_heap hb2]; rfl
  have d1 : w2.cell? ⟨b, 1, none⟩ = some v := by rw [Lib.cell_of_heap hb2]; rfl
  have f1 : w2.frozen? ⟨b, 1, none⟩ = false := Lib.frozen_of_heap hb2 1
  obtain ⟨ao, n', cap, rfl⟩ : ∃ ao n' cap, v' = .slice ao n' cap := by
    rcases hown'.2 with ⟨hv, _⟩ | ⟨g, cap, cur, hv, _⟩
    · exact ⟨_, _, _, hv⟩
    · exact ⟨_, _, _, hv⟩
  go_wp2
  go_ret2
  refine ⟨rfl, ?_, ?_, ?_⟩
  · exact .inr (Lib.BuilderAt.put (T := 145) (e := 5) hB hb2 (bs' := bs ++ Lib.strCells s) (by simpa [Lib.strCells_length] using hown') (by decide))
  · exact (hb1.grown hgrow (by have := hb1.size; omega) (fun k hk => (hown.lt k hk).1)).setCell (p := ⟨b, 1, none⟩) hB _
  · refine (hk1.grown hgrow ?_).setCell ⟨b, 1, none⟩ rfl _
    intro g hg
    rcases hown.2 with ⟨rfl, _⟩ | ⟨g', cap', cur, rfl, _, hgg, _⟩
    · cases hg
    · obtain rfl : g' = g := by simpa [Value.ownBlock] using hg
      exact ⟨_, _, hgg⟩
end Go.Proofs.YtkiacbfpnidjlaaDoor

-- strconv.Itoa, called in a world that holds the library's table of powers of ten.
namespace Go.Proofs.YtkiacbfpnidjlaaDoor
open Go.RowKit Go.Sort
set_option linter.unusedSimpArgs false
set_option linter.unusedVariables false

/-- The world holds the table of powers of ten. -/
def Pow (w : World) : Prop := Lib.TabIs Tryd.prog w "internal/strconv.uint64pow10" .u64 Lib.pow10Tab
theorem powGlob : ∃ g, Tryd.prog.globalNamed "internal/strconv.uint64pow10" = some g := Option.isSome_iff_exists.1 (by kernel_rfl)
theorem Pow.below {w w' : World} (h : Pow w) (hb : Below w.heap.size w w') : Pow w' := by
  obtain ⟨g, hg⟩ := powGlob
  unfold Pow Lib.TabIs World.var? at h ⊢
  rw [hg] at h ⊢
  simp only [Option.bind_some] at h ⊢
  have hlt : g < w.heap.size := by
    rcases Nat.lt_or_ge g w.heap.size with h' | h'
    · exact h'
    · rw [Array.getElem?_eq_none h'] at h; cases h
  rw [hb.block g hlt]
  exact h
theorem itoa_any (n : Int) (w : World) (hp : Pow w) (h0 : -9223372036854775808 ≤ n) (h1 : n ≤ 9223372036854775807) :
    Calls Tryd.prog 127 #[.int .i64 n] w fun e w' => e = .returned (.string ⟨(Lib.itoa n).toArray⟩) ∧ Below w.heap.size w w' :=
  (Tryd.strconv_Itoa n h0 h1 w hp).mono fun e w' ⟨he, k, os, hw⟩ => ⟨he, hw ▸ Go.Lib.below_grow _ w (Nat.le_refl _) k os⟩
end Go.Proofs.YtkiacbfpnidjlaaDoor

-- impl's programs: codeLines, CodeWrite, CodeOk.
namespace Go.Proofs.YtkiacbfpnidjlaaDoor
open Go.RowKit
set_option linter.unusedSimpArgs false
set_option linter.unusedVariables false

theorem opName_any' (j : Int) (w : World) :
    Calls Tryd.prog 126 #[.int .i64 j] w fun e w' => e = .returned (.string ⟨(opNm j).toArray⟩) ∧ w = w' := by
  have ho : (j = 1 ∨ j = 2 ∨ j = 3 ∨ j = 4 ∨ j = 5 ∨ j = 6) ∨ ¬ (1 ≤ j ∧ j ≤ 6) := by omega
  rcases ho with (rfl | rfl | rfl | rfl | rfl | rfl) | ho
  case inr =>
    have e1 : (j == 1) = false := by simp; omega
    have e2 : (j == 2) = false := by simp; omega
    have e3 : (j == 3) = false := by simp; omega
    have e4 : (j == 4) = false := by simp; omega
    have e5 : (j == 5) = false := by simp; omega
    have e6 : (j == 6) = false := by simp; omega
    have hnm : opNm j = [] := by
      unfold opNm
      rw [if_neg (by omega), if_neg (by omega), if_neg (by omega), if_neg (by omega), if_neg (by omega), if_neg (by omega)]
    go_enter Tryd.func126, Tryd.ntmps126
    go_wp2
    all_goals (go_ret; exact ⟨by rw [hnm]; rfl, rfl⟩)
  all_goals
    go_enter Tryd.func126, Tryd.ntmps126
    go_wp2
    all_goals (go_ret; exact ⟨rfl, rfl⟩)

theorem BAt.below {B b : Nat} {l : List UInt8} {w w' : World} (h : BAt B b l w) (hb : Below w.heap.size w w') : BAt B b l w' := by
  have one : ∀ p, Lib.BuilderAt 145 5 B b p (Lib.byteCells l) w → Lib.BuilderAt 145 5 B b p (Lib.byteCells l) w' := fun p ⟨hB, v, hbk, ho, hne⟩ =>
    ⟨hB, v, (hb.block b (Array.getElem?_eq_some_iff.1 hbk).1).trans hbk, own_below ho hb, hne⟩
  rcases h with h | h
  · exact .inl (one _ h)
  · exact .inr (one _ h)
theorem BAt.lt {B b : Nat} {l : List UInt8} {w : World} (h : BAt B b l w) : b < w.heap.size := by
  rcases h with h | h
  · exact h.lt
  · exact h.lt
theorem bat_write (B b : Nat) (l : List UInt8) (s : ByteArray) (m : List UInt8) (hm : s.data.toList = m) (w : World) (h : BAt B b l w) (hlen : l.length + m.length ≤ 140737488355328) (hBw : B ≤ w.heap.size) :
    Calls Tryd.prog 114 #[.pointer (some ⟨b, 0, none⟩), .string s] w fun e w' => e = .returned (.tuple #[.int .i64 m.length, .nilIface]) ∧ BAt B b (l ++ m) w' ∧ Below B w w' ∧ Lib.OthersKept 5 (some b) w w' := by
  subst hm
  refine (writeString_any B b _ s w h (by rw [Lib.byteCells_length]; simpa using hlen) hBw).mono ?_
  rintro e w' ⟨rfl, h1, h2, h3⟩
  refine ⟨by simp, ?_, h2, h3⟩
  unfold BAt
  rw [Lib.byteCells_append, ← Lib.strCells_eq]
  exact h1
/-- A block of another kind stays while a builder is written on. -/
theorem Blk.others {w w' : World} {g b : Nat} {t e : TypeId} {cs : Array Value} (h : Blk w g t cs) (hk : Lib.OthersKept e (some b) w w') (hb : g ≠ b) (ht : t ≠ e) : Blk w' g t cs :=
  hk g _ h (fun h1 => hb (Option.some.inj h1)) (fun c fz h1 => ht (by cases h1; rfl))
theorem ba_list3 (a b c : List UInt8) : (⟨a.toArray⟩ ++ ⟨b.toArray⟩ ++ ⟨c.toArray⟩ : ByteArray).data.toList = a ++ b ++ c := by rw [ba_append, ba_append]
theorem ba_list4 (a b c d : List UInt8) : (⟨a.toArray⟩ ++ ⟨b.toArray⟩ ++ ⟨c.toArray⟩ ++ ⟨d.toArray⟩ : ByteArray).data.toList = a ++ b ++ c ++ d := by rw [ba_append, ba_append, ba_append]

set_option maxHeartbeats 8000000 in
theorem codeLines_any (v : Value) (g : List In4) (w : World) (hs : Sl w 4 v (insR g)) (hp : Pow w) (hw : ∀ x ∈ g, insWord x) (hl : g.length ≤ 160) :
    Calls Tryd.prog 108 #[v] w fun e w' => e = .returned (.string ⟨(codeText g).toArray⟩) ∧ Below w.heap.size w w' := by
  obtain ⟨A, n, c, rfl, hA⟩ := hs
  have hn : g.length = n := by have := hA.len; rwa [insR_len] at this
  have hc := hA.cap
  have hm := hA.max
  unfold maxLen at hm
  have HL := Lib.hid hn; have HW := Lib.hid hw; rw [hn] at hl; clear hn hw
  go_enter Tryd.func108, Tryd.ntmps108
  go_wp2
  go_loopw [8] (fun i wr => ∃ k : Nat, k ≤ n ∧ i = .int .i64 k ∧ BAt w.heap.size w.heap.size (codeText (g.take k)) wr ∧ Below w.heap.size w wr) (fun i _ => n - (intOf i).toNat)
  case atStart => exact ⟨0, by omega, rfl, by simpa [codeText, BAt, Lib.byteCells] using Lib.fresh_isBuilder 145 5 w, by go_grown⟩
  case round =>
    obtain ⟨k, hk, rfl, hBB, hb⟩ := hrel
    by_cases hlt : k < n
    · obtain ⟨b, off, x, rfl, hab, hgp, hcell⟩ := ins_get hA hlt
      obtain ⟨c0, c1, c2, c3⟩ := hcell wr _ hb hab
      have hx := HW.out x (List.mem_of_getElem? hgp)
      have HT := Lib.hid (show codeText (g.take (k + 1)) = codeText (g.take k) ++ insText x by rw [List.take_add_one, hgp]; exact codeText_snoc _ _)
      have hlen := codeText_len (g.take k) (fun y hy => HW.out y (List.mem_of_mem_take hy))
      have hlen2 : (codeText (g.take k)).length ≤ 6400 := by rw [List.length_take] at hlen; omega
      have hlen3 := itoa_le10 hx.1
      have hlen4 := opNm_len x.op
      have hx2 : -9223372036854775808 ≤ x.yes ∧ x.yes ≤ 6 ∧ -9223372036854775808 ≤ x.no ∧ x.no ≤ 6 := by unfold insWord at hx; omega
      clear hlen hcell hgp
      obtain ⟨op, kk, yes, no⟩ := x
      simp only at c0 c1 c2 c3 hlen3 hlen4
      have hK := hx.1
      simp only at hK
      have HX := Lib.hid hx; clear hx
      have d1 : ¬ 9223372036854775807 < (opNm op).length + 1 := by omega
      have d2 : ¬ 9223372036854775807 < (opNm op).length + 1 + (Lib.itoa kk).length := by omega
      have hpw := hp.below hb
      have hwlt := hBB.lt
      have hB5 := Blk.new wr 83 #[.int .i64 op, .int .i64 kk, .int .i64 yes, .int .i64 no]
      have hBB1 := hBB.below (w' := wr.alloc (.cells #[.int .i64 op, .int .i64 kk, .int .i64 yes, .int .i64 no] 83)) (by go_grown)
      have hpw1 := hpw.below (w' := (wr.alloc (.cells #[.int .i64 op, .int .i64 kk, .int .i64 yes, .int .i64 no] 83)).drew) (by go_grown)
      have HB5 := Lib.hid hB5; have HBB := Lib.hid hBB1; have HPW := Lib.hid hpw1; clear hBB1 hBB hB5 hpw1
      go_wp2
      apply region_mid (R := fun hh w' => Blk w' wr.heap.size 83 #[.int .i64 op, .int .i64 kk, .int .i64 yes, .int .i64 no] ∧ BAt w.heap.size w.heap.size (codeText (g.take k) ++ (opNm op ++ [32] ++ Lib.itoa kk)) w' ∧ Below w.heap.size wr w')
      case hr =>
        go_region_law (first
          | (go_simp; go_at_call 126; refine (opName_any' _ _).mono ?_; rintro e w0 ⟨rfl, rfl⟩)
          | (go_simp; go_at_call 127; refine (itoa_any _ _ HPW.out (by omega) (by omega)).mono ?_; rintro e wi ⟨rfl, hbi⟩; have hBi := (show BAt _ _ _ (wr.alloc _).drew from HBB.out).below hbi; have h5i := Blk.below (show Blk (wr.alloc _).drew _ _ _ from HB5.out) hbi (by simp); have hwi : wr.heap.size < wi.heap.size := Nat.lt_of_lt_of_le (by simp) hbi.size; have q0 : wi.cell? ⟨wr.heap.size, 0, none⟩ = some (.int .i64 op) := h5i.cell 0; have q1 : wi.cell? ⟨wr.heap.size, 1, none⟩ = some (.int .i64 kk) := h5i.cell 1)
          | (go_simp; go_at_call 114; refine (bat_write _ _ _ _ (opNm op ++ [32] ++ Lib.itoa kk) (ba_list3 _ _ _) _ hBi (by simp; omega) (by omega)).mono ?_; rintro e ww ⟨rfl, hBw, hbw, hkw⟩; have h5w := h5i.others hkw (by omega) (by decide)))
        all_goals
          simp [Act.put]
          have hh : Nat := 0
          exact ⟨hh, rfl, h5w, by simpa using hBw, (show Below w.heap.size wr wi from (show Below w.heap.size wr (wr.alloc _).drew by go_grown).trans (hbi.mono (by simp; omega))).trans hbw⟩
      case hq =>
        rintro hh w5 ⟨h5, hB5, hb5⟩
        have q0 : w5.cell? ⟨wr.heap.size, 0, none⟩ = some (.int .i64 op) := h5.cell 0
        have hb05 := hb.trans hb5
        by_cases h34 : op = 3 ∨ op = 4
        · have hy : (0 ≤ yes ∧ yes ≤ 6) ∧ (0 ≤ no ∧ no ≤ 6) := by have := HX.out; unfold insWord at this; simp only at this; omega
          have hlen5 := itoa_le10 (n := yes) (by omega)
          have hlen6 := itoa_le10 (n := no) (by omega)
          have hd3 : ((op == 3) = true ∧ (op == 4) = false) ∨ ((op == 3) = false ∧ (op == 4) = true) := by simp; omega
          have HJ := Lib.hid h34; clear h34
          have m1 : ¬ 9223372036854775807 < 1 + (Lib.itoa yes).length := by omega
          have m2 : ¬ 9223372036854775807 < 1 + (Lib.itoa yes).length + 1 := by omega
          have m3 : ¬ 9223372036854775807 < 1 + (Lib.itoa yes).length + 1 + (Lib.itoa no).length := by omega
          have hpw5 := hp.below hb05
          obtain ⟨e3, e4⟩ | ⟨e3, e4⟩ := hd3
          all_goals
            go_wp2
            apply region_mid (R := fun hh w' => BAt w.heap.size w.heap.size (codeText (g.take k) ++ (opNm op ++ [32] ++ Lib.itoa kk) ++ ([32] ++ Lib.itoa yes ++ [32] ++ Lib.itoa no)) w' ∧ Below w.heap.size w w')
            case hr =>
              have hBc : BAt _ _ _ w5.drew := hB5
              have h5c : Blk w5.drew _ _ _ := h5
              have hpc : Pow w5.drew := hpw5
              have hwc : Below w.heap.size w w5.drew := hb05.drew
              have q2 : w5.drew.cell? ⟨wr.heap.size, 2, none⟩ = some (.int .i64 yes) := h5c.cell 2
              have q3 : w5.drew.cell? ⟨wr.heap.size, 3, none⟩ = some (.int .i64 no) := h5c.cell 3
              go_region_law (first
                | (go_simp; go_at_call 127; refine (itoa_any _ _ hpc (by omega) (by omega)).mono ?_; rintro e wi ⟨rfl, hbi⟩; replace q2 := (hbi.cell (p := ⟨wr.heap.size, 2, none⟩) h5c.lt).trans q2; replace q3 := (hbi.cell (p := ⟨wr.heap.size, 3, none⟩) h5c.lt).trans q3; replace h5c := h5c.below hbi h5c.lt; replace hBc := hBc.below hbi; replace hpc := hpc.below hbi; replace hwc := below_then hwc hbi)
                | (go_simp; go_at_call 114; refine (bat_write _ _ _ _ ([32] ++ Lib.itoa yes ++ [32] ++ Lib.itoa no) (ba_list4 [32] _ [32] _) _ hBc (by simp; omega) hwc.size).mono ?_; rintro e ww ⟨rfl, hBw, hbw, hkw⟩))
              all_goals
                simp [Act.put]
                have hh : Nat := 0
                exact ⟨hh, rfl, by simpa using hBw, hwc.trans hbw⟩
            case hq =>
              rintro hh w6 ⟨hB6, hb6⟩
              go_wp2_with (go_at_call 114; refine (bat_write _ _ _ _ [10] rfl _ hB6 (by simp; omega) hb6.size).mono ?_; rintro e w7 ⟨rfl, hB7, hb7, -⟩)
              refine ⟨⟨k + 1, by omega, by go_num, ?_, hb6.trans hb7⟩, by simp [intOf]; omega⟩
              rw [HT.out]
              have ht : insText ⟨op, kk, yes, no⟩ = opNm op ++ [32] ++ Lib.itoa kk ++ ([32] ++ Lib.itoa yes ++ [32] ++ Lib.itoa no) ++ [10] := by simp [insText, insLine, tailW, HJ.out]
              rw [ht]
              simpa using hB7
        · have e3 : (op == 3) = false := by simp; omega
          have e4 : (op == 4) = false := by simp; omega
          have HJ := Lib.hid h34; clear h34
          go_wp2_with (go_at_call 114; refine (bat_write _ _ _ _ [10] rfl _ hB5 (by simp; omega) hb05.size).mono ?_; rintro e w7 ⟨rfl, hB7, hb7, -⟩)
          refine ⟨⟨k + 1, by omega, by go_num, ?_, hb05.trans hb7⟩, by simp [intOf]; omega⟩
          rw [HT.out]
          have ht : insText ⟨op, kk, yes, no⟩ = opNm op ++ [32] ++ Lib.itoa kk ++ [10] := by simp [insText, insLine, tailW, HJ.out]
          rw [ht]
          simpa using hB7
    · obtain rfl : k = n := by omega
      have e : g.take k = g := List.take_of_length_le (by rw [HL.out]; omega)
      rw [e] at hBB
      go_wp2_with (go_at_call 117; refine (Tryd.Builder_String_any _ _ _ _ hBB hb.size).mono ?_; rintro e w7 ⟨rfl, hb7⟩)
      go_ret
      exact ⟨rfl, hb.trans hb7⟩
end Go.Proofs.YtkiacbfpnidjlaaDoor

-- impl's programs: CodeWrite, CodeOk.
namespace Go.Proofs.YtkiacbfpnidjlaaDoor
open Go.RowKit
set_option linter.unusedSimpArgs false
set_option linter.unusedVariables false

set_option maxHeartbeats 1000000 in
theorem CodeWrite_any (v : Value) (g : List In4) (w : World) (hs : Sl w 4 v (insR g)) (hp : Pow w) :
    Calls Tryd.prog 82 #[v] w fun e w' => e = .returned (.string ⟨(codeOut g).toArray⟩) ∧ Below w.heap.size w w' := by
  have hs0 := hs
  obtain ⟨A, n, c, rfl, -⟩ := hs
  by_cases hw : waysOk g
  · have hwb := waysB_iff.2 hw
    have HW := Lib.hid hw; clear hw
    by_cases hl : (codeText g).length ≤ 2600
    · have ho : codeOk g := ⟨HW.out, hl⟩
      have HO := Lib.hid ho.out; clear ho
      go_enter Tryd.func82, Tryd.ntmps82
      go_wp2_with (first
        | (go_at_call 107; refine (codeWays_any _ g _ hs0).mono ?_; rintro e w1 ⟨rfl, hb1⟩; rw [hwb])
        | (go_at_call 108; refine (codeLines_any _ g _ (hs0.below hb1) (hp.below hb1) HW.out.words HW.out.2.1).mono ?_; rintro e w2 ⟨rfl, hb2⟩))
      go_ret
      exact ⟨by rw [HO.out]; rfl, below_then hb1 hb2⟩
    · have HO := Lib.hid (codeOk.no (fun h : codeOk g => hl h.2))
      have hl2 : 2600 < (codeText g).length := by omega
      clear hl
      go_enter Tryd.func82, Tryd.ntmps82
      go_wp2_with (first
        | (go_at_call 107; refine (codeWays_any _ g _ hs0).mono ?_; rintro e w1 ⟨rfl, hb1⟩; rw [hwb])
        | (go_at_call 108; refine (codeLines_any _ g _ (hs0.below hb1) (hp.below hb1) HW.out.words HW.out.2.1).mono ?_; rintro e w2 ⟨rfl, hb2⟩))
      go_ret
      exact ⟨by rw [HO.out]; rfl, below_then hb1 hb2⟩
  · have HO := Lib.hid (codeOk.no (fun h : codeOk g => hw h.1))
    have hwb := waysB_no hw
    clear hw
    go_enter Tryd.func82, Tryd.ntmps82
    go_wp2_with (go_at_call 107; refine (codeWays_any _ g _ hs0).mono ?_; rintro e w1 ⟨rfl, hb1⟩; rw [hwb])
    go_ret
    exact ⟨by rw [HO.out]; rfl, hb1⟩

theorem CodeOk_any (v : Value) (g : List In4) (w : World) (hs : Sl w 4 v (insR g)) (hp : Pow w) :
    Calls Tryd.prog 54 #[v] w fun e w' => e = .returned (.bool (codeOkB g)) ∧ Below w.heap.size w w' := by
  have hs0 := hs
  obtain ⟨A, n, c, rfl, -⟩ := hs
  by_cases ho : codeOk g
  · have hne : ((codeOut g) == []) = false := by
      have := codeOut_empty (g := g)
      cases h : codeOut g with
      | nil => exact absurd ho (this.1 h)
      | cons a b => rfl
    have hib : (codeOut g).isEmpty = false := by
      cases h : codeOut g with
      | nil => rw [h] at hne; cases hne
      | cons a b => rfl
    have HOK := Lib.hid (codeOkB_iff.2 ho); clear ho
    go_enter Tryd.func54, Tryd.ntmps54
    go_wp2_with (go_at_call 82; refine (CodeWrite_any _ g _ hs0 hp).mono ?_; rintro e w1 ⟨rfl, hb1⟩)
    go_ret
    exact ⟨ret_bool HOK.out.symm, hb1⟩
  · have hem := codeOk.no ho
    have HOK := Lib.hid (codeOkB_no ho); clear ho
    go_enter Tryd.func54, Tryd.ntmps54
    go_wp2_with (go_at_call 82; refine (CodeWrite_any _ g _ hs0 hp).mono ?_; rintro e w1 ⟨rfl, hb1⟩; rw [hem])
    go_ret
    exact ⟨ret_bool HOK.out.symm, hb1⟩
end Go.Proofs.YtkiacbfpnidjlaaDoor
