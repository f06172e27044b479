/- The program's books: (*page).add, openBook, BookOk. -/
import Derived.Test.YtaieopdfkapgdaaDoorBookA
namespace Go.Proofs.YtaieopdfkapgdaaDoor
open Go.RowKit
set_option linter.unusedSimpArgs false
set_option linter.unusedVariables false

def tldV (t : Tl) (av : Value) : Value := .agg #[.int .i64 t.gate, .int .i64 t.epoch, .int .i64 t.num, av, .int .i64 t.verdict]

set_option maxRecDepth 100000 in
set_option maxHeartbeats 2000000 in
theorem add_no (lo hi : Nat) (lns : List Ln) (v : Value) (t : Tl) (av : Value) (w : World) (h : Pages w lo hi lns v) (hs : Sl w 1 av (ints t.args)) (hl : lns.length ≤ 40) (hn : ¬ (lns.length < 40 ∧ callOk t.num t.args)) :
    Calls Tryd.prog 42 #[v, .agg #[.int .i64 t.gate, .int .i64 t.epoch, .int .i64 t.num, av, .int .i64 t.verdict]] w fun e w' => e = .returned (.tuple #[v, .bool false]) ∧ Below w.heap.size w w' := by
  have hs0 := hs
  obtain ⟨A, n, c, rfl, hA⟩ := hs
  clear hA
  obtain ⟨w1, hw1⟩ : ∃ w1, w1 = w.alloc (.cells #[.int .i64 t.gate, .int .i64 t.epoch, .int .i64 t.num, .slice A n c, .int .i64 t.verdict] 30) := ⟨_, rfl⟩
  have b1 : Below w.heap.size w w1 := by rw [hw1]; go_grown
  have B1 : Blk w1 w.heap.size 30 #[.int .i64 t.gate, .int .i64 t.epoch, .int .i64 t.num, .slice A n c, .int .i64 t.verdict] := by rw [hw1]; exact Blk.new _ _ _
  have hv : ∃ pv, v = .pointer pv := by cases h <;> exact ⟨_, rfl⟩
  obtain ⟨pv, rfl⟩ := hv
  have HW1 := Lib.hid hw1; have HBL := Lib.hid b1
  have HP := Lib.hid (h.kept b1)
  have HS := Lib.hid (hs0.below b1)
  by_cases h40 : lns.length < 40
  · have hco : callOkB t.num t.args = false := by rw [← Bool.not_eq_true, callOkB_iff]; exact fun h => hn ⟨h40, h⟩
    have c2 := (show (w.alloc (.cells #[.int .i64 t.gate, .int .i64 t.epoch, .int .i64 t.num, .slice A n c, .int .i64 t.verdict] 30)).cell? _ = some (Value.int .i64 t.num) from by rw [← hw1]; exact B1.cell 2)
    have hq : (decide (40 ≤ ((lns.length : Nat) : Int))) = false := by simp; omega
    have HQ : ¬ (40 : Int) ≤ (lns.length : Nat) := by omega
    clear h hs0 hw1 b1 B1 c2
    go_enter Tryd.func42, Tryd.ntmps42
    go_wp2_with fail
    rw [← HW1.out]
    refine (size_any lo hi lns _ _ HP.out).mono ?_; rintro e w2 ⟨rfl, rfl⟩
    rw [HW1.out]
    go_wp2_with fail
    rw [← HW1.out]
    refine (CallOk_any t.num _ t.args _ HS.out).mono ?_; rintro e w3 ⟨rfl, b3⟩
    rw [hco]
    go_wp2
    go_ret2
    exact ⟨rfl, HBL.out.trans (b3.mono HBL.out.size)⟩
  · have hq : (decide (40 ≤ ((lns.length : Nat) : Int))) = true := by simp; omega
    have HQ : (40 : Int) ≤ (lns.length : Nat) := by omega
    clear h hs0 hw1 b1 B1
    go_enter Tryd.func42, Tryd.ntmps42
    go_wp2_with fail
    rw [← HW1.out]
    refine (size_any lo hi lns _ _ HP.out).mono ?_; rintro e w2 ⟨rfl, rfl⟩
    go_wp2
    go_ret2
    exact ⟨rfl, HBL.out⟩

/-- What putting a line behind others leaves. -/
def AddPost (lo : Nat) (lns : List Ln) (t : Tl) (w : World) (e : Ending) (w' : World) : Prop :=
  ∃ p, e = .returned (.tuple #[.pointer (some ⟨p, 0, none⟩), .bool true]) ∧ Pages w' lo w'.heap.size (⟨t, lineHash (lastSum lns) t⟩ :: lns) (.pointer (some ⟨p, 0, none⟩)) ∧ Below w.heap.size w w'

set_option maxRecDepth 100000 in
set_option maxHeartbeats 2000000 in
theorem add_yes (lo hi : Nat) (lns : List Ln) (v : Value) (t : Tl) (av : Value) (w : World) (hpw : Pow w) (hkw : Kww w) (h : Pages w lo hi lns v) (hhi : hi ≤ w.heap.size) (ht : t.ok) (hs : Sl w 1 av (ints t.args)) (hls : (lastSum lns).length ≤ 64) (h40 : lns.length < 40) (hok : callOk t.num t.args) :
    Calls Tryd.prog 42 #[v, .agg #[.int .i64 t.gate, .int .i64 t.epoch, .int .i64 t.num, av, .int .i64 t.verdict]] w (AddPost lo lns t w) := by
  have hs0 := hs
  obtain ⟨A, n, c, rfl, hA⟩ := hs
  clear hA
  obtain ⟨w1, hw1⟩ : ∃ w1, w1 = w.alloc (.cells #[.int .i64 t.gate, .int .i64 t.epoch, .int .i64 t.num, .slice A n c, .int .i64 t.verdict] 30) := ⟨_, rfl⟩
  have b1 : Below w.heap.size w w1 := by rw [hw1]; go_grown
  have B1 : Blk w1 w.heap.size 30 #[.int .i64 t.gate, .int .i64 t.epoch, .int .i64 t.num, .slice A n c, .int .i64 t.verdict] := by rw [hw1]; exact Blk.new _ _ _
  have hv : ∃ pv, v = .pointer pv := by cases h <;> exact ⟨_, rfl⟩
  obtain ⟨pv, rfl⟩ := hv
  have HW1 := Lib.hid hw1; have HBL := Lib.hid b1
  have HP := Lib.hid (h.kept b1)
  have HS := Lib.hid (hs0.below b1)
  have hco : callOkB t.num t.args = true := callOkB_iff.2 hok
  have c2 := (show (w.alloc (.cells #[.int .i64 t.gate, .int .i64 t.epoch, .int .i64 t.num, .slice A n c, .int .i64 t.verdict] 30)).cell? _ = some (Value.int .i64 t.num) from by rw [← hw1]; exact B1.cell 2)
  have hq : (decide (40 ≤ ((lns.length : Nat) : Int))) = false := by simp; omega
  have HQ : ¬ (40 : Int) ≤ (lns.length : Nat) := by omega
  have HK1 := Lib.hid (hkw.below b1 (Nat.le_refl _)); have HPW := Lib.hid (hpw.below b1)
  have HB1 := Lib.hid B1; have HT := Lib.hid ht; have HLS := Lib.hid hls; have H4 := Lib.hid hok.2.1
  have HHI := Lib.hid hhi
  have hlt := B1.lt
  clear h hs0 hw1 b1 B1 c2 hpw hkw ht hls hok hhi
  go_enter Tryd.func42, Tryd.ntmps42
  go_wp2_with fail
  rw [← HW1.out]
  refine (size_any lo hi lns _ _ HP.out).mono ?_; rintro e w2 ⟨rfl, rfl⟩
  rw [HW1.out]
  go_wp2_with fail
  rw [← HW1.out]
  refine (CallOk_any t.num _ t.args _ HS.out).mono ?_; rintro e w3 ⟨rfl, b3⟩
  rw [hco]
  have B3 := HB1.out.below b3 hlt
  have c0 := (show _ = some (Value.int .i64 t.gate) from B3.cell 0)
  have c1 := (show _ = some (Value.int .i64 t.epoch) from B3.cell 1)
  have c2 := (show _ = some (Value.int .i64 t.num) from B3.cell 2)
  have c3 := (show _ = some (Value.slice A n c) from B3.cell 3)
  have c4 := (show _ = some (Value.int .i64 t.verdict) from B3.cell 4)
  have h3 : Below w.heap.size w w3 := HBL.out.trans (b3.mono HBL.out.size)
  have HP3 := Lib.hid ((HP.out.kept b3).kept (Below.refl w3.heap.size w3).drew)
  have HS3 := Lib.hid ((HS.out.below b3).below (Below.refl w3.heap.size w3).drew)
  have HK3 := Lib.hid ((HK1.out.below b3 (Nat.le_refl _)).below (Below.refl w3.heap.size w3).drew (Nat.le_refl _))
  have HPW3 := Lib.hid ((HPW.out.below b3).below (Below.refl w3.heap.size w3).drew)
  have Q := Lib.hid h3.drew
  have hlt3 : w.heap.size < w3.heap.size := B3.lt
  clear b3 B3 h3 hco hq HP HS HK1 HPW HB1 HBL hlt
  go_wp2
  have wq : IntKind.i64.wrap ((lns.length : Int) + 1) = lns.length + 1 := IntWalk.i64_in _ (by omega)
  go_region_held3 (fun w' => w'.cell? ⟨w.heap.size, 0, none⟩ = some (.int .i64 t.gate) ∧ w'.cell? ⟨w.heap.size, 1, none⟩ = some (.int .i64 t.epoch) ∧ w'.cell? ⟨w.heap.size, 2, none⟩ = some (.int .i64 t.num) ∧ w'.cell? ⟨w.heap.size, 3, none⟩ = some (.slice A n c) ∧ w'.cell? ⟨w.heap.size, 4, none⟩ = some (.int .i64 t.verdict))
    (first | exact ⟨c0, c1, c2, c3, c4⟩ | go_keep)
    (first
      | (go_at_call 62; refine (copyTold_ok t _ _ HS3.out H4.out).mono ?_; rintro e w4 ⟨g, c5, rfl, ho, hb⟩; replace c0 := (hb.cell (p := ⟨w.heap.size, 0, none⟩) hlt3).trans c0; replace c1 := (hb.cell (p := ⟨w.heap.size, 1, none⟩) hlt3).trans c1; replace c2 := (hb.cell (p := ⟨w.heap.size, 2, none⟩) hlt3).trans c2; replace c3 := (hb.cell (p := ⟨w.heap.size, 3, none⟩) hlt3).trans c3; replace c4 := (hb.cell (p := ⟨w.heap.size, 4, none⟩) hlt3).trans c4; replace hlt3 := Nat.lt_of_lt_of_le hlt3 hb.size; have HO4 := Lib.hid ho; have HP4 := Lib.hid (HP3.out.kept hb); have HK4 := Lib.hid (HK3.out.below hb (Nat.le_refl _)); have HPW4 := Lib.hid (HPW3.out.below hb); have HS4 := Lib.hid (HS3.out.below hb); have Q4 := Lib.hid (below_then Q.out hb); have HB4 := Lib.hid hb; clear ho hb)
      | (go_at_call 63; refine (lineSum_any lo hi lns _ t _ _ HPW4.out HK4.out HP4.out HT.out HS4.out (by have := HLS.out; omega)).mono ?_; rintro e w5 ⟨rfl, hb⟩; replace c0 := (hb.cell (p := ⟨w.heap.size, 0, none⟩) hlt3).trans c0; replace c1 := (hb.cell (p := ⟨w.heap.size, 1, none⟩) hlt3).trans c1; replace c2 := (hb.cell (p := ⟨w.heap.size, 2, none⟩) hlt3).trans c2; replace c3 := (hb.cell (p := ⟨w.heap.size, 3, none⟩) hlt3).trans c3; replace c4 := (hb.cell (p := ⟨w.heap.size, 4, none⟩) hlt3).trans c4; replace hlt3 := Nat.lt_of_lt_of_le hlt3 hb.size; have HO5 := Lib.hid (own_below HO4.out hb); have HP5 := Lib.hid (HP4.out.kept hb); have Q5 := Lib.hid (below_then Q4.out hb); have HB5 := Lib.hid hb; clear hb)
      | (go_at_call 60; refine (size_any lo hi lns _ _ HP5.out).mono ?_; rintro e w6 ⟨rfl, rfl⟩))
  all_goals
    go_wp2
    go_ret2
    have hg5 : g < w5.heap.size := by
      obtain ⟨g', c', e, _, hl⟩ := HO5.out.form (by omega)
      injection e with e _ _
      injection e with e
      injection e with e _ _
      subst e
      exact hl
    have hh : hi ≤ w3.heap.size := Nat.le_trans HHI.out Q.out.size
    have ho : w5.ownsRow hi 3 1 (.slice (some ⟨g, 0, none⟩) 4 c5) 4 (ints t.args).flatten := own_base HO5.out hh
    have hal : ∀ o, Below w5.heap.size w5 (w5.alloc o) := fun o => (Below.refl _ _).alloc (Nat.le_refl _) o
    refine ⟨w5.heap.size, rfl, Pages.cons (q := hi) (g := g) (c := c5) (ln := ⟨t, lineHash (lastSum lns) t⟩) (HP5.out.kept (hal _)) (ho.alloc _) hg5 (by simp) (Blk.new w5 _ _), Q5.out.trans ((hal _).mono Q5.out.size)⟩

theorem Pages.ptr {w : World} {lo hi : Nat} {lns : List Ln} {v : Value} (h : Pages w lo hi lns v) : ∃ pp, v = .pointer pp := by
  cases h <;> exact ⟨_, rfl⟩
/-- The sum of the youngest page. -/
theorem Pages.sum5 {w : World} {lo hi p : Nat} {ln : Ln} {lns : List Ln} (h : Pages w lo hi (ln :: lns) (.pointer (some ⟨p, 0, none⟩))) : w.cell? ⟨p, 5, none⟩ = some (.string ⟨ln.sum.toArray⟩) := by
  cases h with
  | cons h ho hg hp hb => exact hb.cell 5
/-- A book that is read. -/
def LnIs (w : World) (ln : Ln) (cs : List Value) : Prop := ∃ av, cs = [.int .i64 ln.told.gate, .int .i64 ln.told.epoch, .int .i64 ln.told.num, av, .int .i64 ln.told.verdict, .string ⟨ln.sum.toArray⟩] ∧ Sl w 1 av (ints ln.told.args) ∧ ln.told.ok
def BookIs (w : World) (v : Value) (b : List Ln) : Prop := ∃ A n c css, v = .slice A n c ∧ SlA w 6 A n c css ∧ css.length = b.length ∧ ∀ (i : Nat) (ln : Ln) (cs : List Value), b[i]? = some ln → css[i]? = some cs → LnIs w ln cs
theorem LnIs.below {w w' : World} {ln : Ln} {cs : List Value} (h : LnIs w ln cs) (hb : Below w.heap.size w w') : LnIs w' ln cs := by
  obtain ⟨av, e, hs, ho⟩ := h; exact ⟨av, e, hs.below hb, ho⟩
theorem BookIs.below {w w' : World} {v : Value} {b : List Ln} (h : BookIs w v b) (hb : Below w.heap.size w w') : BookIs w' v b := by
  obtain ⟨A, n, c, css, e, hs, hl, hi⟩ := h
  exact ⟨A, n, c, css, e, hs.below hb, hl, fun i ln cs h1 h2 => (hi i ln cs h1 h2).below hb⟩
/-- A line of a book that is read. -/
theorem book_get {w : World} {A : Option Addr} {n c k : Nat} {css : List (List Value)} {b : List Ln} (hA : SlA w 6 A n c css) (hl : css.length = b.length) (hi : ∀ (i : Nat) (ln : Ln) (cs : List Value), b[i]? = some ln → css[i]? = some cs → LnIs w ln cs) (hk : k < n) :
    ∃ g off ln av, A = some ⟨g, off, none⟩ ∧ g < w.heap.size ∧ b[k]? = some ln ∧ Sl w 1 av (ints ln.told.args) ∧ ln.told.ok ∧
      w.cell? ⟨g, off + k * 6, none⟩ = some (.int .i64 ln.told.gate) ∧ w.cell? ⟨g, off + k * 6 + 1, none⟩ = some (.int .i64 ln.told.epoch) ∧ w.cell? ⟨g, off + k * 6 + 2, none⟩ = some (.int .i64 ln.told.num) ∧
      w.cell? ⟨g, off + k * 6 + 3, none⟩ = some av ∧ w.cell? ⟨g, off + k * 6 + 4, none⟩ = some (.int .i64 ln.told.verdict) ∧ w.cell? ⟨g, off + k * 6 + 5, none⟩ = some (.string ⟨ln.sum.toArray⟩) := by
  obtain ⟨g, off, e, hg, hc⟩ := hA.get hk
  have hn := hA.len
  have h1 : b[k]? = some (b[k]'(by omega)) := List.getElem?_eq_getElem (by omega)
  have h2 : css[k]? = some (css[k]'(by omega)) := List.getElem?_eq_getElem (by omega)
  obtain ⟨av, ec, hs, ho⟩ := hi k _ _ h1 h2
  have hcell := hc _ h2
  rw [ec] at hcell
  exact ⟨g, off, _, av, e, hg, h1, hs, ho, by simpa using hcell 0 _ rfl, hcell 1 _ rfl, hcell 2 _ rfl, hcell 3 _ rfl, hcell 4 _ rfl, hcell 5 _ rfl⟩

/-- What opening a book gives: all its pages, or none. -/
def OpenPost (lo : Nat) (b : List Ln) (w : World) (e : Ending) (w' : World) : Prop :=
  Below w.heap.size w w' ∧ ((bookOk b ∧ ∃ v, e = .returned (.tuple #[v, .bool true]) ∧ Pages w' lo w'.heap.size b.reverse v) ∨ (¬ bookOk b ∧ e = .returned (.tuple #[.pointer none, .bool false])))

theorem lastSum_rev : ∀ (b : List Ln), lastSum b.reverse = lastOf [] b := by
  intro b
  rcases List.eq_nil_or_concat b with rfl | ⟨a, x, rfl⟩
  · rfl
  · rw [List.concat_eq_append, List.reverse_append, lastOf_append]; rfl

set_option maxRecDepth 100000 in
set_option maxHeartbeats 4000000 in
theorem openBook_any (v : Value) (b : List Ln) (w : World) (hpw : Pow w) (hkw : Kww w) (hb : BookIs w v b) :
    Calls Tryd.prog 30 #[v] w (OpenPost w.heap.size b w) := by
  obtain ⟨A, n, c, css, rfl, hA, hcl, hli⟩ := hb
  have hn : b.length = n := by have := hA.len; omega
  have hcp := hA.cap
  have hmx := hA.max
  unfold maxLen at hmx
  have HA := Lib.hid hA; have HLI := Lib.hid hli; have HCL := Lib.hid hcl; have HN := Lib.hid hn
  have HPW := Lib.hid hpw; have HKW := Lib.hid hkw
  clear hA hli hcl hn hpw hkw
  go_enter Tryd.func30, Tryd.ntmps30
  go_wp2
  go_loopw [4, 11] (fun pv i wr => ∃ k : Nat, k ≤ n ∧ i = .int .i64 k ∧ Hid (goodL [] (b.take k) ∧ k ≤ 40) ∧ Hid (Pages wr w.heap.size wr.heap.size (b.take k).reverse pv) ∧ Below w.heap.size w wr) (fun _ i _ => n - (intOf i).toNat)
  case atStart => exact ⟨0, by omega, rfl, Lib.hid ⟨trivial, by omega⟩, Lib.hid (Pages.nil _ (Nat.le_refl _)), Below.refl _ _⟩
  case round =>
    obtain ⟨k, hk, rfl, HG, HP, hb⟩ := hrel
    by_cases hlt : k < n
    · obtain ⟨g, off, ln, av, rfl, hg, hbk, hs, hok, x0, x1, x2, x3, x4, x5⟩ := book_get HA.out HCL.out HLI.out hlt
      have y0 := (hb.cell (p := ⟨g, off + k * 6, none⟩) hg).trans x0
      have y1 := (hb.cell (p := ⟨g, off + k * 6 + 1, none⟩) hg).trans x1
      have y2 := (hb.cell (p := ⟨g, off + k * 6 + 2, none⟩) hg).trans x2
      have y3 := (hb.cell (p := ⟨g, off + k * 6 + 3, none⟩) hg).trans x3
      have y4 := (hb.cell (p := ⟨g, off + k * 6 + 4, none⟩) hg).trans x4
      have y5 := (hb.cell (p := ⟨g, off + k * 6 + 5, none⟩) hg).trans x5
      obtain ⟨⟨gt, ep, nm, xs, vd⟩, sm⟩ := ln
      simp only at y0 y1 y2 y3 y4 y5 hs hok
      have HBK := Lib.hid hbk
      have HS := Lib.hid (hs.below hb)
      have HOK := Lib.hid hok
      have hav : ∃ A2 n2 c2, av = .slice A2 n2 c2 := by obtain ⟨A2, n2, c2, e, _⟩ := hs; exact ⟨A2, n2, c2, e⟩
      obtain ⟨A2, n2, c2, rfl⟩ := hav
      have kn : (k : Int) < n := by omega
      have HLT := Lib.hid hlt
      obtain ⟨pp, rfl⟩ := HP.out.ptr
      clear x0 x1 x2 x3 x4 x5 hbk hs hok hlt hk
      obtain ⟨lb, hlb⟩ : ∃ l, l = wr.heap.size := ⟨_, rfl⟩
      obtain ⟨W1, hW1⟩ : ∃ W1, W1 = wr.alloc (.cells #[.int .i64 gt, .int .i64 ep, .int .i64 nm, .slice A2 n2 c2, .int .i64 vd, .string ⟨sm.toArray⟩] 32) := ⟨_, rfl⟩
      have hB1 : Hid (Blk W1 lb 32 #[.int .i64 gt, .int .i64 ep, .int .i64 nm, .slice A2 n2 c2, .int .i64 vd, .string ⟨sm.toArray⟩]) := by rw [hW1, hlb]; exact Blk.new _ _ _
      have bW : Below wr.heap.size wr W1 := by rw [hW1]; go_grown
      have b0W : Below w.heap.size w W1 := hb.trans (bW.mono hb.size)
      have HW1 := Lib.hid hW1; have HLB := Lib.hid hlb
      have HS1 := Lib.hid (HS.out.below bW)
      have HP1 := Lib.hid (HP.out.kept bW)
      have hbsz := bW.size
      have HPW1 := Lib.hid (HPW.out.below b0W); have HKW1 := Lib.hid (HKW.out.below b0W (Nat.le_refl _))
      have HL64 := Lib.hid (show (lastSum (b.take k).reverse).length ≤ 64 by rw [lastSum_rev]; exact goodL_last [] _ (by simp) HG.out.1)
      have HRL := Lib.hid (show (b.take k).reverse.length = k by rw [List.length_reverse, List.length_take]; have := HN.out; have := HLT.out; omega)
      have B0W := Lib.hid b0W; have BW := Lib.hid bW
      have hlbl := hB1.out.lt
      clear hW1 hlb b0W bW
      by_cases hyes : k < 40 ∧ callOk nm xs
      · have HY := Lib.hid hyes
        clear hyes
        go_wp2_with fail
        rw [← HW1.out]
        refine (add_yes w.heap.size wr.heap.size (b.take k).reverse _ ⟨gt, ep, nm, xs, vd⟩ _ W1 HPW1.out HKW1.out HP1.out hbsz HOK.out HS1.out HL64.out (by have := HRL.out; have := HY.out.1; omega) HY.out.2).mono ?_; rintro e w5 ⟨p, rfl, hp5, hb5⟩
        have c5 := hp5.sum5
        have d5 := (show _ = some (Value.string ⟨sm.toArray⟩) from (hB1.out.below hb5 hlbl).cell 5)
        rw [HLB.out] at d5
        obtain ⟨H, hH⟩ : ∃ H, H = lineHash (lastSum (b.take k).reverse) ⟨gt, ep, nm, xs, vd⟩ := ⟨_, rfl⟩
        rw [← hH] at hp5
        simp only at c5
        rw [← hH] at c5
        have HP5 := Lib.hid hp5
        have hb05 : Below w.heap.size w w5 := B0W.out.trans (hb5.mono B0W.out.size)
        have hG5 := @goodL_next [] b k ⟨⟨gt, ep, nm, xs, vd⟩, sm⟩ HBK.out
        rw [← lastSum_rev] at hG5
        simp only at hG5
        rw [← hH] at hG5
        have HG5 := Lib.hid hG5
        have HB5 := Lib.hid hb5
        clear hp5 hH hG5 hb5
        by_cases heq : sm = H
        · have e1 : (H != sm) = false := by rw [heq]; simp
          have e2 : (H == sm) = true := by rw [heq]; simp
          have HEQ := Lib.hid heq
          clear heq
          go_wp2
          go_quiet ((fail))
          go_wp2
          have hlt := HLT.out
          refine ⟨⟨k + 1, by omega, by go_num, Lib.hid ⟨HG5.out.2 ⟨HG.out.1, HY.out.2, HEQ.out⟩, by have := HY.out.1; omega⟩, Lib.hid ?_, below_drewN hb05 _⟩, by simp [intOf]; omega⟩
          have e3 : (b.take (k + 1)).reverse = ⟨⟨gt, ep, nm, xs, vd⟩, sm⟩ :: (b.take k).reverse := by rw [List.take_add_one, HBK.out]; simp
          rw [e3, HEQ.out]
          exact HP5.out.kept (below_drewN (Below.refl _ _) _)
        · have e1 : (H != sm) = true := by simpa using fun h => heq h.symm
          have e2 : (H == sm) = false := by simpa using fun h => heq h.symm
          have HEQ := Lib.hid heq
          clear heq
          go_wp2
          go_quiet ((fail))
          go_wp2
          go_ret2
          exact ⟨below_drewN hb05 _, .inr ⟨fun h => HEQ.out (HG5.out.1 (goodL_take h.1 (k + 1))).2.2, rfl⟩⟩
      · have HY := Lib.hid hyes
        clear hyes
        go_wp2_with fail
        rw [← HW1.out]
        refine (add_no w.heap.size wr.heap.size (b.take k).reverse _ ⟨gt, ep, nm, xs, vd⟩ _ W1 HP1.out HS1.out (by have := HRL.out; have := HG.out.2; omega) (by rw [HRL.out]; exact HY.out)).mono ?_; rintro e w5 ⟨rfl, hb5⟩
        have hb05 : Below w.heap.size w w5 := B0W.out.trans (hb5.mono B0W.out.size)
        go_wp2
        go_quiet ((fail))
        go_wp2
        go_ret2
        refine ⟨below_drewN hb05 _, .inr ⟨fun h => HY.out ?_, rfl⟩⟩
        have h1 := (goodL_next HBK.out).1 (goodL_take h.1 (k + 1))
        refine ⟨?_, h1.2.1⟩
        have := h.2; have := HN.out; have := HLT.out
        omega
    · obtain rfl : k = n := by omega
      have hall : b.take k = b := List.take_of_length_le (by rw [HN.out]; exact Nat.le_refl _)
      rw [hall] at HG HP
      have HLN := Lib.hid (show b.length = k from HN.out)
      clear hall hk hlt
      go_wp2
      go_ret2
      exact ⟨hb, .inl ⟨⟨HG.out.1, by rw [HLN.out]; exact HG.out.2⟩, _, rfl, HP.out⟩⟩

theorem BookOk_any (v : Value) (b : List Ln) (w : World) (hpw : Pow w) (hkw : Kww w) (hb : BookIs w v b) :
    Calls Tryd.prog 9 #[v] w fun e w' => e = .returned (.bool (bookOkB b)) ∧ Below w.heap.size w w' := by
  have hb0 := hb
  obtain ⟨A, n, c, css, rfl, -⟩ := hb
  go_enter Tryd.func9, Tryd.ntmps9
  go_wp2_with fail
  refine (openBook_any _ b _ hpw hkw hb0).mono ?_; rintro e w1 ⟨hbl, ⟨hok, v1, rfl, hp⟩ | ⟨hno, rfl⟩⟩
  · have hx := Lib.hid (bookOkB_iff.2 hok)
    obtain ⟨pp, rfl⟩ := hp.ptr
    clear hp hok hb0
    go_wp2
    go_ret
    exact ⟨ret_bool hx.out.symm, hbl⟩
  · have hx := Lib.hid (show bookOkB b = false by rw [← Bool.not_eq_true, bookOkB_iff]; exact hno)
    clear hno hb0
    go_wp2
    go_ret
    exact ⟨ret_bool hx.out.symm, hbl⟩
end Go.Proofs.YtaieopdfkapgdaaDoor
