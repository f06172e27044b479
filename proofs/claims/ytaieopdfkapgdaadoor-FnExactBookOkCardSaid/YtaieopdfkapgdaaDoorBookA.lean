/- Books: a line put behind others: impl.copyCall, copyTold, (*page).size, (*page).add. -/
import Derived.Test.YtaieopdfkapgdaaDoorBookT
import Derived.Test.YtaieopdfkapgdaaDoorShelf
namespace Go.Proofs.YtaieopdfkapgdaaDoor
open Go.RowKit
set_option linter.unusedSimpArgs false
set_option linter.unusedVariables false

theorem clone4 (av : Value) (xs : List Int) (w : World) (hs : Sl w 1 av (ints xs)) (h4 : xs.length = 4) :
    Calls Tryd.prog 80 #[av] w fun e w' => ∃ g c, e = .returned (.slice (some ⟨g, 0, none⟩) 4 c) ∧ w'.ownsRow w.heap.size 3 1 (.slice (some ⟨g, 0, none⟩) 4 c) 4 (ints xs).flatten ∧ Below w.heap.size w w' := by
  obtain ⟨A, n, c, rfl, hA⟩ := hs
  have hn : n = 4 := by have := hA.len; rw [ints_len] at this; omega
  subst hn
  obtain ⟨b, off, rfl, hb, hc⟩ := row_all (Value.int .i64) (show SlA w 1 A 4 c (xs.map fun x => [Value.int .i64 x]) from hA) (by omega)
  refine (Tryd.slices_Clone_int b off 4 c xs w (by omega) (by omega) (fun j hj => hc j _ (getD_of hj))).mono ?_
  rintro e w' ⟨v', rfl, ho, _, hbw⟩
  obtain ⟨g, cap, rfl, _, _⟩ := ho.form (by omega)
  refine ⟨g, cap, rfl, ?_, hbw⟩
  rw [ints_flat]
  rwa [List.take_of_length_le (by omega)] at ho

set_option maxHeartbeats 1000000 in
theorem copyCall_ok (m : Int) (av : Value) (xs : List Int) (w : World) (hs : Sl w 1 av (ints xs)) (h4 : xs.length = 4) :
    Calls Tryd.prog 73 #[.agg #[.int .i64 m, av]] w fun e w' => ∃ g c, e = .returned (.agg #[.int .i64 m, .slice (some ⟨g, 0, none⟩) 4 c]) ∧ w'.ownsRow w.heap.size 3 1 (.slice (some ⟨g, 0, none⟩) 4 c) 4 (ints xs).flatten ∧ Below w.heap.size w w' := by
  have hs0 := hs
  obtain ⟨A, n, c, rfl, hA⟩ := hs
  have hn : n = 4 := by have := hA.len; rw [ints_len] at this; omega
  subst hn
  clear hA
  obtain ⟨w1, hw1⟩ : ∃ w1, w1 = (w.alloc (.cells #[.int .i64 m, .slice A 4 c] 28)).alloc (.cells #[.int .i64 0, .slice none 0 0] 28) := ⟨_, rfl⟩
  have b1 : Below w.heap.size w w1 := by rw [hw1]; go_grown
  have z1 : w1.heap.size = w.heap.size + 1 + 1 := by rw [hw1]; simp
  have B0 : Blk w1 w.heap.size 28 #[.int .i64 m, .slice A 4 c] := by rw [hw1]; exact (Blk.new _ _ _).alloc _
  have B1 : Blk w1 (w.heap.size + 1) 28 #[.int .i64 0, .slice none 0 0] := by
    rw [hw1]
    have := Blk.new (w.alloc (.cells #[.int .i64 m, .slice A 4 c] 28)) 28 #[.int .i64 0, .slice none 0 0]
    rwa [World.size_alloc] at this
  have c0 := (show _ = some (Value.int .i64 m) from B0.cell 0)
  have c1 := (show _ = some (Value.slice A 4 c) from B0.cell 1)
  have l0 := B0.lt
  have l1 := B1.lt
  have HB1 := Lib.hid B1; have HBL := Lib.hid b1; have HW1 := Lib.hid hw1
  have HS := Lib.hid ((hs0.below b1).below (Below.refl w1.heap.size w1).drew)
  have H4 := Lib.hid h4
  clear B0 B1 b1 hs0 hw1 z1 h4
  go_enter Tryd.func73, Tryd.ntmps73
  go_wp2
  rw [← HW1.out]
  go_region_held3 (fun w' => w'.cell? ⟨w.heap.size, 0, none⟩ = some (.int .i64 m) ∧ w'.cell? ⟨w.heap.size, 1, none⟩ = some (.slice A 4 c))
    (first | exact ⟨c0, c1⟩ | go_keep)
    ((go_at_call 80; refine (clone4 _ xs _ HS.out H4.out).mono ?_; rintro e w2 ⟨g, c2, rfl, ho, hb⟩; replace c0 := (hb.cell (p := ⟨w.heap.size, 0, none⟩) l0).trans c0; replace c1 := (hb.cell (p := ⟨w.heap.size, 1, none⟩) l0).trans c1; have B2 := (show Blk w1.drew _ _ _ from HB1.out).below hb l1; have HO := Lib.hid ho; have HBB := Lib.hid hb; clear ho hb; have d0 := (show _ = some (Value.int .i64 0) from B2.cell 0); have d1 := (show _ = some (Value.slice none 0 0) from B2.cell 1); have f0 := B2.frozen 0; have f1 := B2.frozen 1))
  all_goals
    go_wp2
    have hsz : w.heap.size ≤ w1.heap.size := by omega
    refine bodyPost_ret (v := .agg #[.int .i64 m, .slice (some ⟨g, 0, none⟩) 4 c2]) (by simp [results, Tryd.results73, go_sem, d0, d1]) rfl ⟨g, c2, rfl, own_base (ownsRow_setCell_below (ownsRow_setCell_below HO.out l1 _) l1 _) hsz, ?_⟩
    exact ((HBL.out.trans ((show Below w.heap.size w1 w2 from (Below.refl _ _).drew.trans (HBB.out.mono hsz)))).setCell (by simp) _).setCell (by simp) _

set_option maxHeartbeats 1000000 in
theorem copyTold_ok (t : Tl) (av : Value) (w : World) (hs : Sl w 1 av (ints t.args)) (h4 : t.args.length = 4) :
    Calls Tryd.prog 62 #[.agg #[.int .i64 t.gate, .int .i64 t.epoch, .int .i64 t.num, av, .int .i64 t.verdict]] w fun e w' => ∃ g c, e = .returned (.agg #[.int .i64 t.gate, .int .i64 t.epoch, .int .i64 t.num, .slice (some ⟨g, 0, none⟩) 4 c, .int .i64 t.verdict]) ∧ w'.ownsRow w.heap.size 3 1 (.slice (some ⟨g, 0, none⟩) 4 c) 4 (ints t.args).flatten ∧ Below w.heap.size w w' := by
  obtain ⟨gt, ep, nm, xs, vd⟩ := t
  simp only at hs h4 ⊢
  have hs0 := hs
  obtain ⟨A, n, c, rfl, hA⟩ := hs
  clear hA
  obtain ⟨w1, hw1⟩ : ∃ w1, w1 = (w.alloc (.cells #[.int .i64 gt, .int .i64 ep, .int .i64 nm, .slice A n c, .int .i64 vd] 30)).alloc (.cells #[.int .i64 0, .int .i64 0, .int .i64 0, .slice none 0 0, .int .i64 0] 30) := ⟨_, rfl⟩
  have b1 : Below w.heap.size w w1 := by rw [hw1]; go_grown
  have z1 : w1.heap.size = w.heap.size + 1 + 1 := by rw [hw1]; simp
  have B0 : Blk w1 w.heap.size 30 #[.int .i64 gt, .int .i64 ep, .int .i64 nm, .slice A n c, .int .i64 vd] := by rw [hw1]; exact (Blk.new _ _ _).alloc _
  have B1 : Blk w1 (w.heap.size + 1) 30 #[.int .i64 0, .int .i64 0, .int .i64 0, .slice none 0 0, .int .i64 0] := by
    rw [hw1]
    have := Blk.new (w.alloc (.cells #[.int .i64 gt, .int .i64 ep, .int .i64 nm, .slice A n c, .int .i64 vd] 30)) 30 #[.int .i64 0, .int .i64 0, .int .i64 0, .slice none 0 0, .int .i64 0]
    rwa [World.size_alloc] at this
  have l0 := B0.lt
  have l1 := B1.lt
  have HB0 := Lib.hid B0; have HB1 := Lib.hid B1; have HBL := Lib.hid b1; have HW1 := Lib.hid hw1
  have HS := Lib.hid (hs0.below b1)
  have H4 := Lib.hid h4
  clear B0 B1 b1 hs0 hw1 z1 h4
  go_enter Tryd.func62, Tryd.ntmps62
  go_wp2_with fail
  rw [← HW1.out]
  refine (copyCall_ok nm _ xs _ HS.out H4.out).mono ?_; rintro e w2 ⟨g, c2, rfl, ho, hb⟩
  have B0' := HB0.out.below hb l0
  have B1' := HB1.out.below hb l1
  have c0 := (show _ = some (Value.int .i64 gt) from B0'.cell 0)
  have c1 := (show _ = some (Value.int .i64 ep) from B0'.cell 1)
  have c2' := (show _ = some (Value.int .i64 nm) from B0'.cell 2)
  have c3 := (show _ = some (Value.slice A n c) from B0'.cell 3)
  have c4 := (show _ = some (Value.int .i64 vd) from B0'.cell 4)
  have f2 := B0'.frozen 2
  have f3 := B0'.frozen 3
  have d0 := (show _ = some (Value.int .i64 0) from B1'.cell 0)
  have d1 := (show _ = some (Value.int .i64 0) from B1'.cell 1)
  have d2 := (show _ = some (Value.int .i64 0) from B1'.cell 2)
  have d3 := (show _ = some (Value.slice none 0 0) from B1'.cell 3)
  have d4 := (show _ = some (Value.int .i64 0) from B1'.cell 4)
  have e0 := B1'.frozen 0; have e1 := B1'.frozen 1; have e2 := B1'.frozen 2; have e3 := B1'.frozen 3; have e4 := B1'.frozen 4
  have HO := Lib.hid ho
  have HBB := Lib.hid hb
  clear ho hb B0' B1'
  go_wp2
  have hsz : w.heap.size ≤ w1.heap.size := by omega
  have hbl : Below w.heap.size w w2 := HBL.out.trans (HBB.out.mono hsz)
  refine bodyPost_ret (v := .agg #[.int .i64 gt, .int .i64 ep, .int .i64 nm, .slice (some ⟨g, 0, none⟩) 4 c2, .int .i64 vd]) (by simp [results, Tryd.results62, go_sem, c0, c1, c2', c3, c4, d0, d1, d2, d3, d4]) rfl ⟨g, c2, rfl, own_base (base := w1.heap.size) ?_ hsz, ?_⟩
  · exact (ownsRow_setCell_below (ownsRow_setCell_below (ownsRow_setCell_below (ownsRow_setCell_below (ownsRow_setCell_below (ownsRow_setCell_below (ownsRow_setCell_below HO.out l0 _) l0 _) l1 _) l1 _) l1 _) l1 _) l1 _)
  · exact (((((((hbl.setCell (by simp) _).setCell (by simp) _).setCell (by simp) _).setCell (by simp) _).setCell (by simp) _).setCell (by simp) _).setCell (by simp) _)

/-- A line of a book. -/
structure Ln where
  told : Tl
  sum : List UInt8
/-- The sum that stands last. -/
def lastOf (last : List UInt8) : List Ln → List UInt8
  | [] => last
  | ln :: r => lastOf ln.sum r
/-- Each line is ok, behind another sum. -/
noncomputable def goodL (last : List UInt8) : List Ln → Prop
  | [] => True
  | ln :: r => callOk ln.told.num ln.told.args ∧ ln.sum = lineHash last ln.told ∧ goodL ln.sum r
def bookOk (b : List Ln) : Prop := goodL [] b ∧ b.length ≤ 40
noncomputable def bookOkB (b : List Ln) : Bool := @decide (bookOk b) (Classical.propDecidable _)
theorem bookOkB_iff {b : List Ln} : bookOkB b = true ↔ bookOk b := by simp [bookOkB]
theorem bookOkB_of {b : List Ln} {x : Bool} (h : x = true ↔ bookOk b) : x = bookOkB b := by rw [Bool.eq_iff_iff, h, bookOkB_iff]
theorem lastOf_append (last : List UInt8) : ∀ (a b : List Ln), lastOf last (a ++ b) = lastOf (lastOf last a) b
  | [], b => rfl
  | x :: a, b => lastOf_append x.sum a b
theorem goodL_append : ∀ (last : List UInt8) (a b : List Ln), goodL last (a ++ b) ↔ goodL last a ∧ goodL (lastOf last a) b
  | last, [], b => by simp [goodL, lastOf]
  | last, x :: a, b => by
    have ih := goodL_append x.sum a b
    simp only [List.cons_append, goodL, lastOf, ih]
    constructor
    · rintro ⟨h1, h2, h3, h4⟩; exact ⟨⟨h1, h2, h3⟩, h4⟩
    · rintro ⟨⟨h1, h2, h3⟩, h4⟩; exact ⟨h1, h2, h3, h4⟩
theorem goodL_take {last : List UInt8} {b : List Ln} (h : goodL last b) (k : Nat) : goodL last (b.take k) := by
  have := (goodL_append last (b.take k) (b.drop k)).1 (by rwa [List.take_append_drop])
  exact this.1
theorem goodL_next {last : List UInt8} {b : List Ln} {k : Nat} {ln : Ln} (h : b[k]? = some ln) : goodL last (b.take (k + 1)) ↔ goodL last (b.take k) ∧ callOk ln.told.num ln.told.args ∧ ln.sum = lineHash (lastOf last (b.take k)) ln.told := by
  rw [List.take_add_one, h, goodL_append]
  simp [goodL]
theorem lastOf_next {last : List UInt8} {b : List Ln} {k : Nat} {ln : Ln} (h : b[k]? = some ln) : lastOf last (b.take (k + 1)) = ln.sum := by
  rw [List.take_add_one, h, lastOf_append]
  simp [lastOf]
theorem goodL_last : ∀ (last : List UInt8) (b : List Ln), last.length ≤ 64 → goodL last b → (lastOf last b).length ≤ 64
  | last, [], h, _ => h
  | last, x :: b, h, hg => goodL_last x.sum b (by rw [hg.2.1, lineHash_len]; omega) hg.2.2

/-- The pages of a book, the youngest first; each lies behind the older ones. -/
inductive Pages (w : World) (lo : Nat) : Nat → List Ln → Value → Prop
  | nil (hi : Nat) (h : lo ≤ hi) : Pages w lo hi [] (.pointer none)
  | cons {q hi p g c : Nat} {lns : List Ln} {ov : Value} {ln : Ln} (h : Pages w lo q lns ov) (ho : w.ownsRow q 3 1 (.slice (some ⟨g, 0, none⟩) 4 c) 4 (ints ln.told.args).flatten) (hg : g < p) (hp : p < hi)
      (hb : Blk w p 74 #[.int .i64 ln.told.gate, .int .i64 ln.told.epoch, .int .i64 ln.told.num, .slice (some ⟨g, 0, none⟩) 4 c, .int .i64 ln.told.verdict, .string ⟨ln.sum.toArray⟩, .int .i64 ((lns.length + 1 : Nat) : Int), ov]) :
      Pages w lo hi (ln :: lns) (.pointer (some ⟨p, 0, none⟩))
theorem Pages.le {w : World} {lo hi : Nat} {lns : List Ln} {v : Value} (h : Pages w lo hi lns v) : lo ≤ hi := by
  induction h with
  | nil hi h => exact h
  | cons h ho hg hp hb ih => have := (ho.form (by omega)); obtain ⟨g', c', e, h1, _⟩ := this; injection e with e; injection e with e; injection e with e; omega
theorem Pages.kept {w w' : World} {lo hi : Nat} {lns : List Ln} {v : Value} (h : Pages w lo hi lns v) (hb : Below w.heap.size w w') : Pages w' lo hi lns v := by
  induction h with
  | nil hi h => exact .nil hi h
  | cons h ho hg hp hbk ih => exact .cons ih (own_below ho hb) hg hp (hbk.below hb hbk.lt)
theorem Pages.up {w : World} {lo hi hi' : Nat} {lns : List Ln} {v : Value} (h : Pages w lo hi lns v) (hh : hi ≤ hi') : Pages w lo hi' lns v := by
  cases h with
  | nil _ h => exact .nil hi' (Nat.le_trans h hh)
  | cons h ho hg hp hbk => exact .cons h ho hg (Nat.lt_of_lt_of_le hp hh) hbk
def lastSum (lns : List Ln) : List UInt8 := match lns with
  | [] => []
  | ln :: _ => ln.sum

theorem size_any (lo hi : Nat) (lns : List Ln) (v : Value) (w : World) (h : Pages w lo hi lns v) :
    Calls Tryd.prog 60 #[v] w fun e w' => e = .returned (.int .i64 ((lns.length : Nat) : Int)) ∧ w = w' := by
  cases h with
  | nil _ h =>
    go_enter Tryd.func60, Tryd.ntmps60
    go_wp2
    go_ret
    exact ⟨rfl, rfl⟩
  | @cons q _ p g c lns ov ln h ho hg hp hb =>
    have c6 := (show _ = some (Value.int .i64 ((lns.length + 1 : Nat) : Int)) from hb.cell 6)
    go_enter Tryd.func60, Tryd.ntmps60
    go_wp2
    go_ret
    exact ⟨rfl, rfl⟩
theorem lineSum_any (lo hi : Nat) (lns : List Ln) (v : Value) (t : Tl) (av : Value) (w : World) (hpw : Pow w) (hk : Kww w) (h : Pages w lo hi lns v) (ht : t.ok) (hs : Sl w 1 av (ints t.args)) (hl : (lastSum lns).length ≤ 1048576) :
    Calls Tryd.prog 63 #[v, .agg #[.int .i64 t.gate, .int .i64 t.epoch, .int .i64 t.num, av, .int .i64 t.verdict]] w fun e w' => e = .returned (.string ⟨(lineHash (lastSum lns) t).toArray⟩) ∧ Below w.heap.size w w' := by
  cases h with
  | nil _ h => exact lineSum_none t av w hpw hk ht hs
  | @cons q _ p g c lns ov ln h ho hg hp hb => exact lineSum_some p ln.told _ ln.sum _ _ t av w hpw hk hb ht hs hl
end Go.Proofs.YtaieopdfkapgdaaDoor
