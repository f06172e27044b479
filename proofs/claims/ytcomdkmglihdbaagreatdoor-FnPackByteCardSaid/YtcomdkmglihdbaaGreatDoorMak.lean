/- Joined texts: MakeS MakeR MakeU MakeT. -/
import Derived.Test.YtcomdkmglihdbaaGreatDoorPts
import Derived.Test.YtcomdkmglihdbaaGreatDoorKit
import Derived.Lib.OthersKept
import Derived.Lib.BufferKept
import Derived.BigRegion
import Derived.Test.YtcomdkmglihdbaaGreatDoorTxt
import Derived.Deep.RegionHeld3
-- spec's graphs of policies: l4Point: a point put behind others, or found among them.
namespace Go.Proofs.YtcomdkmglihdbaaGreatDoor
open Go.RowKit
set_option linter.unusedSimpArgs false
set_option linter.unusedVariables false

/-- What lay below stands, and whatever is no row of points. -/
structure PtFrame (base : Nat) (w w' : World) : Prop where
  below : Below base w w'
  kept : Lib.OthersKept 190 none w w'
theorem PtFrame.of_below {base : Nat} {w w' : World} (h : Below w.heap.size w w') (hb : base ≤ w.heap.size) : PtFrame base w w' := ⟨h.mono hb, (Lib.OthersKept.refl _ _ w).below h⟩
theorem PtFrame.trans {base : Nat} {a b c : World} (h : PtFrame base a b) (k : PtFrame base b c) : PtFrame base a c := ⟨h.below.trans k.below, h.kept.trans k.kept⟩
theorem PtFrame.blk {base : Nat} {w w' : World} (h : PtFrame base w w') {q : Nat} {t : TypeId} {cs : Array Value} (hq : Blk w q t cs) (ht : t ≠ 190) : Blk w' q t cs := by
  have := h.kept q _ hq (by intro e; cases e) (by intro c fz e; cases e; exact ht rfl)
  exact this
theorem PtFrame.row {base n : Nat} {a w w' : World} {v : Value} {xs : List Value} (h : PtFrame base a w) (ho : w.ownsRow base 190 7 v n xs) (hb : base ≤ w.heap.size) (hg : w.grownBy w' v.ownBlock) : PtFrame base a w' :=
  ⟨h.below.trans ((Below.refl base w).grown hg hb (fun k hk => (ho.lt k hk).1)), h.kept.grown hg (fun q e => by
    rcases ho.2 with ⟨rfl, _⟩ | ⟨g', cap', cur, rfl, _, hh, _⟩
    · cases e
    · cases e; exact ⟨cur, (0, 0), hh⟩)⟩
/-- Where a point is put among others. -/
def PutIs (g : List Pt) (x : Pt) (g' : List Pt) (i : Nat) : Prop :=
  (g' = g ∧ g[i]? = some x ∧ ∀ j : Nat, j < i → g[j]? ≠ some x) ∨ (g' = g ++ [x] ∧ i = g.length ∧ ∀ j : Nat, g[j]? ≠ some x)
theorem PutIs.one {g g1 g2 : List Pt} {x : Pt} {i j : Nat} (h : PutIs g x g1 i) (h' : PutIs g x g2 j) : g1 = g2 ∧ i = j := by
  rcases h with ⟨rfl, h1, h2⟩ | ⟨rfl, rfl, h2⟩ <;> rcases h' with ⟨rfl, h1', h2'⟩ | ⟨rfl, rfl, h2'⟩
  · refine ⟨rfl, ?_⟩
    rcases Nat.lt_trichotomy i j with h | h | h
    · exact absurd h1 (h2' i h)
    · exact h
    · exact absurd h1' (h2 j h)
  · exact absurd h1 (h2' i)
  · exact absurd h1' (h2 j)
  · exact ⟨rfl, rfl⟩
theorem PutIs.at_ {g g' : List Pt} {x : Pt} {i : Nat} (h : PutIs g x g' i) : g'[i]? = some x ∧ i < g'.length ∧ g.length ≤ g'.length ∧ g'.length ≤ g.length + 1 ∧ ∀ (j : Nat) (p : Pt), g[j]? = some p → g'[j]? = some p := by
  rcases h with ⟨rfl, h1, _⟩ | ⟨rfl, rfl, _⟩
  · exact ⟨h1, (List.getElem?_eq_some_iff.1 h1).1, Nat.le_refl _, by omega, fun _ _ h => h⟩
  · exact ⟨by simp, by simp, by simp, by simp, fun j p hj => by rw [List.getElem?_append_left (List.getElem?_eq_some_iff.1 hj).1]; exact hj⟩

theorem info_PointM : (Tryz.prog.info? 190).map (fun i => (i.zero, i.size, i.bytes)) = some (some (.agg #[.int .i64 0, .int .i64 0, .int .i64 0, .int .i64 0, .int .i64 0, .int .i64 0, .int .i64 0]), 7, 56) := by kernel_rfl

/-- No block but the row's own may have changed. -/
def RowApart (v : Value) (w w' : World) : Prop := ∀ q : Nat, q < w.heap.size → v.ownBlock ≠ some q → w'.heap[q]? = w.heap[q]?
theorem RowApart.of_below {v : Value} {w w' : World} (h : Below w.heap.size w w') : RowApart v w w' := fun q hq _ => h.block q hq
theorem RowApart.grown {v : Value} {w w1 w' : World} (h : Below w.heap.size w w1) (hg : w1.grownBy w' v.ownBlock) : RowApart v w w' := fun q hq hv => (hg.block q (Nat.lt_of_lt_of_le hq h.size) (fun e => hv e.symm)).trans (h.block q hq)
theorem RowApart.blk {v : Value} {w w' : World} {q : Nat} {t : TypeId} {cs : Array Value} (h : RowApart v w w') (hq : Blk w q t cs) (hv : v.ownBlock ≠ some q) : Blk w' q t cs := (h q hq.lt hv).trans hq

set_option maxHeartbeats 4000000 in
theorem l4Point_all (base : Nat) (v : Value) (g : List Pt) (x : Pt) (w : World) (h : w.ownsRow base 190 7 v g.length (g.map Pt.cells).flatten) (hb : base ≤ w.heap.size) (hn : g.length ≤ 100000) :
    Calls Tryz.prog 121 #[v, .agg #[.int .i64 x.verdict, .int .i64 x.field, .int .i64 x.mask, .int .i64 x.op, .int .i64 x.value, .int .i64 x.yes, .int .i64 x.no]] w fun e w' =>
      ∃ v' g' i, e = .returned (.tuple #[v', .int .i64 (i : Nat)]) ∧ PutIs g x g' i ∧ w'.ownsRow base 190 7 v' g'.length (g'.map Pt.cells).flatten ∧ PtFrame base w w' ∧ RowApart v w w' := by
  obtain ⟨A, n, c, rfl, hA⟩ := SlA.of_own h (by simp) (Pt.rows g)
  have hl : g.length = n := by have := hA.len; simpa using this
  have hm := hA.max
  unfold maxLen at hm
  have hc := hA.cap
  have hn2 : n ≤ 100000 := by omega
  have HOWN := Lib.hid h; have HL := Lib.hid hl; clear h hl
  have hB0 : Below w.heap.size w (w.alloc (.cells #[.int .i64 x.verdict, .int .i64 x.field, .int .i64 x.mask, .int .i64 x.op, .int .i64 x.value, .int .i64 x.yes, .int .i64 x.no] 190)) := by go_grown
  go_enter Tryz.func121, Tryz.ntmps121
  go_wp2
  go_loopw [6] (fun i wr => ∃ k : Nat, k ≤ n ∧ i = .int .i64 k ∧ (∀ j : Nat, j < k → g[j]? ≠ some x) ∧ Below (w.heap.size + 1) (w.alloc (.cells #[.int .i64 x.verdict, .int .i64 x.field, .int .i64 x.mask, .int .i64 x.op, .int .i64 x.value, .int .i64 x.yes, .int .i64 x.no] 190)) wr) (fun i _ => n - (intOf i).toNat)
  case atStart => exact ⟨0, Nat.zero_le _, rfl, fun j h => absurd h (by omega), Below.refl _ _⟩
  case round =>
    obtain ⟨k, hk, rfl, hno, hbw⟩ := hrel
    have hsz := hbw.size
    have hbox : Blk wr w.heap.size 190 #[.int .i64 x.verdict, .int .i64 x.field, .int .i64 x.mask, .int .i64 x.op, .int .i64 x.value, .int .i64 x.yes, .int .i64 x.no] := (hbw.block w.heap.size (by omega)).trans (Blk.new w _ _)
    have hbw0 : Below w.heap.size w wr := hB0.trans (hbw.mono (by omega))
    have hz0 := hbw0.size
    have q0 := hbox.cell 0; have q1 := hbox.cell 1; have q2 := hbox.cell 2; have q3 := hbox.cell 3; have q4 := hbox.cell 4; have q5 := hbox.cell 5; have q6 := hbox.cell 6
    simp at q0 q1 q2 q3 q4 q5 q6
    have HNO := Lib.hid hno; clear hno
    by_cases hlt : k < n
    · have hki : (k : Int) < n := by omega
      obtain ⟨b, off, p, rfl, hab, hgp, hcell⟩ := pts_get hA hlt
      obtain ⟨c0, c1, c2, c3, c4, c5, c6⟩ := hcell wr _ hbw0 hab
      have HP := Lib.hid hgp; clear hgp hcell
      have hnext : p ≠ x → ∀ j : Nat, j < k + 1 → g[j]? ≠ some x := fun hne j hj => by
        by_cases e : j = k
        · subst e; rw [HP.out]; intro e2; exact hne (Option.some.inj e2)
        · exact HNO.out j (by omega)
      have HNX := Lib.hid hnext; clear hnext
      by_cases everdict : p.verdict = x.verdict
      · by_cases efield : p.field = x.field
        · by_cases emask : p.mask = x.mask
          · by_cases eop : p.op = x.op
            · by_cases evalue : p.value = x.value
              · by_cases eyes : p.yes = x.yes
                · by_cases eno : p.no = x.no
                  · have hpx : p = x := Pt.ext_iff'.2 ⟨everdict, efield, emask, eop, evalue, eyes, eno⟩
                    have HPX := Lib.hid hpx; clear hpx
                    go_wp2
                    go_region
                    all_goals go_wp2
                    all_goals
                      go_ret2
                      exact ⟨_, g, k, rfl, .inl ⟨rfl, by rw [HP.out, HPX.out], HNO.out⟩, own_below HOWN.out (by go_grown), PtFrame.of_below (by go_grown) hb, RowApart.of_below (by go_grown)⟩
                  · go_wp2
                    go_region
                    all_goals go_wp2
                    all_goals exact ⟨⟨k + 1, by omega, by go_num, HNX.out (fun e => eno (by rw [e])), hbw.drew⟩, by simp [intOf]; try omega⟩
                · go_wp2
                  go_region
                  all_goals go_wp2
                  all_goals exact ⟨⟨k + 1, by omega, by go_num, HNX.out (fun e => eyes (by rw [e])), hbw.drew⟩, by simp [intOf]; try omega⟩
              · go_wp2
                go_region
                all_goals go_wp2
                all_goals exact ⟨⟨k + 1, by omega, by go_num, HNX.out (fun e => evalue (by rw [e])), hbw.drew⟩, by simp [intOf]; try omega⟩
            · go_wp2
              go_region
              all_goals go_wp2
              all_goals exact ⟨⟨k + 1, by omega, by go_num, HNX.out (fun e => eop (by rw [e])), hbw.drew⟩, by simp [intOf]; try omega⟩
          · go_wp2
            go_region
            all_goals go_wp2
            all_goals exact ⟨⟨k + 1, by omega, by go_num, HNX.out (fun e => emask (by rw [e])), hbw.drew⟩, by simp [intOf]; try omega⟩
        · go_wp2
          go_region
          all_goals go_wp2
          all_goals exact ⟨⟨k + 1, by omega, by go_num, HNX.out (fun e => efield (by rw [e])), hbw.drew⟩, by simp [intOf]; try omega⟩
      · go_wp2
        go_region
        all_goals go_wp2
        all_goals exact ⟨⟨k + 1, by omega, by go_num, HNX.out (fun e => everdict (by rw [e])), hbw.drew⟩, by simp [intOf]; try omega⟩
    · obtain rfl : k = n := by omega
      have hOW := own_below HOWN.out hbw0
      have HOW := Lib.hid hOW; clear hOW
      go_wp2_with (at_builtin; go_must (refine wpList_app1g (w0 := wr) rfl (.tmp 21) (.tmp 23) _ rfl base 190 Tryz.underlying157 info_PointM rfl (by omega) (by omega) _ k (g.map Pt.cells) rfl (by have := HOW.out; rw [HL.out] at this; exact this) rfl (by simp [Value.oneCell']) rfl (by omega) (by omega) ?_); intro v5 w5 hown5 hb5 _; obtain ⟨g5, cap5, rfl, hg5, hg5'⟩ := hown5.form (by omega))
      go_ret2
      refine ⟨_, g ++ [x], g.length, by rw [HL.out]; rfl, .inr ⟨rfl, rfl, fun j hj => HNO.out j (by have := (List.getElem?_eq_some_iff.1 hj).1; rw [HL.out] at this; exact this) hj⟩, ?_, (PtFrame.of_below hbw0 hb).row HOW.out (by omega) hb5, RowApart.grown hbw0 hb5⟩
      rw [List.length_append, HL.out]
      simpa [Pt.cells] using hown5
theorem l4Point_any (base : Nat) (v : Value) (g : List Pt) (x : Pt) (w : World) (h : w.ownsRow base 190 7 v g.length (g.map Pt.cells).flatten) (hb : base ≤ w.heap.size) (hn : g.length ≤ 100000) :
    Calls Tryz.prog 121 #[v, .agg #[.int .i64 x.verdict, .int .i64 x.field, .int .i64 x.mask, .int .i64 x.op, .int .i64 x.value, .int .i64 x.yes, .int .i64 x.no]] w fun e w' =>
      ∃ v' g' i, e = .returned (.tuple #[v', .int .i64 (i : Nat)]) ∧ PutIs g x g' i ∧ w'.ownsRow base 190 7 v' g'.length (g'.map Pt.cells).flatten ∧ PtFrame base w w' :=
  (l4Point_all base v g x w h hb hn).mono fun e w' ⟨v', g', i, h1, h2, h3, h4, _⟩ => ⟨v', g', i, h1, h2, h3, h4⟩
/-- Where a look is put: nowhere, if it makes no difference. -/
def LookIs (g : List Pt) (f m o v : Int) (yes no : Nat) (g' : List Pt) (i : Nat) : Prop :=
  (yes = no ∧ g' = g ∧ i = yes) ∨ (yes ≠ no ∧ PutIs g ⟨0, f, m, o, v, yes, no⟩ g' i)
theorem LookIs.one {g g1 g2 : List Pt} {f m o v : Int} {yes no i j : Nat} (h : LookIs g f m o v yes no g1 i) (h' : LookIs g f m o v yes no g2 j) : g1 = g2 ∧ i = j := by
  rcases h with ⟨e, rfl, rfl⟩ | ⟨e, h⟩ <;> rcases h' with ⟨e', rfl, rfl⟩ | ⟨e', h'⟩
  · exact ⟨rfl, rfl⟩
  · exact absurd e e'
  · exact absurd e' e
  · exact h.one h'

theorem l4Look_all (base : Nat) (u : Value) (g : List Pt) (f m o v : Int) (yes no : Nat) (w : World) (h : w.ownsRow base 190 7 u g.length (g.map Pt.cells).flatten) (hb : base ≤ w.heap.size) (hn : g.length ≤ 100000) :
    Calls Tryz.prog 124 #[u, .int .i64 f, .int .i64 m, .int .i64 o, .int .i64 v, .int .i64 yes, .int .i64 no] w fun e w' =>
      ∃ v' g' i, e = .returned (.tuple #[v', .int .i64 (i : Nat)]) ∧ LookIs g f m o v yes no g' i ∧ w'.ownsRow base 190 7 v' g'.length (g'.map Pt.cells).flatten ∧ PtFrame base w w' ∧ RowApart u w w' := by
  by_cases e : yes = no
  · have hd : ((yes : Int) == (no : Int)) = true := by simp [e]
    have HE := Lib.hid e; have HO := Lib.hid h; clear e h
    go_enter Tryz.func124, Tryz.ntmps124
    go_wp2
    go_ret2
    exact ⟨u, g, yes, rfl, .inl ⟨HE.out, rfl, rfl⟩, HO.out, PtFrame.of_below (Below.refl _ _) hb, RowApart.of_below (Below.refl _ _)⟩
  · have hd : ((yes : Int) == (no : Int)) = false := by simp; omega
    have HE := Lib.hid e; have HO := Lib.hid h; clear e h
    go_enter Tryz.func124, Tryz.ntmps124
    go_wp2_with fail
    refine (l4Point_all base u g ⟨0, f, m, o, v, yes, no⟩ _ HO.out hb hn).mono ?_; rintro e w1 ⟨v', g', i, rfl, hP, ho, hb1, hra⟩
    have HP := Lib.hid hP; have HO2 := Lib.hid ho; clear hP ho
    go_wp2
    go_ret2
    exact ⟨v', g', i, rfl, .inr ⟨HE.out, HP.out⟩, HO2.out, hb1, hra⟩

theorem l4Look_any (base : Nat) (u : Value) (g : List Pt) (f m o v : Int) (yes no : Nat) (w : World) (h : w.ownsRow base 190 7 u g.length (g.map Pt.cells).flatten) (hb : base ≤ w.heap.size) (hn : g.length ≤ 100000) :
    Calls Tryz.prog 124 #[u, .int .i64 f, .int .i64 m, .int .i64 o, .int .i64 v, .int .i64 yes, .int .i64 no] w fun e w' =>
      ∃ v' g' i, e = .returned (.tuple #[v', .int .i64 (i : Nat)]) ∧ LookIs g f m o v yes no g' i ∧ w'.ownsRow base 190 7 v' g'.length (g'.map Pt.cells).flatten ∧ PtFrame base w w' :=
  (l4Look_all base u g f m o v yes no w h hb hn).mono fun e w' ⟨v', g', i, h1, h2, h3, h4, _⟩ => ⟨v', g', i, h1, h2, h3, h4⟩

/-- Where a test is put as a look. -/
def TestIs (g : List Pt) (t : Ts) (yes no : Nat) (g' : List Pt) (i : Nat) : Prop :=
  (t.op = 1 ∧ LookIs g t.field t.mask 1 t.value yes no g' i) ∨ (t.op ≠ 1 ∧ t.op = 3 ∧ LookIs g t.field t.mask 3 t.value yes no g' i) ∨
  (t.op ≠ 1 ∧ t.op ≠ 3 ∧ t.value = 0 ∧ g' = g ∧ i = no) ∨ (t.op ≠ 1 ∧ t.op ≠ 3 ∧ t.value ≠ 0 ∧ LookIs g t.field t.mask 3 (t.value - 1) no yes g' i)

theorem l4Test_any (base : Nat) (u : Value) (g : List Pt) (t : Ts) (yes no : Nat) (w : World) (h : w.ownsRow base 190 7 u g.length (g.map Pt.cells).flatten) (hb : base ≤ w.heap.size) (hn : g.length ≤ 100000) (ht : 0 ≤ t.value ∧ t.value ≤ 4294967295) :
    Calls Tryz.prog 128 #[u, .agg #[.int .i64 t.field, .int .i64 t.mask, .int .i64 t.op, .int .i64 t.value], .int .i64 yes, .int .i64 no] w fun e w' =>
      ∃ v' g' i, e = .returned (.tuple #[v', .int .i64 (i : Nat)]) ∧ TestIs g t yes no g' i ∧ w'.ownsRow base 190 7 v' g'.length (g'.map Pt.cells).flatten ∧ PtFrame base w w' := by
  obtain ⟨f, m, o, v⟩ := t
  simp only at ht
  have hb0 : Below w.heap.size w (w.alloc (.cells #[.int .i64 f, .int .i64 m, .int .i64 o, .int .i64 v] 127)) := by go_grown
  have h2 := own_below h hb0
  have hz : base ≤ (w.alloc (.cells #[.int .i64 f, .int .i64 m, .int .i64 o, .int .i64 v] 127)).heap.size := by simp; omega
  have hb00 := PtFrame.of_below hb0 hb
  have HO := Lib.hid h; have HO2 := Lib.hid h2; clear h h2
  by_cases h1 : o = 1
  · have hd : (o == 1) = true := by simp [h1]
    have H1 := Lib.hid h1; clear h1
    go_enter Tryz.func128, Tryz.ntmps128
    go_wp2_with fail
    refine (l4Look_any base u g f m 1 v yes no _ HO2.out hz hn).mono ?_; rintro e w1 ⟨v', g', i, rfl, hP, ho, hb1⟩
    have HP := Lib.hid hP; have HO3 := Lib.hid ho; clear hP ho
    go_wp2
    go_ret2
    exact ⟨v', g', i, rfl, .inl ⟨H1.out, HP.out⟩, HO3.out, hb00.trans hb1⟩
  · have hd : (o == 1) = false := by simp [h1]
    by_cases h3 : o = 3
    · have hd3 : (o == 3) = true := by simp [h3]
      have H1 := Lib.hid h1; have H3 := Lib.hid h3; clear h1 h3
      go_enter Tryz.func128, Tryz.ntmps128
      go_wp2_with fail
      refine (l4Look_any base u g f m 3 v yes no _ HO2.out hz hn).mono ?_; rintro e w1 ⟨v', g', i, rfl, hP, ho, hb1⟩
      have HP := Lib.hid hP; have HO3 := Lib.hid ho; clear hP ho
      go_wp2
      go_ret2
      exact ⟨v', g', i, rfl, .inr (.inl ⟨H1.out, H3.out, HP.out⟩), HO3.out, hb00.trans hb1⟩
    · have hd3 : (o == 3) = false := by simp [h3]
      by_cases h0 : v = 0
      · have hd0 : (v == 0) = true := by simp [h0]
        have H1 := Lib.hid h1; have H3 := Lib.hid h3; have H0 := Lib.hid h0; clear h1 h3 h0
        go_enter Tryz.func128, Tryz.ntmps128
        go_wp2
        go_ret2
        exact ⟨u, g, no, rfl, .inr (.inr (.inl ⟨H1.out, H3.out, H0.out, rfl, rfl⟩)), HO2.out, hb00⟩
      · have hd0 : (v == 0) = false := by simp [h0]
        have H1 := Lib.hid h1; have H3 := Lib.hid h3; have H0 := Lib.hid h0; clear h1 h3
        go_enter Tryz.func128, Tryz.ntmps128
        go_wp2_with fail
        refine (l4Look_any base u g f m 3 (v - 1) no yes _ HO2.out hz hn).mono ?_; rintro e w1 ⟨v', g', i, rfl, hP, ho, hb1⟩
        have HP := Lib.hid hP; have HO3 := Lib.hid ho; clear hP ho
        go_wp2
        go_ret2
        exact ⟨v', g', i, rfl, .inr (.inr (.inr ⟨H1.out, H3.out, H0.out, HP.out⟩)), HO3.out, hb00.trans hb1⟩
end Go.Proofs.YtcomdkmglihdbaaGreatDoor

-- spec's graphs of policies: l4Rule, l4Make: every look leads to points ahead of it.
namespace Go.Proofs.YtcomdkmglihdbaaGreatDoor
open Go.RowKit
set_option linter.unusedSimpArgs false
set_option linter.unusedVariables false

/-- Every look leads to points ahead of it. -/
def Ahead (g : List Pt) : Prop := ∀ (i : Nat) (p : Pt), g[i]? = some p → p.op > 0 → ∃ y n : Nat, p.yes = y ∧ p.no = n ∧ y < i ∧ n < i
theorem Ahead.nil : Ahead [] := fun i p h => by simp at h
theorem Ahead.put {g g' : List Pt} {x : Pt} {i : Nat} (h : Ahead g) (hp : PutIs g x g' i) (hx : x.op > 0 → ∃ y n : Nat, x.yes = y ∧ x.no = n ∧ y < g.length ∧ n < g.length) : Ahead g' ∧ i < g'.length ∧ g.length ≤ g'.length ∧ g'.length ≤ g.length + 1 := by
  obtain ⟨-, a1, a2, a3, -⟩ := hp.at_
  refine ⟨?_, a1, a2, a3⟩
  rcases hp with ⟨rfl, -, -⟩ | ⟨rfl, rfl, -⟩
  · exact h
  · intro j p hj hop
    by_cases e : j < g.length
    · rw [List.getElem?_append_left e] at hj
      exact h j p hj hop
    · rw [List.getElem?_append_right (by omega)] at hj
      have e2 : j - g.length = 0 := by have := (List.getElem?_eq_some_iff.1 hj).1; simp at this; omega
      rw [e2] at hj
      simp at hj
      subst hj
      obtain ⟨y, n, h1, h2, h3, h4⟩ := hx hop
      exact ⟨y, n, h1, h2, by omega, by omega⟩
theorem Ahead.look {g g' : List Pt} {f m o v : Int} {y n i : Nat} (h : Ahead g) (hl : LookIs g f m o v y n g' i) (hy : y < g.length) (hn : n < g.length) : Ahead g' ∧ i < g'.length ∧ g.length ≤ g'.length ∧ g'.length ≤ g.length + 1 := by
  rcases hl with ⟨-, rfl, rfl⟩ | ⟨-, hp⟩
  · exact ⟨h, hy, Nat.le_refl _, by omega⟩
  · exact h.put hp fun _ => ⟨y, n, rfl, rfl, hy, hn⟩
theorem Ahead.test {g g' : List Pt} {t : Ts} {y n i : Nat} (h : Ahead g) (hl : TestIs g t y n g' i) (hy : y < g.length) (hn : n < g.length) : Ahead g' ∧ i < g'.length ∧ g.length ≤ g'.length ∧ g'.length ≤ g.length + 1 := by
  rcases hl with ⟨-, hl⟩ | ⟨-, -, hl⟩ | ⟨-, -, -, rfl, rfl⟩ | ⟨-, -, -, hl⟩
  · exact h.look hl hy hn
  · exact h.look hl hy hn
  · exact ⟨h, hn, Nat.le_refl _, by omega⟩
  · exact h.look hl hn hy

set_option maxHeartbeats 4000000 in
theorem l4Rule_any (w0 : World) (u : Value) (g : List Pt) (r : Rl) (tv : Value) (no : Nat) (w : World) (h : w.ownsRow w0.heap.size 190 7 u g.length (g.map Pt.cells).flatten) (hw0 : Below w0.heap.size w0 w) (hn : g.length ≤ 1000) (hA : Ahead g) (hno : no < g.length) (hok : ruleOkB r = true) (hT : Sl w0 4 tv (tsR r.tests)) :
    Calls Tryz.prog 122 #[u, .agg #[.int .i64 r.verdict, .int .i64 r.low, .int .i64 r.high, tv], .int .i64 no] w fun e w' =>
      ∃ v' g' i, e = .returned (.tuple #[v', .int .i64 (i : Nat)]) ∧ Ahead g' ∧ i < g'.length ∧ g.length ≤ g'.length ∧ g'.length ≤ g.length + 7 ∧ w'.ownsRow w0.heap.size 190 7 v' g'.length (g'.map Pt.cells).flatten ∧ PtFrame w0.heap.size w w' := by
  have hw := ruleOkB_words hok
  clear hok
  obtain ⟨vd, lo, hi, ts⟩ := r
  simp only at hT hw ⊢
  obtain ⟨⟨v0, v1⟩, ⟨l0, l1⟩, h1, n4, hts⟩ := hw
  obtain ⟨A, n, c, rfl, hSA⟩ := hT
  have htn : ts.length = n := by have := hSA.len; rwa [tsR_len] at this
  have hc := hSA.cap
  have hm := hSA.max
  unfold maxLen at hm
  rw [htn] at n4
  have hbs := hw0.size
  have hb0 : Below w.heap.size w (w.alloc (.cells #[.int .i64 vd, .int .i64 lo, .int .i64 hi, .slice A n c] 125)) := by go_grown
  have h2 := own_below h hb0
  have hz : w0.heap.size ≤ (w.alloc (.cells #[.int .i64 vd, .int .i64 lo, .int .i64 hi, .slice A n c] 125)).heap.size := by simp; omega
  have F0 : PtFrame w0.heap.size w (w.alloc (.cells #[.int .i64 vd, .int .i64 lo, .int .i64 hi, .slice A n c] 125)) := PtFrame.of_below hb0 hbs
  have B0 := Blk.new w 125 #[.int .i64 vd, .int .i64 lo, .int .i64 hi, .slice A n c]
  have HT := Lib.hid hts; have HO := Lib.hid h2; have HA := Lib.hid hA; clear hts h h2 hA hb0
  go_enter Tryz.func122, Tryz.ntmps122
  go_wp2_with fail
  refine (l4Point_any w0.heap.size u g ⟨vd, 0, 0, 0, 0, 0, 0⟩ _ HO.out hz (by omega)).mono ?_
  rintro e W1 ⟨u1, g1, a1, rfl, hP, ho1, hf1⟩
  obtain ⟨p1, p2, p3, p4⟩ := HA.out.put hP (fun h => absurd h (Int.lt_irrefl 0))
  have F1 := F0.trans hf1
  have B1 := hf1.blk B0 (by decide)
  have b3 : W1.cell? ⟨w.heap.size, 3, none⟩ = some (.slice A n c) := B1.cell 3
  have HA1 := Lib.hid p1; have HO1 := Lib.hid ho1; clear p1 ho1 hP HA HO F0 hf1 B0 hz
  go_wp2
  go_loopw [0, 8, 9] (fun uu at_ i wr => ∃ (k : Nat) (z : Int) (g' : List Pt) (a : Nat), k ≤ n ∧ z + 1 = k ∧ i = .int .i64 z ∧ at_ = .int .i64 a ∧ Ahead g' ∧ a < g'.length ∧ g.length ≤ g'.length ∧ g'.length + k ≤ g.length + 1 + n ∧ wr.ownsRow w0.heap.size 190 7 uu g'.length (g'.map Pt.cells).flatten ∧ PtFrame w0.heap.size w wr ∧ Blk wr w.heap.size 125 #[.int .i64 vd, .int .i64 lo, .int .i64 hi, .slice A n c]) (fun _ _ i _ => (intOf i + 1).toNat)
  case atStart => exact ⟨n, (n : Int) - 1, g1, a1, by omega, by omega, by go_num, rfl, HA1.out, p2, p3, by omega, HO1.out, F1, B1⟩
  case round =>
    obtain ⟨k, z, g', a, hk, hkz, rfl, rfl, hA, ha, hg1, hg2, ho, hf, hB⟩ := hrel
    clear HA1 HO1 F1 B1 b3 p2 p3 p4
    have HA := Lib.hid hA; have HO := Lib.hid ho; clear hA ho
    have b1 : wr.cell? ⟨w.heap.size, 1, none⟩ = some (.int .i64 lo) := hB.cell 1
    have b2 : wr.cell? ⟨w.heap.size, 2, none⟩ = some (.int .i64 hi) := hB.cell 2
    have b3 : wr.cell? ⟨w.heap.size, 3, none⟩ = some (.slice A n c) := hB.cell 3
    have hzw : w0.heap.size ≤ wr.heap.size := Nat.le_trans hbs (by have := hB.lt; omega)
    by_cases hge : 0 ≤ z
    · obtain ⟨m, rfl⟩ : ∃ m : Nat, z = m := ⟨z.toNat, by omega⟩
      have hmn : m < n := by omega
      obtain ⟨b, off, t, rfl, hab, hgp, hcell⟩ := ts_get hSA hmn
      obtain ⟨c0, c1, c2, c3⟩ := hcell wr _ (hw0.trans hf.below) hab
      obtain ⟨t1, t2, t3, t4⟩ := testOkB_words (HT.out t (List.mem_of_getElem? hgp))
      clear hcell hgp
      obtain ⟨f, m', op, v⟩ := t
      simp only at c0 c1 c2 c3 t1 t2 t3 t4
      go_wp2_with fail
      refine (l4Test_any w0.heap.size u0 g' ⟨f, m', op, v⟩ a no _ HO.out hzw (by omega) t3).mono ?_
      rintro e W2 ⟨u2, g2, a2, rfl, hP, ho2, hf2⟩
      obtain ⟨q1, q2, q3, q4⟩ := HA.out.test hP ha (by omega)
      have F2 := hf.trans hf2
      have B2 := hf2.blk hB (by decide)
      have HA2 := Lib.hid q1; have HO2 := Lib.hid ho2; clear q1 ho2 hP HA HO hf hf2 hB
      go_wp2
      exact ⟨⟨m, (m : Int) - 1, g2, a2, by omega, by omega, by go_num, rfl, HA2.out, q2, by omega, by omega, HO2.out, F2, B2⟩, by simp [intOf]⟩
    · by_cases e1 : lo = hi
      · have hd : (lo == hi) = true := by simp [e1]
        go_wp2_with fail
        refine (l4Look_any w0.heap.size u0 g' 0 4294967295 1 _ a no _ HO.out hzw (by omega)).mono ?_
        rintro e W2 ⟨u2, g2, a2, rfl, hP, ho2, hf2⟩
        obtain ⟨q1, q2, q3, q4⟩ := HA.out.look hP ha (by omega)
        have HA2 := Lib.hid q1; have HO2 := Lib.hid ho2; clear q1 ho2 hP HA HO
        go_wp2
        go_ret2
        exact ⟨u2, g2, a2, rfl, HA2.out, q2, by omega, by omega, HO2.out, hf.trans hf2⟩
      · have hd : (lo == hi) = false := by simp [e1]
        rcases Decidable.em (hi < 4294967295) with e2 | e2
        case' inl =>
          go_wp2_with fail
          refine (l4Look_any w0.heap.size u0 g' 0 4294967295 3 hi no a _ HO.out hzw (by omega)).mono ?_
          rintro e W2 ⟨u2, g2, a2, rfl, hP, ho2, hf2⟩
          obtain ⟨q1, q2, q3, q4⟩ := HA.out.look hP (by omega) ha
          have F2 := hf.trans hf2
          have B2 := hf2.blk hB (by decide)
          have s1 : W2.cell? ⟨w.heap.size, 1, none⟩ = some (.int .i64 lo) := B2.cell 1
          have hz2 : w0.heap.size ≤ W2.heap.size := Nat.le_trans hzw hf2.below.size
          have HA2 := Lib.hid q1; have HO2 := Lib.hid ho2; clear q1 ho2 hP HA HO b1 b2 b3 hf hf2 hB B2
        case' inr =>
          obtain ⟨W2, hW2⟩ : ∃ W2, W2 = wr := ⟨_, rfl⟩
          subst hW2
          obtain ⟨u2, hu2⟩ : ∃ u2, u2 = u0 := ⟨_, rfl⟩
          subst hu2
          obtain ⟨a2, ha2⟩ : ∃ a2, a2 = a := ⟨_, rfl⟩
          subst ha2
          obtain ⟨g2, hg2e⟩ : ∃ g2, g2 = g' := ⟨_, rfl⟩
          subst hg2e
          have q2 := ha
          have q3 := Nat.le_refl g2.length
          have q4 : g2.length ≤ g2.length + 1 := by omega
          have F2 := hf
          have s1 := b1
          have hz2 := hzw
          have HA2 := HA; have HO2 := HO; clear HA HO
        all_goals
          by_cases e3 : 0 < lo
          · go_wp2_with fail
            refine (l4Look_any w0.heap.size u2 g2 0 4294967295 3 (lo - 1) a2 no _ HO2.out hz2 (by omega)).mono ?_
            rintro e W3 ⟨u3, g3, a3, rfl, hP3, ho3, hf3⟩
            obtain ⟨r1, r2, r3, r4⟩ := HA2.out.look hP3 q2 (by omega)
            have HA3 := Lib.hid r1; have HO3 := Lib.hid ho3; clear r1 ho3 hP3
            go_wp2
            go_ret2
            exact ⟨u3, g3, a3, rfl, HA3.out, r2, by omega, by omega, HO3.out, F2.trans hf3⟩
          · go_wp2
            go_ret2
            exact ⟨u2, g2, a2, rfl, HA2.out, q2, by omega, by omega, HO2.out, F2⟩

set_option maxHeartbeats 4000000 in
theorem l4Make_any (p : Pol) (v : Value) (w : World) (hP : PolIs w p v) (hok : polShapeB p = true) :
    Calls Tryz.prog 109 #[v] w fun e w' =>
      ∃ v' g' i, e = .returned (.tuple #[v', .int .i64 (i : Nat)]) ∧ Ahead g' ∧ i < g'.length ∧ g'.length ≤ 57 ∧ w'.ownsRow w.heap.size 190 7 v' g'.length (g'.map Pt.cells).flatten ∧ PtFrame w.heap.size w w' := by
  obtain ⟨k8, hels, hrs⟩ := polShapeB_words hok
  clear hok
  obtain ⟨rs, els⟩ := p
  obtain ⟨rv, css, rfl, hS, hR⟩ := hP
  simp only at k8 hels hrs hR ⊢
  obtain ⟨A, n, c, rfl, hSA⟩ := hS
  have htn : rs.length = n := by rw [← hR.1]; exact hSA.len
  have hc := hSA.cap
  have hm := hSA.max
  unfold maxLen at hm
  rw [htn] at k8
  have B0 := Blk.new w 82 #[.slice A n c, .int .i64 els]
  have hb0 : Below w.heap.size w ((w.alloc (.cells #[.slice A n c, .int .i64 els] 82)).alloc (.cells #[] 190)) := by go_grown
  have F0 := PtFrame.of_below hb0 (Nat.le_refl _)
  have O0 : ((w.alloc (.cells #[.slice A n c, .int .i64 els] 82)).alloc (.cells #[] 190)).ownsRow w.heap.size 190 7 (.slice (some ⟨w.heap.size + 1, 0, none⟩) 0 0) 0 [] := by
    have := World.ownsRow_lit (base := w.heap.size) (e := 190) (size := 7) (w.alloc (.cells #[.slice A n c, .int .i64 els] 82)) #[] 0 (by simp) (by unfold maxLen; omega) rfl
    simpa using this
  have B1 := B0.below (show Below (w.alloc (.cells #[.slice A n c, .int .i64 els] 82)).heap.size _ ((w.alloc (.cells #[.slice A n c, .int .i64 els] 82)).alloc (.cells #[] 190)) by go_grown) (by simp)
  have HR := Lib.hid hrs; have HRA := Lib.hid hR; have HO := Lib.hid O0; clear hrs hR hb0 O0 B0
  go_enter Tryz.func109, Tryz.ntmps109
  go_wp2_with fail
  refine (l4Point_any w.heap.size _ [] ⟨els, 0, 0, 0, 0, 0, 0⟩ _ HO.out (by simp; omega) (by simp)).mono ?_
  rintro e W1 ⟨v1, g1, a1, rfl, hP, ho1, hf1⟩
  obtain ⟨p1, p2, p3, p4⟩ := Ahead.nil.put hP (fun h => absurd h (Int.lt_irrefl 0))
  have F1 := F0.trans hf1
  have B2 := hf1.blk B1 (by decide)
  have b0 : W1.cell? ⟨w.heap.size, 0, none⟩ = some (.slice A n c) := B2.cell 0
  have HA1 := Lib.hid p1; have HO1 := Lib.hid ho1; clear p1 ho1 hP HO F0 hf1 B1
  simp only [List.length_nil] at p4
  go_wp2
  go_loopw [4, 5, 6] (fun u at_ i wr => ∃ (k : Nat) (z : Int) (g' : List Pt) (a : Nat), k ≤ n ∧ z + 1 = k ∧ i = .int .i64 z ∧ at_ = .int .i64 a ∧ Ahead g' ∧ a < g'.length ∧ g'.length + 7 * k ≤ 1 + 7 * n ∧ wr.ownsRow w.heap.size 190 7 u g'.length (g'.map Pt.cells).flatten ∧ PtFrame w.heap.size w wr ∧ Blk wr w.heap.size 82 #[.slice A n c, .int .i64 els]) (fun _ _ i _ => (intOf i + 1).toNat)
  case atStart => exact ⟨n, (n : Int) - 1, g1, a1, by omega, by omega, by go_num, rfl, HA1.out, p2, by omega, HO1.out, F1, B2⟩
  case round =>
    obtain ⟨k, z, g', a, hk, hkz, rfl, rfl, hA, ha, hg2, ho, hf, hB⟩ := hrel
    clear HA1 HO1 F1 B2 b0 p2 p3 p4
    have HA := Lib.hid hA; have HO := Lib.hid ho; clear hA ho
    have b0 : wr.cell? ⟨w.heap.size, 0, none⟩ = some (.slice A n c) := hB.cell 0
    by_cases hge : 0 ≤ z
    · obtain ⟨m, rfl⟩ : ∃ m : Nat, z = m := ⟨z.toNat, by omega⟩
      have hmn : m < n := by omega
      obtain ⟨b, off, r, tv, rfl, hab, hgp, hsl, hcell⟩ := rules_get hSA HRA.out hmn
      obtain ⟨c0, c1, c2, c3⟩ := hcell wr _ hf.below hab
      have hrok := HR.out r (List.mem_of_getElem? hgp)
      have HROK := Lib.hid hrok; have HSL := Lib.hid hsl
      clear hcell hgp hrok hsl
      go_wp2_with fail
      refine (l4Rule_any w u4 g' r tv a _ HO.out hf.below (by omega) HA.out ha HROK.out HSL.out).mono ?_
      rintro e W2 ⟨u2, g2, a2, rfl, q1, q2, q3, q4, ho2, hf2⟩
      have F2 := hf.trans hf2
      have B2 := hf2.blk hB (by decide)
      have HA2 := Lib.hid q1; have HO2 := Lib.hid ho2; clear q1 ho2 HA HO hf hf2 hB
      go_wp2
      exact ⟨⟨m, (m : Int) - 1, g2, a2, by omega, by omega, by go_num, rfl, HA2.out, q2, by omega, HO2.out, F2, B2⟩, by simp [intOf]⟩
    · go_wp2
      go_ret2
      exact ⟨u4, g', a, rfl, HA.out, ha, by omega, HO.out, hf⟩
end Go.Proofs.YtcomdkmglihdbaaGreatDoor

-- spec's graphs of policies: l4Used: to which points something comes.
namespace Go.Proofs.YtcomdkmglihdbaaGreatDoor
open Go.RowKit
set_option linter.unusedSimpArgs false
set_option linter.unusedVariables false

/-- Marked: a place, and whatever a marked look from a place on leads to. -/
def UsedFrom (g : List Pt) (at_ k : Nat) (us : List Bool) : Prop :=
  us.length = g.length ∧ us[at_]? = some true ∧ ∀ (i : Nat) (p : Pt), k ≤ i → i ≤ at_ → us[i]? = some true → g[i]? = some p → p.op > 0 → ∃ y n : Nat, p.yes = y ∧ p.no = n ∧ y < i ∧ n < i ∧ us[y]? = some true ∧ us[n]? = some true
theorem UsedFrom.start {g : List Pt} {at_ n : Nat} (hl : g.length = n) (h : at_ < n) : UsedFrom g at_ (at_ + 1) ((List.replicate n false).set at_ true) :=
  ⟨by simp [hl], by simp [List.getElem?_set, h], fun i p h1 h2 => by omega⟩
theorem UsedFrom.skip {g : List Pt} {at_ k : Nat} {us : List Bool} {p : Pt} (h : UsedFrom g at_ (k + 1) us) (hg : g[k]? = some p) (hs : us[k]? = some false ∨ ¬ p.op > 0) : UsedFrom g at_ k us := by
  refine ⟨h.1, h.2.1, fun i q h1 h2 h3 h4 h5 => ?_⟩
  by_cases e : i = k
  · subst e
    rw [hg] at h4
    cases h4
    rcases hs with hs | hs
    · rw [hs] at h3; cases h3
    · exact absurd h5 hs
  · exact h.2.2 i q (by omega) h2 h3 h4 h5
theorem UsedFrom.mark {g : List Pt} {at_ k y n : Nat} {us : List Bool} {p : Pt} (h : UsedFrom g at_ (k + 1) us) (hg : g[k]? = some p) (hy : p.yes = y) (hn : p.no = n) (hyk : y < k) (hnk : n < k) : UsedFrom g at_ k ((us.set y true).set n true) := by
  have hk := (List.getElem?_eq_some_iff.1 hg).1
  have hl := h.1
  have key : ∀ j : Nat, k ≤ j → ((us.set y true).set n true)[j]? = us[j]? := fun j hj => by
    rw [List.getElem?_set_ne (by omega), List.getElem?_set_ne (by omega)]
  have ky : ((us.set y true).set n true)[y]? = some true := set_true_keep (by rw [List.getElem?_set_self (by omega)])
  have kn : ((us.set y true).set n true)[n]? = some true := by rw [List.getElem?_set_self (by simp; omega)]
  refine ⟨by simp [hl], set_true_keep (set_true_keep h.2.1), fun i q h1 h2 h3 h4 h5 => ?_⟩
  rw [key i h1] at h3
  by_cases e : i = k
  · subst e
    rw [hg] at h4
    cases h4
    exact ⟨y, n, hy, hn, hyk, hnk, ky, kn⟩
  · obtain ⟨y', n', a, b, c, d, e1, e2⟩ := h.2.2 i q (by omega) h2 h3 h4 h5
    exact ⟨y', n', a, b, c, d, set_true_keep (set_true_keep e1), set_true_keep (set_true_keep e2)⟩

set_option maxHeartbeats 4000000 in
theorem l4Used_any (A : Option Addr) (n c : Nat) (g : List Pt) (at_ : Nat) (w : World) (hA : SlA w 7 A n c (g.map Pt.cells)) (hAh : Ahead g) (hat : at_ < n) (hn : n ≤ 1000) :
    Calls Tryz.prog 123 #[.slice A n c, .int .i64 at_] w fun e w' => ∃ us, UsedFrom g at_ 0 us ∧ e = .returned (.slice (some ⟨w.heap.size, 0, none⟩) n n) ∧ Blk w' w.heap.size 4 (bRow us) ∧ Below w.heap.size w w' := by
  have hl : g.length = n := by have := hA.len; simpa using this
  have hc := hA.cap
  have hm := hA.max
  unfold maxLen at hm
  have hmk := fun W => run_make_row' (P := Tryz.prog) 192 4 (.bool false) 1 Tryz.underlying192 info_boolR rfl .i64 .i64 n (by omega) (by omega) W
  have B0 : Blk (w.alloc (.cells (madeCells #[.bool false] n) 4)) w.heap.size 4 (bRow (List.replicate n false)) := by rw [bRow_zero]; exact Blk.new _ _ _
  have d0 := bRow_cell (k := at_) (b := false) B0 (by simp [List.getElem?_replicate, hat])
  have f0 := B0.frozen at_
  have h0n : (at_ : Int) < n := by omega
  have HL := Lib.hid hl; have HG := Lib.hid hAh; have HA := Lib.hid hA; clear hl hAh B0 hA
  go_enter Tryz.func123, Tryz.ntmps123
  go_wp2
  go_loopw [6] (fun i wr => ∃ (k : Nat) (z : Int) (us : List Bool), k ≤ at_ + 1 ∧ z + 1 = k ∧ i = .int .i64 z ∧ UsedFrom g at_ k us ∧ Blk wr w.heap.size 4 (bRow us) ∧ Below w.heap.size w wr) (fun i _ => (intOf i + 1).toNat)
  case atStart =>
    refine ⟨at_ + 1, at_, (List.replicate n false).set at_ true, by omega, by omega, rfl, UsedFrom.start HL.out hat, ?_, by go_grown⟩
    rw [← bRow_set, ← bRow_zero]; exact Blk.new _ _ _
  case round =>
    obtain ⟨k, z, us, hk, hz, rfl, hR, hbk, hbw⟩ := hrel
    have hsz := hbw.size
    have hblt := hbk.lt
    have hrl : us.length = n := hR.1.trans HL.out
    by_cases hge : 0 ≤ z
    · obtain ⟨m, rfl⟩ : ∃ m : Nat, z = m := ⟨z.toNat, by omega⟩
      obtain rfl : k = m + 1 := by omega
      have hmn : m < n := by omega
      have hmni : (m : Int) < n := by omega
      obtain ⟨b, off, p, rfl, hab, hgp, hcell⟩ := pts_get HA.out hmn
      obtain ⟨c0, c1, c2, c3, c4, c5, c6⟩ := hcell wr _ hbw hab
      obtain ⟨rb, hrb⟩ := bRow_some hrl hmn
      have dk := bRow_cell hbk hrb
      have hbne : ¬ b = w.heap.size := by omega
      have HR := Lib.hid hR; have HRB := Lib.hid hrb; have HP := Lib.hid hgp; clear hR hrb hgp
      cases rb with
      | false =>
        clear hcell c0 c1 c2 c3 c4 c5 c6
        go_wp2
        exact ⟨⟨m, (m : Int) - 1, us, by omega, by omega, by go_num, HR.out.skip HP.out (.inl HRB.out), hbk, hbw⟩, by simp [intOf]⟩
      | true =>
        by_cases hop : 0 < p.op
        · obtain ⟨y, nn, hy, hnn, hyk, hnk⟩ := HG.out m p HP.out hop
          have HY := Lib.hid hy; have HN := Lib.hid hnn
          rw [hy] at c5
          rw [hnn] at c6
          clear hy hnn
          obtain ⟨by_, hby⟩ := bRow_some hrl (k := y) (by omega)
          have dy := bRow_cell hbk hby
          have fy := hbk.frozen y
          have BY := hbk.set_ y (.bool true)
          rw [bRow_set] at BY
          obtain ⟨bn, hbn⟩ := bRow_some (rs := us.set y true) (n := n) (by simp [hrl]) (k := nn) (by omega)
          have dn := bRow_cell BY hbn
          have fn := BY.frozen nn
          have hyi : (y : Int) < n := by omega
          have hni : (nn : Int) < n := by omega
          have HB := Lib.hid BY
          clear hcell c0 c1 c2 c4 hby hbn BY
          go_wp2
          exact ⟨⟨m, (m : Int) - 1, (us.set y true).set nn true, by omega, by omega, by go_num, HR.out.mark HP.out HY.out HN.out hyk hnk, by have := HB.out.set_ nn (.bool true); rwa [bRow_set] at this, (hbw.setCell (by simp) _).setCell (by simp) _⟩, by simp [intOf]⟩
        · clear hcell c0 c1 c2 c4 c5 c6
          go_wp2
          exact ⟨⟨m, (m : Int) - 1, us, by omega, by omega, by go_num, HR.out.skip HP.out (.inr (by omega)), hbk, hbw⟩, by simp [intOf]⟩
    · obtain rfl : k = 0 := by omega
      go_wp2
      go_ret
      exact ⟨us, hR, rfl, hbk, hbw⟩
end Go.Proofs.YtcomdkmglihdbaaGreatDoor

-- spec's graphs of policies: l4Trim.
namespace Go.Proofs.YtcomdkmglihdbaaGreatDoor
open Go.RowKit
set_option linter.unusedSimpArgs false
set_option linter.unusedVariables false

/-- Where what was marked has been put. -/
def ToOk (us : List Bool) (ts : List Nat) (k m : Nat) : Prop := ∀ j : Nat, j < k → us[j]? = some true → ∃ t, ts[j]? = some t ∧ t < m
theorem ToOk.skip {us : List Bool} {ts : List Nat} {k m : Nat} (h : ToOk us ts k m) (hk : us[k]? = some false) : ToOk us ts (k + 1) m := fun j hj hu => by
  by_cases e : j = k
  · subst e; rw [hk] at hu; cases hu
  · exact h j (by omega) hu
theorem ToOk.put {us : List Bool} {ts : List Nat} {k m m' a : Nat} (h : ToOk us ts k m) (hk : k < ts.length) (hm : m ≤ m') (ha : a < m') : ToOk us (ts.set k a) (k + 1) m' := fun j hj hu => by
  by_cases e : j = k
  · subst e; exact ⟨a, List.getElem?_set_self hk, ha⟩
  · obtain ⟨t, h1, h2⟩ := h j (by omega) hu
    exact ⟨t, by rw [List.getElem?_set_ne (fun e2 => e e2.symm)]; exact h1, by omega⟩

theorem own_ne_int {w : World} {base n k : Nat} {e t : TypeId} {size : Nat} {v : Value} {xs : List Value} {cs : Array Value} (h : w.ownsRow base e size v n xs) (hk : Blk w k t cs) (ht : t ≠ e) : v.ownBlock ≠ some k := by
  rcases h.2 with ⟨rfl, _⟩ | ⟨g', cap', cur, rfl, _, hg, _⟩
  · intro e; cases e
  · intro e
    cases e
    have := hg.symm.trans hk
    exact ht (by injection this with h1; injection h1 with h2 h3; exact h3.symm)

set_option maxHeartbeats 8000000 in
theorem l4Trim_any : ∀ (B at_ : Nat) (A : Option Addr) (n c : Nat) (g : List Pt) (w : World) (hB : at_ < B) (hA : SlA w 7 A n c (g.map Pt.cells)) (hAh : Ahead g) (hat : at_ < n) (hn : n ≤ 1000),
    Calls Tryz.prog 110 #[.slice A n c, .int .i64 at_] w fun e w' => ∃ v' g', e = .returned v' ∧ Sl w' 7 v' (g'.map Pt.cells) ∧ Ahead g' ∧ g'.length ≤ 1000 ∧ Below w.heap.size w w' := by
  intro B
  induction B with
  | zero => intro at_ A n c g w hB; exact absurd hB (by omega)
  | succ B IH =>
    intro at_ A n c g w hB hA hAh hat hn
    have hl : g.length = n := by have := hA.len; simpa using this
    have hc := hA.cap
    have hm := hA.max
    unfold maxLen at hm
    have HIH := Lib.hid IH; have HL := Lib.hid hl; have HG := Lib.hid hAh; have HA := Lib.hid hA; clear IH hl hAh hA
    go_enter Tryz.func110, Tryz.ntmps110
    go_wp2_with fail
    refine (l4Used_any A n c g at_ _ HA.out HG.out hat hn).mono ?_
    rintro e W1 ⟨us, hU, rfl, hbu, hb1⟩
    have hus : us.length = n := hU.1.trans HL.out
    have hsz := hb1.size
    have hmk := fun W => run_make_row' (P := Tryz.prog) 59 3 (.int .i64 0) 8 Tryz.underlying59 info_intR rfl .i64 .i64 n (by omega) (by omega) W
    obtain ⟨W2, hW2⟩ : ∃ W2, W2 = ((W1.alloc (.cells #[] 190)).alloc (.cells (madeCells #[.int .i64 0] n) 3)) := ⟨_, rfl⟩
    have hb2 : Below w.heap.size w W2 := by rw [hW2]; go_grown
    have O0 : W2.ownsRow w.heap.size 190 7 (.slice (some ⟨W1.heap.size, 0, none⟩) 0 0) 0 [] := by
      rw [hW2]
      exact (World.ownsRow_lit (base := w.heap.size) (e := 190) (size := 7) W1 #[] 0 hsz (by unfold maxLen; omega) rfl).alloc _
    have BT : Blk W2 (W1.heap.size + 1) 3 (nRow (List.replicate n 0)) := by
      rw [hW2, ← nRow_zero]
      have := Blk.new (W1.alloc (.cells #[] 190)) 3 (madeCells #[.int .i64 0] n)
      simpa using this
    have BU : Blk W2 w.heap.size 4 (bRow us) := hbu.below (show Below W1.heap.size W1 W2 by rw [hW2]; go_grown) hbu.lt
    have HU := Lib.hid hU; have HW2 := Lib.hid hW2; have HO := Lib.hid O0; have HBT := Lib.hid BT; have HBU := Lib.hid BU; clear hU hW2 O0 hbu BT BU
    go_wp2
    rw [← HW2.out]
    go_loopw [6, 8] (fun o i wr => ∃ (k : Nat) (gs : List Pt) (ts : List Nat), k ≤ at_ + 1 ∧ i = .int .i64 k ∧ ts.length = n ∧ Ahead gs ∧ gs.length ≤ k ∧ ToOk us ts k gs.length ∧ wr.ownsRow w.heap.size 190 7 o gs.length (gs.map Pt.cells).flatten ∧ Blk wr w.heap.size 4 (bRow us) ∧ Blk wr (W1.heap.size + 1) 3 (nRow ts) ∧ Below w.heap.size w wr) (fun _ i _ => at_ + 1 - (intOf i).toNat)
    case atStart => exact ⟨0, [], List.replicate n 0, by omega, rfl, by simp, Ahead.nil, by simp, fun j h => absurd h (by omega), HO.out, HBU.out, HBT.out, hb2⟩
    case round =>
      obtain ⟨k, gs, ts, hk, rfl, htl, hAg, hgl, hto, ho, hbu, hbt, hbw⟩ := hrel
      clear HO HBU HBT hmk
      have hwz := hbw.size
      have HTO := Lib.hid hto; have HO := Lib.hid ho; have HAG := Lib.hid hAg; clear hto ho hAg
      by_cases hle : k ≤ at_
      · have hlei : (k : Int) ≤ at_ := by omega
        have hkn : k < n := by omega
        have hkni : (k : Int) < n := by omega
        obtain ⟨b, off, p, rfl, hab, hgp, hcell⟩ := pts_get HA.out hkn
        obtain ⟨c0, c1, c2, c3, c4, c5, c6⟩ := hcell wr _ hbw hab
        obtain ⟨rb, hrb⟩ := bRow_some hus hkn
        have dk := bRow_cell hbu hrb
        have HRB := Lib.hid hrb; have HP := Lib.hid hgp; clear hrb hgp hcell
        cases rb with
        | false =>
          clear c0 c1 c2 c3 c4 c5 c6
          go_wp2
          exact ⟨⟨k + 1, gs, ts, by omega, by go_num, htl, HAG.out, by omega, HTO.out.skip HRB.out, HO.out, hbu, hbt, hbw⟩, by simp [intOf]; omega⟩
        | true =>
          obtain ⟨XB, hXB⟩ : ∃ X, X = Obj.cells #[.int .i64 p.verdict, .int .i64 p.field, .int .i64 p.mask, .int .i64 p.op, .int .i64 p.value, .int .i64 p.yes, .int .i64 p.no] 190 := ⟨_, rfl⟩
          have hbx : Below wr.heap.size wr (wr.alloc XB) := by rw [hXB]; go_grown
          have O1 := own_below HO.out hbx
          have BU1 := hbu.below hbx hbu.lt
          have BT1 := hbt.below hbx hbt.lt
          have F1 : Below w.heap.size w (wr.alloc XB) := below_then hbw hbx
          have hz1 : w.heap.size ≤ (wr.alloc XB).heap.size := by simp; omega
          rw [hXB] at O1 BU1 BT1 F1 hz1
          have HO1 := Lib.hid O1; have HBU1 := Lib.hid BU1; have HF1 := Lib.hid F1; clear O1 BU1 F1 hXB hbx
          by_cases hop : 0 < p.op
          · obtain ⟨y, nn, hy, hnn, hyk, hnk, uy, un⟩ := HU.out.2.2 k p (Nat.zero_le _) hle HRB.out HP.out hop
            obtain ⟨ty, hty, hty2⟩ := HTO.out y hyk uy
            obtain ⟨tn, htn, htn2⟩ := HTO.out nn hnk un
            have e0 := nRow_cell BT1 hty
            have e1 := nRow_cell BT1 htn
            have hyi : (y : Int) < n := by omega
            have hni : (nn : Int) < n := by omega
            have HTY := Lib.hid hty; have HTN := Lib.hid htn
            clear uy un hty htn
            obtain ⟨pv, pf, pm, po, pl, py, pn⟩ := p
            simp only at hy hnn hop c0 c1 c2 c3 c4 c5 c6 dk BT1 e0 e1
            subst hy hnn
            obtain ⟨tk, htk⟩ := nRow_some htl hkn
            have HTK := Lib.hid htk; have HBT1 := Lib.hid BT1; have HN5 := Lib.hid (show gs.length ≤ 100000 by omega); have HZ1 := Lib.hid hz1
            have XB := Blk.new wr 190 #[.int .i64 pv, .int .i64 pf, .int .i64 pm, .int .i64 po, .int .i64 pl, .int .i64 y, .int .i64 nn]
            have hne : u6.ownBlock ≠ some wr.heap.size := fun e => by have := (HO.out.lt _ e).2; omega
            have HXB := Lib.hid XB; have HNE := Lib.hid hne
            have x1 := (show _ = some (Value.int .i64 pf) from XB.cell 1); have x2 := (show _ = some (Value.int .i64 pm) from XB.cell 2); have x3 := (show _ = some (Value.int .i64 po) from XB.cell 3); have x4 := (show _ = some (Value.int .i64 pl) from XB.cell 4); have x5 := (show _ = some (Value.int .i64 (y : Int)) from XB.cell 5); have x6 := (show _ = some (Value.int .i64 (nn : Int)) from XB.cell 6)
            have HQ := Lib.hid (show wr.heap.size ≠ (⟨W1.heap.size + 1, k, none⟩ : Addr).block from fun e => by have := hbt.lt; simp only at e; omega)
            have HT5 := Lib.hid (show ∀ a : Nat, (ts.set k a)[y]? = some ty from fun a => by rw [List.getElem?_set_ne (by omega)]; exact HTY.out)
            have HT6 := Lib.hid (show ∀ a : Nat, (ts.set k a)[nn]? = some tn from fun a => by rw [List.getElem?_set_ne (by omega)]; exact HTN.out)
            clear htk BT1 XB hne
            go_wp2
            go_region_held3 (fun w' => w'.cell? ⟨wr.heap.size, 1, none⟩ = some (.int .i64 pf) ∧ w'.cell? ⟨wr.heap.size, 2, none⟩ = some (.int .i64 pm) ∧ w'.cell? ⟨wr.heap.size, 3, none⟩ = some (.int .i64 po) ∧ w'.cell? ⟨wr.heap.size, 4, none⟩ = some (.int .i64 pl) ∧ w'.cell? ⟨wr.heap.size, 5, none⟩ = some (.int .i64 y) ∧ w'.cell? ⟨wr.heap.size, 6, none⟩ = some (.int .i64 nn) ∧ w'.cell? ⟨W1.heap.size + 1, y, none⟩ = some (.int .i64 ty) ∧ w'.cell? ⟨W1.heap.size + 1, nn, none⟩ = some (.int .i64 tn))
              (first | exact ⟨x1, x2, x3, x4, x5, x6, e0, e1⟩ | exact ⟨X3.cell 1, X3.cell 2, X3.cell 3, X3.cell 4, X3.cell 5, X3.cell 6, t3, t4⟩ | exact ⟨Y3.cell 1, Y3.cell 2, Y3.cell 3, Y3.cell 4, Y3.cell 5, Y3.cell 6, t5, t6⟩ | go_keep)
              (first | (go_at_call 124; refine (l4Look_all w.heap.size u6 gs pf pm po pl ty tn _ (by exact HO1.out) (by exact HZ1.out) HN5.out).mono ?_; rintro e W3 ⟨u3, g3, a3, rfl, hL, ho3, hf3, hr3⟩; have BT3 := hf3.blk HBT1.out (by decide); have d3 := nRow_cell BT3 HTK.out; have f3 := BT3.frozen k; have X3 := hr3.blk HXB.out HNE.out; have t3 := nRow_cell BT3 HTY.out; have t4 := nRow_cell BT3 HTN.out; have Y3 := X3.far (p := ⟨W1.heap.size + 1, k, none⟩) HQ.out (.int .i64 (a3 : Int)); have B4 := BT3.set_ k (.int .i64 (a3 : Int)); rw [nRow_set] at B4; have t5 := nRow_cell B4 (HT5.out a3); have t6 := nRow_cell B4 (HT6.out a3)))
            go_wp2
            obtain ⟨q1, q2, q3, q4⟩ := HAG.out.look hL hty2 htn2
            have hN3 : u3.ownBlock ≠ some (W1.heap.size + 1) := own_ne_int ho3 BT3 (by decide)
            exact ⟨⟨k + 1, g3, ts.set k a3, by omega, by go_num, by simp [htl], q1, by omega, HTO.out.put (by omega) q3 q2, ownsRow_setCell_other ho3 hN3 _, (hf3.blk HBU1.out (by decide)).far (by simp; omega) _, B4, (HF1.out.drew.trans hf3.below).setCell (by simp; omega) _⟩, by simp [intOf]; omega⟩
          · obtain ⟨tk, htk⟩ := nRow_some htl hkn
            have HTK := Lib.hid htk; have HBT1 := Lib.hid BT1; have HN5 := Lib.hid (show gs.length ≤ 100000 by omega); have HZ1 := Lib.hid hz1
            clear htk BT1
            go_wp2_with fail
            refine (l4Point_any w.heap.size u6 gs p _ (by exact HO1.out) (by exact HZ1.out) HN5.out).mono ?_
            rintro e W3 ⟨u3, g3, a3, rfl, hL, ho3, hf3⟩
            have BT3 := hf3.blk HBT1.out (by decide)
            have d3 := nRow_cell BT3 HTK.out
            have f3 := BT3.frozen k
            obtain ⟨q1, q2, q3, q4⟩ := HAG.out.put hL (fun h => absurd h (by omega))
            have B4 := BT3.set_ k (.int .i64 (a3 : Int))
            rw [nRow_set] at B4
            have hN3 : u3.ownBlock ≠ some (W1.heap.size + 1) := own_ne_int ho3 BT3 (by decide)
            have HO3 := Lib.hid (ownsRow_setCell_other (a := ⟨W1.heap.size + 1, k, none⟩) ho3 hN3 (.int .i64 (a3 : Int))); have HB4 := Lib.hid B4; have HQ1 := Lib.hid q1; clear ho3 B4 q1 hL
            go_wp2
            exact ⟨⟨k + 1, g3, ts.set k a3, by omega, by go_num, by simp [htl], HQ1.out, by omega, HTO.out.put (by omega) q3 q2, HO3.out, (hf3.blk HBU1.out (by decide)).far (by simp; omega) _, HB4.out, (HF1.out.trans hf3.below).setCell (by simp; omega) _⟩, by simp [intOf]; omega⟩
      · obtain rfl : k = at_ + 1 := by omega
        obtain ⟨t, ht, htlt⟩ := HTO.out at_ (by omega) HU.out.2.1
        have dt := nRow_cell hbt ht
        have hani : (at_ : Int) < n := by omega
        obtain ⟨A', n', c', rfl, hA'⟩ := SlA.of_own HO.out (by simp) (Pt.rows gs)
        have hgn : gs.length = n' := by have := hA'.len; simpa using this
        have hc' := hA'.cap
        have hm' := hA'.max
        unfold maxLen at hm'
        have HA' := Lib.hid hA'; have HGN := Lib.hid hgn; clear hA' ht
        by_cases hlast : t + 1 = n'
        · have hd : ((t : Int) == (n' : Int) - 1) = true := by simp; omega
          go_wp2
          go_ret
          exact ⟨_, gs, rfl, ⟨_, _, _, rfl, HA'.out⟩, HAG.out, by omega, by go_grown⟩
        · have hd : ((t : Int) == (n' : Int) - 1) = false := by simp; omega
          go_wp2_with fail
          refine (HIH.out t A' n' c' gs _ (by omega) (by exact HA'.out) HAG.out (by omega) (by omega)).mono ?_
          rintro e W3 ⟨v3, g3, rfl, hs3, ha3, hl3, hb3⟩
          have HS3 := Lib.hid hs3; have HA3 := Lib.hid ha3; clear hs3 ha3
          go_wp2
          go_ret
          exact ⟨v3, g3, rfl, HS3.out, HA3.out, hl3, by first | exact below_then hbw hb3 | go_grown⟩
end Go.Proofs.YtcomdkmglihdbaaGreatDoor
