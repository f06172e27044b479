/- Joined texts: MakeS MakeR MakeU MakeT. -/
import Derived.Test.YtdjgicapbpoigaaGreatDoorPts
import Derived.Test.YtdjgicapbpoigaaGreatDoorKit
import Derived.Lib.OthersKept
import Derived.Lib.BufferKept
import Derived.BigRegion
import Derived.Test.YtdjgicapbpoigaaGreatDoorTxt
import Derived.Deep.RegionHeld3
namespace Go.Proofs.YtdjgicapbpoigaaGreatDoor
open Go.RowKit
set_option linter.unusedSimpArgs false
set_option linter.unusedVariables false

structure PtFrame (base : Nat) (w w' : World) : Prop where
 below : Below base w w'
 kept : Lib.OthersKept 151 none w w'
theorem PtFrame.of_below {base : Nat} {w w' : World} (h : Below w.heap.size w w') (hb : base ≤ w.heap.size) : PtFrame base w w' := ⟨h.mono hb, (Lib.OthersKept.refl _ _ w).below h⟩
theorem PtFrame.trans {base : Nat} {a b c : World} (h : PtFrame base a b) (k : PtFrame base b c) : PtFrame base a c := ⟨h.below.trans k.below, h.kept.trans k.kept⟩
theorem PtFrame.blk {base : Nat} {w w' : World} (h : PtFrame base w w') {q : Nat} {t : TypeId} {cs : Array Value} (hq : Blk w q t cs) (ht : t ≠ 151) : Blk w' q t cs := by
 have := h.kept q _ hq (by intro e; cases e) (by intro c fz e; cases e; exact ht rfl)
 exact this
theorem PtFrame.row {base n : Nat} {a w w' : World} {v : Value} {xs : List Value} (h : PtFrame base a w) (ho : w.ownsRow base 151 7 v n xs) (hb : base ≤ w.heap.size) (hg : w.grownBy w' v.ownBlock) : PtFrame base a w' :=
 ⟨h.below.trans ((Below.refl base w).grown hg hb (fun k hk => (ho.lt k hk).1)), h.kept.grown hg (fun q e => by
   rcases ho.2 with ⟨rfl, _⟩ | ⟨g', cap', cur, rfl, _, hh, _⟩
   · cases e
   · cases e; exact ⟨cur, (0, 0), hh⟩)⟩
def PutIs (g : List Pt) (x : Pt) (g' : List Pt) (i : Nat) : Prop :=
 (g' = g ∧ g[i]? = some x ∧ ∀ j : Nat, j < i → g[j]? ≠ some x) ∨ (g' = g ++ [x] ∧ i = g.length ∧ ∀ j : Nat, g[j]? ≠ some x)
theorem PutIs.one {g g1 g2 : List Pt} {x : Pt} {i j : Nat} (h : PutIs g x g1 i) (h' : PutIs g x g2 j) : g1 = g2 ∧ i = j := by
 rcases h with ⟨rfl, h1, h2⟩ | ⟨rfl, rfl, h2⟩ <;> rcases h' with ⟨rfl, h1', h2'⟩ | ⟨rfl, rfl, h2'⟩
 · refine ⟨rfl, ?_⟩
   rcases Nat.lt_trichotomy i j with h | h | h
   · exact absurd h1 (h2' i h)
   · exact h
   · exact absurd h1' (h2 j h)
 · exact absurd h1 (h2' i)
 · exact absurd h1' (h2 j)
 · exact ⟨rfl, rfl⟩
theorem PutIs.at_ {g g' : List Pt} {x : Pt} {i : Nat} (h : PutIs g x g' i) : g'[i]? = some x ∧ i < g'.length ∧ g.length ≤ g'.length ∧ g'.length ≤ g.length + 1 ∧ ∀ (j : Nat) (p : Pt), g[j]? = some p → g'[j]? = some p := by
 rcases h with ⟨rfl, h1, _⟩ | ⟨rfl, rfl, _⟩
 · exact ⟨h1, (List.getElem?_eq_some_iff.1 h1).1, Nat.le_refl _, by omega, fun _ _ h => h⟩
 · exact ⟨by simp, by simp, by simp, by simp, fun j p hj => by rw [List.getElem?_append_left (List.getElem?_eq_some_iff.1 hj).1]; exact hj⟩

theorem info_PointM : (Tryz.prog.info? 151).map (fun i => (i.zero, i.size, i.bytes)) = some (some (.agg #[.int .i64 0, .int .i64 0, .int .i64 0, .int .i64 0, .int .i64 0, .int .i64 0, .int .i64 0]), 7, 56) := by kernel_rfl

def RowApart (v : Value) (w w' : World) : Prop := ∀ q : Nat, q < w.heap.size → v.ownBlock ≠ some q → w'.heap[q]? = w.heap[q]?
theorem RowApart.of_below {v : Value} {w w' : World} (h : Below w.heap.size w w') : RowApart v w w' := fun q hq _ => h.block q hq
theorem RowApart.grown {v : Value} {w w1 w' : World} (h : Below w.heap.size w w1) (hg : w1.grownBy w' v.ownBlock) : RowApart v w w' := fun q hq hv => (hg.block q (Nat.lt_of_lt_of_le hq h.size) (fun e => hv e.symm)).trans (h.block q hq)
theorem RowApart.blk {v : Value} {w w' : World} {q : Nat} {t : TypeId} {cs : Array Value} (h : RowApart v w w') (hq : Blk w q t cs) (hv : v.ownBlock ≠ some q) : Blk w' q t cs := (h q hq.lt hv).trans hq

set_option maxHeartbeats 4000000 in
theorem l4Point_all (base : Nat) (v : Value) (g : List Pt) (x : Pt) (w : World) (h : w.ownsRow base 151 7 v g.length (g.map Pt.cells).flatten) (hb : base ≤ w.heap.size) (hn : g.length ≤ 100000) :
   Calls Tryz.prog 105 #[v, .agg #[.int .i64 x.verdict, .int .i64 x.field, .int .i64 x.mask, .int .i64 x.op, .int .i64 x.value, .int .i64 x.yes, .int .i64 x.no]] w fun e w' =>
     ∃ v' g' i, e = .returned (.tuple #[v', .int .i64 (i : Nat)]) ∧ PutIs g x g' i ∧ w'.ownsRow base 151 7 v' g'.length (g'.map Pt.cells).flatten ∧ PtFrame base w w' ∧ RowApart v w w' := by
 obtain ⟨A, n, c, rfl, hA⟩ := SlA.of_own h (by simp) (Pt.rows g)
 have hl : g.length = n := by have := hA.len; simpa using this
 have hm := hA.max
 unfold maxLen at hm
 have hc := hA.cap
 have hn2 : n ≤ 100000 := by omega
 have HOWN := Lib.hid h; have HL := Lib.hid hl; clear h hl
 have hB0 : Below w.heap.size w (w.alloc (.cells #[.int .i64 x.verdict, .int .i64 x.field, .int .i64 x.mask, .int .i64 x.op, .int .i64 x.value, .int .i64 x.yes, .int .i64 x.no] 151)) := by go_grown
 go_enter Tryz.func105, Tryz.ntmps105
 go_wp2
 go_loopw [6] (fun i wr => ∃ k : Nat, k ≤ n ∧ i = .int .i64 k ∧ (∀ j : Nat, j < k → g[j]? ≠ some x) ∧ Below (w.heap.size + 1) (w.alloc (.cells #[.int .i64 x.verdict, .int .i64 x.field, .int .i64 x.mask, .int .i64 x.op, .int .i64 x.value, .int .i64 x.yes, .int .i64 x.no] 151)) wr) (fun i _ => n - (intOf i).toNat)
 case atStart => exact ⟨0, Nat.zero_le _, rfl, fun j h => absurd h (by omega), Below.refl _ _⟩
 case round =>
   obtain ⟨k, hk, rfl, hno, hbw⟩ := hrel
   have hsz := hbw.size
   have hbox : Blk wr w.heap.size 151 #[.int .i64 x.verdict, .int .i64 x.field, .int .i64 x.mask, .int .i64 x.op, .int .i64 x.value, .int .i64 x.yes, .int .i64 x.no] := (hbw.block w.heap.size (by omega)).trans (Blk.new w _ _)
   have hbw0 : Below w.heap.size w wr := hB0.trans (hbw.mono (by omega))
   have hz0 := hbw0.size
   have q0 := hbox.cell 0; have q1 := hbox.cell 1; have q2 := hbox.cell 2; have q3 := hbox.cell 3; have q4 := hbox.cell 4; have q5 := hbox.cell 5; have q6 := hbox.cell 6
   simp at q0 q1 q2 q3 q4 q5 q6
   have HNO := Lib.hid hno; clear hno
   by_cases hlt : k < n
   · have hki : (k : Int) < n := by omega
     obtain ⟨b, off, p, rfl, hab, hgp, hcell⟩ := pts_get hA hlt
     obtain ⟨c0, c1, c2, c3, c4, c5, c6⟩ := hcell wr _ hbw0 hab
     have HP := Lib.hid hgp; clear hgp hcell
     have hnext : p ≠ x → ∀ j : Nat, j < k + 1 → g[j]? ≠ some x := fun hne j hj => by
       by_cases e : j = k
       · subst e; rw [HP.out]; intro e2; exact hne (Option.some.inj e2)
       · exact HNO.out j (by omega)
     have HNX := Lib.hid hnext; clear hnext
     by_cases everdict : p.verdict = x.verdict
     · by_cases efield : p.field = x.field
       · by_cases emask : p.mask = x.mask
         · by_cases eop : p.op = x.op
           · by_cases evalue : p.value = x.value
             · by_cases eyes : p.yes = x.yes
               · by_cases eno : p.no = x.no
                 · have hpx : p = x := Pt.ext_iff'.2 ⟨everdict, efield, emask, eop, evalue, eyes, eno⟩
                   have HPX := Lib.hid hpx; clear hpx
                   go_wp2
                   go_region
                   all_goals go_wp2
                   all_goals
                     go_ret2
                     exact ⟨_, g, k, rfl, .inl ⟨rfl, by rw [HP.out, HPX.out], HNO.out⟩, own_below HOWN.out (by go_grown), PtFrame.of_below (by go_grown) hb, RowApart.of_below (by go_grown)⟩
                 · go_wp2
                   go_region
                   all_goals go_wp2
                   all_goals exact ⟨⟨k + 1, by omega, by go_num, HNX.out (fun e => eno (by rw [e])), hbw.drew⟩, by simp [intOf]; try omega⟩
               · go_wp2
                 go_region
                 all_goals go_wp2
                 all_goals exact ⟨⟨k + 1, by omega, by go_num, HNX.out (fun e => eyes (by rw [e])), hbw.drew⟩, by simp [intOf]; try omega⟩
             · go_wp2
               go_region
               all_goals go_wp2
               all_goals exact ⟨⟨k + 1, by omega, by go_num, HNX.out (fun e => evalue (by rw [e])), hbw.drew⟩, by simp [intOf]; try omega⟩
           · go_wp2
             go_region
             all_goals go_wp2
             all_goals exact ⟨⟨k + 1, by omega, by go_num, HNX.out (fun e => eop (by rw [e])), hbw.drew⟩, by simp [intOf]; try omega⟩
         · go_wp2
           go_region
           all_goals go_wp2
           all_goals exact ⟨⟨k + 1, by omega, by go_num, HNX.out (fun e => emask (by rw [e])), hbw.drew⟩, by simp [intOf]; try omega⟩
       · go_wp2
         go_region
         all_goals go_wp2
         all_goals exact ⟨⟨k + 1, by omega, by go_num, HNX.out (fun e => efield (by rw [e])), hbw.drew⟩, by simp [intOf]; try omega⟩
     · go_wp2
       go_region
       all_goals go_wp2
       all_goals exact ⟨⟨k + 1, by omega, by go_num, HNX.out (fun e => everdict (by rw [e])), hbw.drew⟩, by simp [intOf]; try omega⟩
   · obtain rfl : k = n := by omega
     have hOW := own_below HOWN.out hbw0
     have HOW := Lib.hid hOW; clear hOW
     go_wp2_with (at_builtin; go_must (refine wpList_app1g (w0 := wr) rfl (.tmp 21) (.tmp 23) _ rfl base 151 Tryz.underlying82 info_PointM rfl (by omega) (by omega) _ k (g.map Pt.cells) rfl (by have := HOW.out; rw [HL.out] at this; exact this) rfl (by simp [Value.oneCell']) rfl (by omega) (by omega) ?_); intro v5 w5 hown5 hb5 _; obtain ⟨g5, cap5, rfl, hg5, hg5'⟩ := hown5.form (by omega))
     go_ret2
     refine ⟨_, g ++ [x], g.length, by rw [HL.out]; rfl, .inr ⟨rfl, rfl, fun j hj => HNO.out j (by have := (List.getElem?_eq_some_iff.1 hj).1; rw [HL.out] at this; exact this) hj⟩, ?_, (PtFrame.of_below hbw0 hb).row HOW.out (by omega) hb5, RowApart.grown hbw0 hb5⟩
     rw [List.length_append, HL.out]
     simpa [Pt.cells] using hown5
theorem l4Point_any (base : Nat) (v : Value) (g : List Pt) (x : Pt) (w : World) (h : w.ownsRow base 151 7 v g.length (g.map Pt.cells).flatten) (hb : base ≤ w.heap.size) (hn : g.length ≤ 100000) :
   Calls Tryz.prog 105 #[v, .agg #[.int .i64 x.verdict, .int .i64 x.field, .int .i64 x.mask, .int .i64 x.op, .int .i64 x.value, .int .i64 x.yes, .int .i64 x.no]] w fun e w' =>
     ∃ v' g' i, e = .returned (.tuple #[v', .int .i64 (i : Nat)]) ∧ PutIs g x g' i ∧ w'.ownsRow base 151 7 v' g'.length (g'.map Pt.cells).flatten ∧ PtFrame base w w' :=
 (l4Point_all base v g x w h hb hn).mono fun e w' ⟨v', g', i, h1, h2, h3, h4, _⟩ => ⟨v', g', i, h1, h2, h3, h4⟩
def LookIs (g : List Pt) (f m o v : Int) (yes no : Nat) (g' : List Pt) (i : Nat) : Prop :=
 (yes = no ∧ g' = g ∧ i = yes) ∨ (yes ≠ no ∧ PutIs g ⟨0, f, m, o, v, yes, no⟩ g' i)
theorem LookIs.one {g g1 g2 : List Pt} {f m o v : Int} {yes no i j : Nat} (h : LookIs g f m o v yes no g1 i) (h' : LookIs g f m o v yes no g2 j) : g1 = g2 ∧ i = j := by
 rcases h with ⟨e, rfl, rfl⟩ | ⟨e, h⟩ <;> rcases h' with ⟨e', rfl, rfl⟩ | ⟨e', h'⟩
 · exact ⟨rfl, rfl⟩
 · exact absurd e e'
 · exact absurd e' e
 · exact h.one h'

theorem l4Look_all (base : Nat) (u : Value) (g : List Pt) (f m o v : Int) (yes no : Nat) (w : World) (h : w.ownsRow base 151 7 u g.length (g.map Pt.cells).flatten) (hb : base ≤ w.heap.size) (hn : g.length ≤ 100000) :
   Calls Tryz.prog 108 #[u, .int .i64 f, .int .i64 m, .int .i64 o, .int .i64 v, .int .i64 yes, .int .i64 no] w fun e w' =>
     ∃ v' g' i, e = .returned (.tuple #[v', .int .i64 (i : Nat)]) ∧ LookIs g f m o v yes no g' i ∧ w'.ownsRow base 151 7 v' g'.length (g'.map Pt.cells).flatten ∧ PtFrame base w w' ∧ RowApart u w w' := by
 by_cases e : yes = no
 · have hd : ((yes : Int) == (no : Int)) = true := by simp [e]
   have HE := Lib.hid e; have HO := Lib.hid h; clear e h
   go_enter Tryz.func108, Tryz.ntmps108
   go_wp2
   go_ret2
   exact ⟨u, g, yes, rfl, .inl ⟨HE.out, rfl, rfl⟩, HO.out, PtFrame.of_below (Below.refl _ _) hb, RowApart.of_below (Below.refl _ _)⟩
 · have hd : ((yes : Int) == (no : Int)) = false := by simp; omega
   have HE := Lib.hid e; have HO := Lib.hid h; clear e h
   go_enter Tryz.func108, Tryz.ntmps108
   go_wp2_with fail
   refine (l4Point_all base u g ⟨0, f, m, o, v, yes, no⟩ _ HO.out hb hn).mono ?_; rintro e w1 ⟨v', g', i, rfl, hP, ho, hb1, hra⟩
   have HP := Lib.hid hP; have HO2 := Lib.hid ho; clear hP ho
   go_wp2
   go_ret2
   exact ⟨v', g', i, rfl, .inr ⟨HE.out, HP.out⟩, HO2.out, hb1, hra⟩

theorem l4Look_any (base : Nat) (u : Value) (g : List Pt) (f m o v : Int) (yes no : Nat) (w : World) (h : w.ownsRow base 151 7 u g.length (g.map Pt.cells).flatten) (hb : base ≤ w.heap.size) (hn : g.length ≤ 100000) :
   Calls Tryz.prog 108 #[u, .int .i64 f, .int .i64 m, .int .i64 o, .int .i64 v, .int .i64 yes, .int .i64 no] w fun e w' =>
     ∃ v' g' i, e = .returned (.tuple #[v', .int .i64 (i : Nat)]) ∧ LookIs g f m o v yes no g' i ∧ w'.ownsRow base 151 7 v' g'.length (g'.map Pt.cells).flatten ∧ PtFrame base w w' :=
 (l4Look_all base u g f m o v yes no w h hb hn).mono fun e w' ⟨v', g', i, h1, h2, h3, h4, _⟩ => ⟨v', g', i, h1, h2, h3, h4⟩

def TestIs (g : List Pt) (t : Ts) (yes no : Nat) (g' : List Pt) (i : Nat) : Prop :=
 (t.op = 1 ∧ LookIs g t.field t.mask 1 t.value yes no g' i) ∨ (t.op ≠ 1 ∧ t.op = 3 ∧ LookIs g t.field t.mask 3 t.value yes no g' i) ∨
 (t.op ≠ 1 ∧ t.op ≠ 3 ∧ t.value = 0 ∧ g' = g ∧ i = no) ∨ (t.op ≠ 1 ∧ t.op ≠ 3 ∧ t.value ≠ 0 ∧ LookIs g t.field t.mask 3 (t.value - 1) no yes g' i)

theorem l4Test_any (base : Nat) (u : Value) (g : List Pt) (t : Ts) (yes no : Nat) (w : World) (h : w.ownsRow base 151 7 u g.length (g.map Pt.cells).flatten) (hb : base ≤ w.heap.size) (hn : g.length ≤ 100000) (ht : 0 ≤ t.value ∧ t.value ≤ 4294967295) :
   Calls Tryz.prog 140 #[u, .agg #[.int .i64 t.field, .int .i64 t.mask, .int .i64 t.op, .int .i64 t.value], .int .i64 yes, .int .i64 no] w fun e w' =>
     ∃ v' g' i, e = .returned (.tuple #[v', .int .i64 (i : Nat)]) ∧ TestIs g t yes no g' i ∧ w'.ownsRow base 151 7 v' g'.length (g'.map Pt.cells).flatten ∧ PtFrame base w w' := by
 obtain ⟨f, m, o, v⟩ := t
 simp only at ht
 have hb0 : Below w.heap.size w (w.alloc (.cells #[.int .i64 f, .int .i64 m, .int .i64 o, .int .i64 v] 99)) := by go_grown
 have h2 := own_below h hb0
 have hz : base ≤ (w.alloc (.cells #[.int .i64 f, .int .i64 m, .int .i64 o, .int .i64 v] 99)).heap.size := by simp; omega
 have hb00 := PtFrame.of_below hb0 hb
 have HO := Lib.hid h; have HO2 := Lib.hid h2; clear h h2
 by_cases h1 : o = 1
 · have hd : (o == 1) = true := by simp [h1]
   have H1 := Lib.hid h1; clear h1
   go_enter Tryz.func140, Tryz.ntmps140
   go_wp2_with fail
   refine (l4Look_any base u g f m 1 v yes no _ HO2.out hz hn).mono ?_; rintro e w1 ⟨v', g', i, rfl, hP, ho, hb1⟩
   have HP := Lib.hid hP; have HO3 := Lib.hid ho; clear hP ho
   go_wp2
   go_ret2
   exact ⟨v', g', i, rfl, .inl ⟨H1.out, HP.out⟩, HO3.out, hb00.trans hb1⟩
 · have hd : (o == 1) = false := by simp [h1]
   by_cases h3 : o = 3
   · have hd3 : (o == 3) = true := by simp [h3]
     have H1 := Lib.hid h1; have H3 := Lib.hid h3; clear h1 h3
     go_enter Tryz.func140, Tryz.ntmps140
     go_wp2_with fail
     refine (l4Look_any base u g f m 3 v yes no _ HO2.out hz hn).mono ?_; rintro e w1 ⟨v', g', i, rfl, hP, ho, hb1⟩
     have HP := Lib.hid hP; have HO3 := Lib.hid ho; clear hP ho
     go_wp2
     go_ret2
     exact ⟨v', g', i, rfl, .inr (.inl ⟨H1.out, H3.out, HP.out⟩), HO3.out, hb00.trans hb1⟩
   · have hd3 : (o == 3) = false := by simp [h3]
     by_cases h0 : v = 0
     · have hd0 : (v == 0) = true := by simp [h0]
       have H1 := Lib.hid h1; have H3 := Lib.hid h3; have H0 := Lib.hid h0; clear h1 h3 h0
       go_enter Tryz.func140, Tryz.ntmps140
       go_wp2
       go_ret2
       exact ⟨u, g, no, rfl, .inr (.inr (.inl ⟨H1.out, H3.out, H0.out, rfl, rfl⟩)), HO2.out, hb00⟩
     · have hd0 : (v == 0) = false := by simp [h0]
       have H1 := Lib.hid h1; have H3 := Lib.hid h3; have H0 := Lib.hid h0; clear h1 h3
       go_enter Tryz.func140, Tryz.ntmps140
       go_wp2_with fail
       refine (l4Look_any base u g f m 3 (v - 1) no yes _ HO2.out hz hn).mono ?_; rintro e w1 ⟨v', g', i, rfl, hP, ho, hb1⟩
       have HP := Lib.hid hP; have HO3 := Lib.hid ho; clear hP ho
       go_wp2
       go_ret2
       exact ⟨v', g', i, rfl, .inr (.inr (.inr ⟨H1.out, H3.out, H0.out, HP.out⟩)), HO3.out, hb00.trans hb1⟩
end Go.Proofs.YtdjgicapbpoigaaGreatDoor

namespace Go.Proofs.YtdjgicapbpoigaaGreatDoor
open Go.RowKit
set_option linter.unusedSimpArgs false
set_option linter.unusedVariables false

def Ahead (g : List Pt) : Prop := ∀ (i : Nat) (p : Pt), g[i]? = some p → p.op > 0 → ∃ y n : Nat, p.yes = y ∧ p.no = n ∧ y < i ∧ n < i
theorem Ahead.nil : Ahead [] := fun i p h => by simp at h
theorem Ahead.put {g g' : List Pt} {x : Pt} {i : Nat} (h : Ahead g) (hp : PutIs g x g' i) (hx : x.op > 0 → ∃ y n : Nat, x.yes = y ∧ x.no = n ∧ y < g.length ∧ n < g.length) : Ahead g' ∧ i < g'.length ∧ g.length ≤ g'.length ∧ g'.length ≤ g.length + 1 := by
 obtain ⟨-, a1, a2, a3, -⟩ := hp.at_
 refine ⟨?_, a1, a2, a3⟩
 rcases hp with ⟨rfl, -, -⟩ | ⟨rfl, rfl, -⟩
 · exact h
 · intro j p hj hop
   by_cases e : j < g.length
   · rw [List.getElem?_append_left e] at hj
     exact h j p hj hop
   · rw [List.getElem?_append_right (by omega)] at hj
     have e2 : j - g.length = 0 := by have := (List.getElem?_eq_some_iff.1 hj).1; simp at this; omega
     rw [e2] at hj
     simp at hj
     subst hj
     obtain ⟨y, n, h1, h2, h3, h4⟩ := hx hop
     exact ⟨y, n, h1, h2, by omega, by omega⟩
theorem Ahead.look {g g' : List Pt} {f m o v : Int} {y n i : Nat} (h : Ahead g) (hl : LookIs g f m o v y n g' i) (hy : y < g.length) (hn : n < g.length) : Ahead g' ∧ i < g'.length ∧ g.length ≤ g'.length ∧ g'.length ≤ g.length + 1 := by
 rcases hl with ⟨-, rfl, rfl⟩ | ⟨-, hp⟩
 · exact ⟨h, hy, Nat.le_refl _, by omega⟩
 · exact h.put hp fun _ => ⟨y, n, rfl, rfl, hy, hn⟩
theorem Ahead.test {g g' : List Pt} {t : Ts} {y n i : Nat} (h : Ahead g) (hl : TestIs g t y n g' i) (hy : y < g.length) (hn : n < g.length) : Ahead g' ∧ i < g'.length ∧ g.length ≤ g'.length ∧ g'.length ≤ g.length + 1 := by
 rcases hl with ⟨-, hl⟩ | ⟨-, -, hl⟩ | ⟨-, -, -, rfl, rfl⟩ | ⟨-, -, -, hl⟩
 · exact h.look hl hy hn
 · exact h.look hl hy hn
 · exact ⟨h, hn, Nat.le_refl _, by omega⟩
 · exact h.look hl hn hy

end Go.Proofs.YtdjgicapbpoigaaGreatDoor

namespace Go.Proofs.YtdjgicapbpoigaaGreatDoor
open Go.RowKit
set_option linter.unusedSimpArgs false
set_option linter.unusedVariables false

def UsedFrom (g : List Pt) (at_ k : Nat) (us : List Bool) : Prop :=
 us.length = g.length ∧ us[at_]? = some true ∧ ∀ (i : Nat) (p : Pt), k ≤ i → i ≤ at_ → us[i]? = some true → g[i]? = some p → p.op > 0 → ∃ y n : Nat, p.yes = y ∧ p.no = n ∧ y < i ∧ n < i ∧ us[y]? = some true ∧ us[n]? = some true
theorem UsedFrom.start {g : List Pt} {at_ n : Nat} (hl : g.length = n) (h : at_ < n) : UsedFrom g at_ (at_ + 1) ((List.replicate n false).set at_ true) :=
 ⟨by simp [hl], by simp [List.getElem?_set, h], fun i p h1 h2 => by omega⟩
theorem UsedFrom.skip {g : List Pt} {at_ k : Nat} {us : List Bool} {p : Pt} (h : UsedFrom g at_ (k + 1) us) (hg : g[k]? = some p) (hs : us[k]? = some false ∨ ¬ p.op > 0) : UsedFrom g at_ k us := by
 refine ⟨h.1, h.2.1, fun i q h1 h2 h3 h4 h5 => ?_⟩
 by_cases e : i = k
 · subst e
   rw [hg] at h4
   cases h4
   rcases hs with hs | hs
   · rw [hs] at h3; cases h3
   · exact absurd h5 hs
 · exact h.2.2 i q (by omega) h2 h3 h4 h5
end Go.Proofs.YtdjgicapbpoigaaGreatDoor

namespace Go.Proofs.YtdjgicapbpoigaaGreatDoor
open Go.RowKit
set_option linter.unusedSimpArgs false
set_option linter.unusedVariables false

def ToOk (us : List Bool) (ts : List Nat) (k m : Nat) : Prop := ∀ j : Nat, j < k → us[j]? = some true → ∃ t, ts[j]? = some t ∧ t < m
theorem ToOk.skip {us : List Bool} {ts : List Nat} {k m : Nat} (h : ToOk us ts k m) (hk : us[k]? = some false) : ToOk us ts (k + 1) m := fun j hj hu => by
 by_cases e : j = k
 · subst e; rw [hk] at hu; cases hu
 · exact h j (by omega) hu
theorem ToOk.put {us : List Bool} {ts : List Nat} {k m m' a : Nat} (h : ToOk us ts k m) (hk : k < ts.length) (hm : m ≤ m') (ha : a < m') : ToOk us (ts.set k a) (k + 1) m' := fun j hj hu => by
 by_cases e : j = k
 · subst e; exact ⟨a, List.getElem?_set_self hk, ha⟩
 · obtain ⟨t, h1, h2⟩ := h j (by omega) hu
   exact ⟨t, by rw [List.getElem?_set_ne (fun e2 => e e2.symm)]; exact h1, by omega⟩

theorem own_ne_int {w : World} {base n k : Nat} {e t : TypeId} {size : Nat} {v : Value} {xs : List Value} {cs : Array Value} (h : w.ownsRow base e size v n xs) (hk : Blk w k t cs) (ht : t ≠ e) : v.ownBlock ≠ some k := by
 rcases h.2 with ⟨rfl, _⟩ | ⟨g', cap', cur, rfl, _, hg, _⟩
 · intro e; cases e
 · intro e
   cases e
   have := hg.symm.trans hk
   exact ht (by injection this with h1; injection h1 with h2 h3; exact h3.symm)

end Go.Proofs.YtdjgicapbpoigaaGreatDoor
