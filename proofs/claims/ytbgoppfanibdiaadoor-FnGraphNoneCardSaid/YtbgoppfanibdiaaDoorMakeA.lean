/- Joined texts: Lay4 GraphMk Lay5 MakeI MakeC. -/
import Derived.Test.YtbgoppfanibdiaaDoorLay3
import Derived.Test.YtbgoppfanibdiaaDoorMak
import Derived.Test.YtbgoppfanibdiaaDoorPolS3
import Derived.Test.YtbgoppfanibdiaaDoorCodeSA
import Derived.Test.YtbgoppfanibdiaaDoorBlkA
import Derived.Test.YtbgoppfanibdiaaDoorBlkWrite
import Derived.Test.YtbgoppfanibdiaaDoorLinesI
import Derived.Test.YtbgoppfanibdiaaDoorPolK
-- How a program is made of a graph: l5Make, MakeOf.
namespace Go.Proofs.YtbgoppfanibdiaaDoor
open Go.RowKit
set_option linter.unusedSimpArgs false
set_option linter.unusedVariables false

def isF : Value → Bool
  | .bool b => !b
  | _ => false
/-- How many ways a block tells as near. -/
def nearW (w : World) (b : Nat) : Nat := match w.heap[b]? with
  | some (.cells cs _ _) => cs.toList.countP isF
  | _ => 0
theorem nearW_blk {w : World} {b : Nat} {t : TypeId} {ys : List Bool} (h : Blk w b t (bRow ys)) : nearW w b = nearN ys := by
  unfold nearW
  rw [show w.heap[b]? = _ from h]
  simp only [bRow, nearN, List.countP_map, List.count]
  apply List.countP_congr
  intro x _
  cases x <;> simp [isF]
theorem ptCode_pos {g : List Pt} {ys ns : List Bool} {i : Nat} (h : i < g.length) : 0 < (ptCode g ys ns i).length := by
  unfold ptCode
  rw [List.getElem?_eq_getElem h]
  simp only []
  split <;> simp

/-- How many ways a lay tells as near. -/
def layNear (w : World) (L : Nat) : Nat := match w.heap[L]? with
  | some (.cells cs _ _) => (match cs[0]?, cs[1]? with
    | some (Value.slice (some a) _ _), some (Value.slice (some b) _ _) => nearW w a.block + nearW w b.block
    | _, _ => 0)
  | _ => 0
theorem blk4_3 (w : World) (o0 o1 o2 : Obj) (c : Array Value) (t : TypeId) : Blk ((((w.alloc o0).alloc o1).alloc o2).alloc (.cells c t)) (w.heap.size + 1 + 1 + 1) t c := by
  have := Blk.new (((w.alloc o0).alloc o1).alloc o2) t c
  simpa using this
theorem blk4_2 (w : World) (o0 o1 o3 : Obj) (c : Array Value) (t : TypeId) : Blk ((((w.alloc o0).alloc o1).alloc (.cells c t)).alloc o3) (w.heap.size + 1 + 1) t c := by
  have := (Blk.new ((w.alloc o0).alloc o1) t c).alloc o3
  simpa using this
theorem blk4_1 (w : World) (o0 o2 o3 : Obj) (c : Array Value) (t : TypeId) : Blk ((((w.alloc o0).alloc (.cells c t)).alloc o2).alloc o3) (w.heap.size + 1) t c := by
  have := ((Blk.new (w.alloc o0) t c).alloc o2).alloc o3
  simpa using this
theorem blk4_0 (w : World) (o1 o2 o3 : Obj) (c : Array Value) (t : TypeId) : Blk ((((w.alloc (.cells c t)).alloc o1).alloc o2).alloc o3) w.heap.size t c := (((Blk.new w t c).alloc o1).alloc o2).alloc o3

end Go.Proofs.YtbgoppfanibdiaaDoor

-- spec's GraphMake: of any policy some graph.
namespace Go.Proofs.YtbgoppfanibdiaaDoor
open Go.RowKit
set_option linter.unusedSimpArgs false
set_option linter.unusedVariables false

theorem Sl.empty (w : World) (size : Nat) (t : TypeId) : Sl (w.alloc (.cells #[] t)) size (.slice (some ⟨w.heap.size, 0, none⟩) 0 0) [] := by
  have h : (w.alloc (.cells #[] t)).ownsRow 0 t size (.slice (some ⟨w.heap.size, 0, none⟩) 0 0) ([] : List (List Value)).length ([] : List (List Value)).flatten := World.ownsRow_lit (base := 0) (e := t) (size := size) w #[] 0 (Nat.zero_le _) (by unfold maxLen; omega) (by simp)
  obtain ⟨A, n, c, e, hA⟩ := SlA.of_own h rfl (fun r hr => by cases hr)
  exact ⟨A, n, c, e, hA⟩

set_option maxHeartbeats 4000000 in
theorem GraphMake_any (p : Pol) (v : Value) (w : World) (hP : PolIs w p v) :
    Calls Tryd.prog 7 #[v] w fun e w' => ∃ v' g', e = .returned v' ∧ Sl w' 7 v' (g'.map Pt.cells) ∧ Ahead g' ∧ g'.length ≤ 1000 ∧ Below w.heap.size w w' := by
  have HP := Lib.hid hP
  obtain ⟨rv, css, rfl, ⟨A, n, c, rfl, hSA⟩, hR⟩ := hP
  have hb0 : Below w.heap.size w (w.alloc (.cells #[.slice A n c, .int .i64 p.els] 25)) := by go_grown
  have B0 := Blk.new w 25 #[.slice A n c, .int .i64 p.els]
  clear hSA hR
  cases hok : polOkB p with
  | false =>
    have HOK := Lib.hid hok; clear hok
    go_enter Tryd.func7, Tryd.ntmps7
    go_wp2_with fail
    refine (PolicyOk_any p _ _ (HP.out.below hb0)).mono ?_; rintro e w1 ⟨rfl, hb1⟩
    rw [HOK.out]
    go_wp2
    go_ret
    exact ⟨_, [], rfl, Sl.empty w1 7 _, Ahead.nil, by simp, by have := below_then hb0 hb1; exact this.alloc this.size _⟩
  | true =>
    have HOK := Lib.hid hok; clear hok
    go_enter Tryd.func7, Tryd.ntmps7
    go_wp2_with fail
    refine (PolicyOk_any p _ _ (HP.out.below hb0)).mono ?_; rintro e w1 ⟨rfl, hb1⟩
    rw [HOK.out]
    have B1 := B0.below hb1 B0.lt
    have c0 := (show _ = some (Value.slice A n c) from B1.cell 0); have c1 := (show _ = some (Value.int .i64 p.els) from B1.cell 1)
    have hb01 := below_then hb0 hb1
    clear B0 hb1
    go_wp2_with fail
    refine (l4Make_any p _ _ (HP.out.below hb01) (polOkB_shape HOK.out).1).mono ?_; rintro e w2 ⟨v2, g2, i2, rfl, hA2, hi2, hl2, ho2, hf2⟩
    obtain ⟨A2, n2, c2, rfl, hS2⟩ := SlA.of_own ho2 (by simp) (Pt.rows g2)
    have hn2 : g2.length = n2 := by have := hS2.len; simpa using this
    subst hn2
    have hb2 := below_then hb01 hf2.below
    have HA2 := Lib.hid hA2; have HS2 := Lib.hid hS2; clear hA2 hS2 ho2 hf2 B1 hb01
    go_wp2_with fail
    refine (l4Trim_any (i2 + 1) i2 A2 g2.length c2 g2 _ (by omega) HS2.out HA2.out hi2 (by omega)).mono ?_; rintro e w3 ⟨v3, g3, rfl, hs3, ha3, hl3, hb3⟩
    have HS3 := Lib.hid hs3; have HA3 := Lib.hid ha3; clear hs3 ha3
    go_wp2
    go_ret
    exact ⟨v3, g3, rfl, HS3.out, HA3.out, hl3, below_then hb2 hb3⟩
end Go.Proofs.YtbgoppfanibdiaaDoor

-- How a program is made: MakeOf, MakeCode.
namespace Go.Proofs.YtbgoppfanibdiaaDoor
open Go.RowKit
set_option linter.unusedSimpArgs false
set_option linter.unusedVariables false

theorem MakeIs.len {g : List Pt} {x : List In4} {ok : Bool} (h : MakeIs g x ok) : x.length ≤ 600 := by
  rcases h with ⟨_, rfl, _⟩ | ⟨hg, y, hy, ⟨_, rfl, _⟩ | ⟨_, rfl, _⟩⟩
  · simp
  · have := hy.len
    have := hg.1.2
    omega
  · simp

end Go.Proofs.YtbgoppfanibdiaaDoor

-- impl.MakeOf: the program of a graph.
namespace Go.Proofs.YtbgoppfanibdiaaDoor
open Go.RowKit
set_option linter.unusedSimpArgs false
set_option linter.unusedVariables false

theorem codeTo_len' {g : List Pt} {ys ns : List Bool} {m n : Nat} (hn : n ≤ 120) (hm : m ≤ n) : (codeTo g ys ns m).length ≤ 1000 := by
  have := codeTo_len g ys ns m; omega

set_option maxRecDepth 100000 in
set_option maxHeartbeats 4000000 in
theorem MakeOf_any (v : Value) (g : List Pt) (w : World) (hs : Sl w 7 v (g.map Pt.cells)) (hp : Pow w) :
    Calls Tryd.prog 21 #[v] w fun e w' => ∃ (v' : Value) (x : List In4) (ok : Bool), e = .returned (.tuple #[v', .bool ok]) ∧ MakeIs g x ok ∧ w'.ownsRow w.heap.size 94 4 v' x.length (insR x).flatten ∧ Below w.heap.size w w' := by
  have HS := Lib.hid hs
  obtain ⟨A, n, c, rfl, hA⟩ := hs
  have hl : g.length = n := by have := hA.len; simpa using this
  have HA := Lib.hid hA; have HN := Lib.hid hl; clear hA hl
  cases hg : graphOkB g with
  | false =>
    have HG := Lib.hid (show ¬ graphOk g from fun h => by rw [graphOkB_iff.2 h] at hg; cases hg); have HG2 := Lib.hid hg; clear hg
    go_enter Tryd.func21, Tryd.ntmps21
    go_wp2_with fail
    refine (GraphOk_any _ g _ HS.out).mono ?_; rintro e w1 ⟨rfl, hb1⟩
    rw [HG2.out]
    go_wp2
    go_ret2
    exact ⟨_, [], false, rfl, .inl ⟨HG.out, rfl, rfl⟩, World.ownsRow_nil _ _ _ _, hb1⟩
  | true =>
    have hgo := graphOkB_iff.1 hg
    have hn120 : n ≤ 120 := by rw [← HN.out]; exact hgo.1.2
    have HG := Lib.hid hgo; have HG2 := Lib.hid hg; clear hg hgo
    go_enter Tryd.func21, Tryd.ntmps21
    go_wp2_with fail
    refine (GraphOk_any _ g _ HS.out).mono ?_; rintro e w1 ⟨rfl, hb1⟩
    rw [HG2.out]
    have hz1 := hb1.size
    go_wp2_with fail
    refine (blocksOf_any A n c g _ (HA.out.below hb1) HG.out).mono ?_; rintro e w2 ⟨hs, rfl, hsl, hR, hB, hb2⟩
    have hb12 := below_then hb1 hb2
    have HSL := Lib.hid hsl
    have HR := Lib.hid hR; have HB := Lib.hid hB; clear hR hB hsl
    go_wp2_with fail
    refine (lay_any _ n _ g hs _ _ _ _ HR.out HB.out HSL.out HN.out HG.out).mono ?_; rintro e w3 ⟨ss, ys, ns, rfl, hR3, hB3, hst, hlr, hb3⟩
    have hb13 := hb12.trans (hb3.mono (by omega))
    have hz3 := hb13.size
    have hlow : ∀ h ∈ hs, h < w3.heap.size := hB3.lt (by rw [HSL.out, HN.out]; exact Nat.le_refl _)
    have HR3 := Lib.hid hR3; have HB3 := Lib.hid hB3; have HST := Lib.hid hst; have HLR := Lib.hid hlr; have HLOW := Lib.hid hlow
    have hRlt := hR3.lt
    clear hR3 hB3 hst hlr hlow HR HB
    go_wp2
    go_loopw [5, 6] (fun o i wr => ∃ (m : Nat) (z : Int), m ≤ n ∧ z + 1 + m = n ∧ i = .int .i64 z ∧ wr.ownsRow w3.heap.size 94 4 o (codeTo g ys ns m).length (insR (codeTo g ys ns m)).flatten ∧ Below w3.heap.size w3 wr) (fun _ i _ => (intOf i + 1).toNat)
    case atStart => exact ⟨0, (n : Int) - 1, Nat.zero_le _, by omega, by go_num, World.ownsRow_nil _ _ _ _, Below.refl _ _⟩
    case round =>
      obtain ⟨m, z, hm', hzm, rfl, hown, hbr⟩ := hrel
      have hrz := hbr.size
      by_cases hge : 0 ≤ z
      · obtain ⟨k, rfl⟩ : ∃ k : Nat, z = k := ⟨z.toNat, by omega⟩
        have hk : k < n := by omega
        have hki : (k : Int) < n := by omega
        have hkg : g.length - 1 - m = k := by rw [HN.out]; omega
        obtain ⟨x, hx⟩ : ∃ x, hs[k]? = some x := ⟨_, List.getElem?_eq_getElem (by rw [HSL.out]; omega)⟩
        have d0 := pRow_cell (HR3.out.below hbr hRlt) hx
        have HW := Lib.hid (write_any x k n _ w3.heap.size g hs ss ys ns _ (codeTo g ys ns m) _ (HB3.out.next (by rw [HSL.out, HN.out]; exact Nat.le_refl _) hbr) hx HSL.out HN.out HG.out HST.out HLOW.out hrz hown (codeTo_len' hn120 hm'))
        have HCT := Lib.hid (show codeTo g ys ns (m + 1) = codeTo g ys ns m ++ ptCode g ys ns k by rw [← hkg]; rfl)
        clear hown hx
        go_wp2_with fail
        refine HW.out.mono ?_; rintro e w4 ⟨v4, rfl, ho4, hb4⟩
        have HO4 := Lib.hid ho4; clear ho4
        go_wp2
        refine ⟨⟨m + 1, (k : Int) - 1, by omega, by omega, by go_num, by rw [HCT.out]; exact HO4.out, hbr.trans hb4⟩, by simp [intOf]⟩
      · obtain rfl : m = n := by omega
        have hmade : MadeOf g (codeTo g ys ns m) := ⟨ys, ns, by rw [HN.out]; exact HLR.out, by rw [HN.out]⟩
        have hx160 : (codeTo g ys ns m).length ≤ 1000 := codeTo_len' hn120 (Nat.le_refl _)
        have hbw := hb13.trans (hbr.mono hz3)
        have hzw := hbw.size
        have HSx := Lib.hid (SlA.of_own hown (insR_len _) (insR_rows _)); have HO := Lib.hid (own_base hown hz3); have HM := Lib.hid hmade
        clear hown hmade
        generalize codeTo g ys ns m = X at *
        cases hc : codeOkB X with
        | false =>
          have HC := Lib.hid (show ¬ codeOk X from fun h => by rw [codeOkB_iff.2 h] at hc; cases hc); have HC2 := Lib.hid hc; clear hc
          go_wp2_with fail
          refine (CodeOk_any _ X _ HSx.out (hp.below hbw)).mono ?_; rintro e w5 ⟨rfl, hb5⟩
          rw [HC2.out]
          go_wp2
          go_ret2
          exact ⟨_, [], false, rfl, .inr ⟨HG.out, X, HM.out, .inr ⟨HC.out, rfl, rfl⟩⟩, World.ownsRow_nil _ _ _ _, below_then hbw hb5⟩
        | true =>
          have HC := Lib.hid (codeOkB_iff.1 hc); have HC2 := Lib.hid hc; clear hc
          go_wp2_with fail
          refine (CodeOk_any _ X _ HSx.out (hp.below hbw)).mono ?_; rintro e w5 ⟨rfl, hb5⟩
          rw [HC2.out]
          have HO5 := Lib.hid (own_below HO.out hb5)
          have hbe := below_then hbw hb5
          clear hb5
          go_wp2
          go_ret2
          exact ⟨_, X, true, rfl, .inr ⟨HG.out, X, HM.out, .inl ⟨HC.out, rfl, rfl⟩⟩, HO5.out, hbe⟩
end Go.Proofs.YtbgoppfanibdiaaDoor

-- A policy's code, both sides: MakeCode.
namespace Go.Proofs.YtbgoppfanibdiaaDoor
open Go.RowKit Go.Maps
set_option linter.unusedSimpArgs false
set_option linter.unusedVariables false

/-- What a policy makes. -/
def CodeOfP (p : Pol) (x : List In4) (ok : Bool) : Prop := ∃ g, GraphIs p g ∧ MakeIs g x ok
theorem CodeOfP.one {p : Pol} {x y : List In4} {a b : Bool} (h : CodeOfP p x a) (k : CodeOfP p y b) : x = y ∧ a = b := by
  obtain ⟨g, h1, h2⟩ := h
  obtain ⟨g', k1, k2⟩ := k
  obtain rfl := h1.one k1
  exact h2.one k2

set_option maxHeartbeats 2000000 in
theorem iMakeCode_any (p : Pol) (v : Value) (w : World) (hP : PolIs w p v) (hp : Pow w) :
    Calls Tryd.prog 9 #[v] w fun e w' => ∃ (v' : Value) (x : List In4) (ok : Bool) (b : Nat), e = .returned (.tuple #[v', .bool ok]) ∧ CodeOfP p x ok ∧ w.heap.size ≤ b ∧ w'.ownsRow b 94 4 v' x.length (insR x).flatten ∧ Below w.heap.size w w' := by
  have HP := Lib.hid hP
  obtain ⟨rv, css, rfl, ⟨A, n, c, rfl, hSA⟩, hR⟩ := hP
  have hb0 : Below w.heap.size w (w.alloc (.cells #[.slice A n c, .int .i64 p.els] 25)) := by go_grown
  have hp0 := hp.below hb0
  clear hSA hR
  go_enter Tryd.func9, Tryd.ntmps9
  go_wp2_with fail
  refine (iGraphMake_any p _ _ (HP.out.below hb0) hp0).mono ?_; rintro e w1 ⟨v1, g, rfl, hs1, hg1, -, -, hb1⟩
  have hb01 := below_then hb0 hb1
  have HG := Lib.hid hg1; clear hg1
  go_wp2_with fail
  refine (MakeOf_any v1 g _ hs1 (hp.below hb01)).mono ?_; rintro e w2 ⟨v2, x, ok, rfl, hmk, ho, hb2⟩
  have HM := Lib.hid hmk; have HO := Lib.hid ho; clear hmk ho hs1
  have hz := hb01.size
  have hb02 := below_then hb01 hb2
  go_wp2
  go_ret2
  exact ⟨v2, x, ok, w1.heap.size, rfl, ⟨g, HG.out, HM.out⟩, hz, HO.out, hb02⟩

end Go.Proofs.YtbgoppfanibdiaaDoor
