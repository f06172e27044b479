/- How spec makes a program of a graph: l5Make, MakeOf, MakeCode. -/
import Derived.Test.YtcomdkmglihdbaaGreatDoorLay3
import Derived.Test.YtcomdkmglihdbaaGreatDoorMak
import Derived.Test.YtcomdkmglihdbaaGreatDoorPolSA
import Derived.Test.YtcomdkmglihdbaaGreatDoorCodeSA
import Derived.Test.YtcomdkmglihdbaaGreatDoorGraphMk
-- How a program is made of a graph: l5Make, MakeOf.
namespace Go.Proofs.YtcomdkmglihdbaaGreatDoor
open Go.RowKit
set_option linter.unusedSimpArgs false
set_option linter.unusedVariables false

def isF : Value → Bool
  | .bool b => !b
  | _ => false
/-- How many ways a block tells as near. -/
def nearW (w : World) (b : Nat) : Nat := match w.heap[b]? with
  | some (.cells cs _ _) => cs.toList.countP isF
  | _ => 0
theorem nearW_blk {w : World} {b : Nat} {t : TypeId} {ys : List Bool} (h : Blk w b t (bRow ys)) : nearW w b = nearN ys := by
  unfold nearW
  rw [show w.heap[b]? = _ from h]
  simp only [bRow, nearN, List.countP_map, List.count]
  apply List.countP_congr
  intro x _
  cases x <;> simp [isF]
theorem ptCode_pos {g : List Pt} {ys ns : List Bool} {i : Nat} (h : i < g.length) : 0 < (ptCode g ys ns i).length := by
  unfold ptCode
  rw [List.getElem?_eq_getElem h]
  simp only []
  split <;> simp

/-- How many ways a lay tells as near. -/
def layNear (w : World) (L : Nat) : Nat := match w.heap[L]? with
  | some (.cells cs _ _) => (match cs[0]?, cs[1]? with
    | some (Value.slice (some a) _ _), some (Value.slice (some b) _ _) => nearW w a.block + nearW w b.block
    | _, _ => 0)
  | _ => 0
theorem layNear_of {w : World} {L yb nb ab n : Nat} {ys ns : List Bool} {ps : List Nat} (h : Lay w L yb nb ab n ys ns ps) : layNear w L = nearN ys + nearN ns := by
  unfold layNear
  rw [show w.heap[L]? = _ from h.box, ← nearW_blk h.yes, ← nearW_blk h.no]
  rfl
theorem blk4_3 (w : World) (o0 o1 o2 : Obj) (c : Array Value) (t : TypeId) : Blk ((((w.alloc o0).alloc o1).alloc o2).alloc (.cells c t)) (w.heap.size + 1 + 1 + 1) t c := by
  have := Blk.new (((w.alloc o0).alloc o1).alloc o2) t c
  simpa using this
theorem blk4_2 (w : World) (o0 o1 o3 : Obj) (c : Array Value) (t : TypeId) : Blk ((((w.alloc o0).alloc o1).alloc (.cells c t)).alloc o3) (w.heap.size + 1 + 1) t c := by
  have := (Blk.new ((w.alloc o0).alloc o1) t c).alloc o3
  simpa using this
theorem blk4_1 (w : World) (o0 o2 o3 : Obj) (c : Array Value) (t : TypeId) : Blk ((((w.alloc o0).alloc (.cells c t)).alloc o2).alloc o3) (w.heap.size + 1) t c := by
  have := ((Blk.new (w.alloc o0) t c).alloc o2).alloc o3
  simpa using this
theorem blk4_0 (w : World) (o1 o2 o3 : Obj) (c : Array Value) (t : TypeId) : Blk ((((w.alloc (.cells c t)).alloc o1).alloc o2).alloc o3) w.heap.size t c := (((Blk.new w t c).alloc o1).alloc o2).alloc o3

set_option maxHeartbeats 4000000 in
theorem l5Make_any (A : Option Addr) (n c : Nat) (g : List Pt) (w : World) (hA : SlA w 7 A n c (g.map Pt.cells)) (hg : graphOk g) :
    Calls Tryz.prog 108 #[.slice A n c] w fun e w' => ∃ (v : Value) (x : List In4), e = .returned v ∧ MadeOf g x ∧ w'.ownsRow w.heap.size 180 4 v x.length (insR x).flatten ∧ Below w.heap.size w w' := by
  have hl : g.length = n := by have := hA.len; simpa using this
  have hn120 : n ≤ 120 := by rw [← hl]; exact hg.1.2
  have hc := hA.cap
  have hm := hA.max
  unfold maxLen at hm
  have HG := Lib.hid hg; have HN := Lib.hid hl; have HA := Lib.hid hA; clear hg hl hA
  have hmk := fun W => run_make_row' (P := Tryz.prog) 192 4 (.bool false) 1 Tryz.underlying192 info_boolR rfl .i64 .i64 n (by omega) (by omega) W
  have hmi := fun W => run_make_row' (P := Tryz.prog) 59 3 (.int .i64 0) 8 Tryz.underlying59 info_intR rfl .i64 .i64 n (by omega) (by omega) W
  go_enter Tryz.func108, Tryz.ntmps108
  go_wp2
  go_region
  all_goals
    clear hmk hmi
    go_wp2
    go_loopw [] (fun wr => ∃ (yb nb ab : Nat) (ys ns : List Bool) (ps : List Nat), w.heap.size ≤ yb ∧ w.heap.size ≤ nb ∧ w.heap.size ≤ ab ∧ Lay wr (w.heap.size + 1 + 1 + 1) yb nb ab n ys ns ps ∧ Below w.heap.size w wr ∧ (∀ a b, LayRel g ys ns a b → LayRel g (List.replicate n false) (List.replicate n false) a b)) (fun wr => layNear wr (w.heap.size + 1 + 1 + 1))
    case atStart =>
      refine ⟨_, _, _, List.replicate n false, List.replicate n false, List.replicate n 0, ?_, ?_, ?_, ⟨blk4_3 w.drew _ _ _ _ _, ?_, ?_, ?_, by simp, by simp, by simp, ?_⟩, by go_grown, fun a b h => h⟩
      rotate_left 3
      · rw [← bRow_zero]; first | exact blk4_0 w.drew _ _ _ _ _ | exact blk4_1 w.drew _ _ _ _ _ | exact blk4_2 w.drew _ _ _ _ _
      · rw [← bRow_zero]; first | exact blk4_0 w.drew _ _ _ _ _ | exact blk4_1 w.drew _ _ _ _ _ | exact blk4_2 w.drew _ _ _ _ _
      · rw [← nRow_zero]; first | exact blk4_0 w.drew _ _ _ _ _ | exact blk4_1 w.drew _ _ _ _ _ | exact blk4_2 w.drew _ _ _ _ _
      all_goals omega
    case round =>
      obtain ⟨yb, nb, ab, ys, ns, ps, hyb, hnb, hab, hL, hbw, hrl⟩ := hrel
      have hbz := hbw.size
      go_wp2_with fail
      refine (place_any w A n c _ yb nb ab g ys ns ps _ HA.out HG.out hbw hL hyb hnb hab).mono ?_
      rintro e w2 ⟨ok, ps2, rfl, hL2, hst2, hok, hb2⟩
      cases ok
      case' false =>
        have hne : ¬ (nextY g ys ns = ys ∧ nextN g ys ns = ns) := fun e => by have := hok.2 e; cases this
        have HNE := Lib.hid hne; have HL2 := Lib.hid hL2; have HL1 := Lib.hid (layNear_of hL); have HR := Lib.hid hrl
        clear hok hne hL2 hL hrl
        go_wp2
        refine ⟨⟨yb, nb, ab, _, _, ps2, hyb, hnb, hab, HL2.out, hb2, fun a b h => HR.out a b (.more HNE.out h)⟩, ?_⟩
        rw [HL1.out, layNear_of HL2.out]
        have h1 := stepF_near (farY g ys ns) ys g.length
        have h2 := stepF_near (farN g ys ns) ns g.length
        unfold nextY nextN
        rcases Decidable.em (stepF (farY g ys ns) ys g.length = ys) with e1 | e1
        · have := h2.2 (fun e2 => HNE.out ⟨e1, e2⟩)
          omega
        · have := h1.2 e1
          omega
      case' true =>
        obtain ⟨e1, e2⟩ := hok.1 rfl
        rw [e1, e2] at hL2
        have HLR := Lib.hid (hrl _ _ (.done ⟨e1, e2⟩)); have HL := Lib.hid hL2; have HST := Lib.hid hst2
        have hz2 := hb2.size
        clear hok e1 e2 hL2 hL hrl hst2 hbw hbz
        have O0 : (w2.alloc (.cells #[] 180)).ownsRow w2.heap.size 180 4 (.slice (some ⟨w2.heap.size, 0, none⟩) 0 0) 0 (insR []).flatten := World.ownsRow_lit (base := w2.heap.size) (e := 180) (size := 4) w2 #[] 0 (Nat.le_refl _) (by unfold maxLen; omega) rfl
        have HO := Lib.hid O0
        clear O0
        go_wp2
        go_loopw [4, 5] (fun o i wr => ∃ (m : Nat) (z : Int), m ≤ n ∧ z + 1 + m = n ∧ i = .int .i64 z ∧ wr.ownsRow w2.heap.size 180 4 o (codeTo g ys ns m).length (insR (codeTo g ys ns m)).flatten ∧ Below w2.heap.size w2 wr) (fun _ i _ => (intOf i + 1).toNat)
        case atStart => exact ⟨0, (n : Int) - 1, Nat.zero_le _, by omega, by go_num, HO.out, by go_grown⟩
        case round =>
          obtain ⟨m, z, hm', hzm, rfl, hown, hbr⟩ := hrel
          have hrz := hbr.size
          by_cases hge : 0 ≤ z
          · obtain ⟨k, rfl⟩ : ∃ k : Nat, z = k := ⟨z.toNat, by omega⟩
            have hk : k < n := by omega
            have hkg : g.length - 1 - m = k := by rw [HN.out]; omega
            have hpos : 0 < (ptCode g ys ns k).length := ptCode_pos (by rw [HN.out]; exact hk)
            have hp5 := ptCode_len g ys ns k
            have hc5 := codeTo_len g ys ns m
            have HCT := Lib.hid (show codeTo g ys ns (m + 1) = codeTo g ys ns m ++ ptCode g ys ns k by rw [← hkg]; rfl)
            have hSA := (HA.out.below (hb2.trans (hbr.mono hz2)))
            have hLr := HL.out.below hbr
            have HOW := Lib.hid hown
            clear hown
            generalize hXS : codeTo g ys ns m = XS at *
            generalize hYS : ptCode g ys ns k = YS at *
            obtain ⟨i0, hi0, hz0, hz1, hz2'⟩ := info_parts info_Ins
            go_wp2_with fail
            refine (l5Point_any A n c _ yb nb ab k g ys ns ps2 _ (by exact hSA) HG.out hLr HST.out (by exact hk)).mono ?_
            rintro e w3 ⟨v3, rfl, hP, hb3⟩
            rw [hYS] at hP
            obtain ⟨q3, c3, rfl, hq1, hq2⟩ := hP.form hpos
            have hO3 := own_below HOW.out hb3
            have hz3 := hb3.size
            go_wp2_with (at_builtin; go_must (refine wpList_append_own _ rfl (.tmp 29) (.tmp 33) _ rfl w2.heap.size 180 i0 _ 4 32 Tryz.underlying118 hi0 hz0 hz1 hz2' rfl (by omega) _ XS.length _ rfl hO3 ⟨q3, 0, none⟩ YS.length c3 (insR YS).flatten rfl hP.1 (hP.cells rfl) (ins_one _) (by unfold maxLen; omega) (by omega) (by omega) ?_); intro v7 w7 hown7 hg7 _)
            refine ⟨⟨m + 1, (k : Int) - 1, by omega, by omega, by go_num, ?_, ?_⟩, by simp [intOf]⟩
            · rw [HCT.out]
              exact own_eq hown7 (by simp) (by simp [insR])
            · exact (hbr.trans (hb3.mono hrz)).grown hg7 (by omega) (fun k hk => (hO3.lt k hk).1)
          · obtain rfl : m = n := by omega
            have HO2 := Lib.hid hown
            clear hown
            go_wp2
            go_ret
            exact ⟨_, rfl, codeTo g ys ns m, ⟨ys, ns, by rw [HN.out]; exact HLR.out, by rw [HN.out]⟩, own_base HO2.out hz2, hb2.trans (hbr.mono hz2)⟩
end Go.Proofs.YtcomdkmglihdbaaGreatDoor

-- How a program is made: MakeOf, MakeCode.
namespace Go.Proofs.YtcomdkmglihdbaaGreatDoor
open Go.RowKit
set_option linter.unusedSimpArgs false
set_option linter.unusedVariables false

theorem MakeIs.len {g : List Pt} {x : List In4} {ok : Bool} (h : MakeIs g x ok) : x.length ≤ 600 := by
  rcases h with ⟨_, rfl, _⟩ | ⟨hg, y, hy, ⟨_, rfl, _⟩ | ⟨_, rfl, _⟩⟩
  · simp
  · have := hy.len
    have := hg.1.2
    omega
  · simp

set_option maxHeartbeats 2000000 in
theorem sMakeOf_any (v : Value) (g : List Pt) (w : World) (hs : Sl w 7 v (g.map Pt.cells)) :
    Calls Tryz.prog 89 #[v] w fun e w' => ∃ (v' : Value) (x : List In4) (ok : Bool), e = .returned (.tuple #[v', .bool ok]) ∧ MakeIs g x ok ∧ w'.ownsRow w.heap.size 180 4 v' x.length (insR x).flatten ∧ Below w.heap.size w w' := by
  have HS := Lib.hid hs
  obtain ⟨A, n, c, rfl, hA⟩ := hs
  have HA := Lib.hid hA; clear hA
  cases hg : graphOkB g with
  | false =>
    have HG := Lib.hid (show ¬ graphOk g from fun h => by rw [graphOkB_iff.2 h] at hg; cases hg); have HG2 := Lib.hid hg; clear hg
    go_enter Tryz.func89, Tryz.ntmps89
    go_wp2_with fail
    refine (sGraphOk_any _ g _ HS.out).mono ?_; rintro e w1 ⟨rfl, hb1⟩
    rw [HG2.out]
    have hz1 := hb1.size
    go_wp2
    go_ret2
    exact ⟨_, [], false, rfl, .inl ⟨HG.out, rfl, rfl⟩, World.ownsRow_lit (base := w.heap.size) (e := 180) (size := 4) w1 #[] 0 hz1 (by unfold maxLen; omega) rfl, hb1.alloc hz1 _⟩
  | true =>
    have HG := Lib.hid (graphOkB_iff.1 hg); have HG2 := Lib.hid hg; clear hg
    go_enter Tryz.func89, Tryz.ntmps89
    go_wp2_with fail
    refine (sGraphOk_any _ g _ HS.out).mono ?_; rintro e w1 ⟨rfl, hb1⟩
    rw [HG2.out]
    have hz1 := hb1.size
    go_wp2_with fail
    refine (l5Make_any A n c g _ (HA.out.below hb1) HG.out).mono ?_; rintro e w2 ⟨v2, x, rfl, hx, ho2, hb2⟩
    have hb12 := below_then hb1 hb2
    have ho3 := own_base ho2 hz1
    have hsl := SlA.of_own ho2 (insR_len x) (insR_rows x)
    have hz2 := hb12.size
    cases hc : codeOkB x with
    | false =>
      have HC := Lib.hid (show ¬ codeOk x from fun h => by rw [codeOkB_iff.2 h] at hc; cases hc); have HC2 := Lib.hid hc; clear hc
      have HX := Lib.hid hx; clear hx ho2 ho3
      go_wp2_with fail
      refine (sCodeOk_any _ x _ hsl).mono ?_; rintro e w3 ⟨rfl, hb3⟩
      rw [HC2.out]
      have hb13 := below_then hb12 hb3
      have hz3 := hb13.size
      go_wp2
      go_ret2
      exact ⟨_, [], false, rfl, .inr ⟨HG.out, x, HX.out, .inr ⟨HC.out, rfl, rfl⟩⟩, World.ownsRow_lit (base := w.heap.size) (e := 180) (size := 4) w3 #[] 0 hz3 (by unfold maxLen; omega) rfl, hb13.alloc hz3 _⟩
    | true =>
      have HC := Lib.hid (codeOkB_iff.1 hc); have HC2 := Lib.hid hc; clear hc
      have HX := Lib.hid hx; have HO := Lib.hid ho3; clear hx ho2 ho3
      go_wp2_with fail
      refine (sCodeOk_any _ x _ hsl).mono ?_; rintro e w3 ⟨rfl, hb3⟩
      rw [HC2.out]
      have hb13 := below_then hb12 hb3
      have hO4 := own_below HO.out hb3
      clear hb3
      have HO4 := Lib.hid hO4; clear hO4
      go_wp2
      go_ret2
      exact ⟨_, x, true, rfl, .inr ⟨HG.out, x, HX.out, .inl ⟨HC.out, rfl, rfl⟩⟩, HO4.out, hb13⟩

set_option maxHeartbeats 2000000 in
theorem sMakeCode_any (p : Pol) (v : Value) (w : World) (hP : PolIs w p v) :
    Calls Tryz.prog 67 #[v] w fun e w' => ∃ (v' : Value) (x : List In4) (ok : Bool), e = .returned (.tuple #[v', .bool ok]) ∧ x.length ≤ 600 ∧ w'.ownsRow w.heap.size 180 4 v' x.length (insR x).flatten ∧ Below w.heap.size w w' := by
  have HP := Lib.hid hP
  obtain ⟨rv, css, rfl, ⟨A, n, c, rfl, hSA⟩, hR⟩ := hP
  have hb0 : Below w.heap.size w (w.alloc (.cells #[.slice A n c, .int .i64 p.els] 82)) := by go_grown
  have hz0 := hb0.size
  clear hSA hR
  go_enter Tryz.func67, Tryz.ntmps67
  go_wp2_with fail
  refine (GraphMake_any p _ _ (HP.out.below hb0)).mono ?_; rintro e w1 ⟨v1, g1, rfl, hs1, -, hl1, hb1⟩
  have hb01 := below_then hb0 hb1
  have hz1 := hb01.size
  go_wp2_with fail
  refine (sMakeOf_any v1 g1 _ hs1).mono ?_; rintro e w2 ⟨v2, x, ok, rfl, hx, ho, hb2⟩
  have HX := Lib.hid hx.len; have HO := Lib.hid (own_base ho hz1); have hb12 := below_then hb01 hb2
  clear hx ho
  go_wp2
  go_ret2
  exact ⟨_, x, ok, rfl, HX.out, HO.out, hb12⟩
end Go.Proofs.YtcomdkmglihdbaaGreatDoor
