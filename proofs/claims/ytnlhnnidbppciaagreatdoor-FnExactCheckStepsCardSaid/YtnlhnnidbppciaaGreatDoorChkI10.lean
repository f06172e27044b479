/- impl's check of a program and a policy. -/
import Derived.Test.YtnlhnnidbppciaaGreatDoorChkI7
import Derived.Test.YtnlhnnidbppciaaGreatDoorChkI9
import Derived.Test.YtnlhnnidbppciaaGreatDoorChkS8
namespace Go.Proofs.YtnlhnnidbppciaaGreatDoor
open Go.RowKit
set_option linter.unusedSimpArgs false
set_option linter.unusedVariables false

theorem info_Ckr : (Tryz.prog.info? 153).map (fun i => (i.zero, i.size, i.bytes)) = some (some (.agg #[.slice none 0 0, .int .i64 0, .bool false]), 3, 40) := by kernel_rfl
theorem own_apart_t {w : World} {b1 b2 n1 n2 s1 s2 : Nat} {e1 e2 : TypeId} {v1 v2 : Value} {x1 x2 : List Value} (h1 : w.ownsRow b1 e1 s1 v1 n1 x1) (h2 : w.ownsRow b2 e2 s2 v2 n2 x2) (hne : e1 ≠ e2) : v1.ownBlock = none ∨ v1.ownBlock ≠ v2.ownBlock := by
  rcases h1.2 with ⟨rfl, _⟩ | ⟨g1, cap1, cur1, rfl, _, hg1, _⟩
  · exact .inl rfl
  rcases h2.2 with ⟨rfl, _⟩ | ⟨g2, cap2, cur2, rfl, _, hg2, _⟩
  · exact .inr (by simp [Value.ownBlock])
  refine .inr fun e => ?_
  simp only [Value.ownBlock, Option.some.injEq] at e
  subst e
  rw [hg1] at hg2
  simp only [Option.some.injEq, Obj.cells.injEq] at hg2
  exact hne hg2.2.1
/-- The rules as they are laid, one by one. -/
def CkRows (w : World) (base : Nat) (rs : List Rl) (css : List (List Value)) : Prop := css.length = rs.length ∧ ∀ (i : Nat) (r : Rl) (cs : List Value), rs[i]? = some r → css[i]? = some cs →
  ∃ A n c nb, cs = [.slice A n c, .int .i64 r.verdict, .bool nb] ∧ ((nb = true ∧ Never r) ∨ (nb = false ∧ ¬ Never r)) ∧ w.ownsRow base 213 5 (.slice A n c) (looksOf r).length (knR (looksOf r)).flatten
theorem CkRows.nil (w : World) (base : Nat) : CkRows w base [] [] := ⟨rfl, fun i r cs h => by simp at h⟩
theorem CkRows.next {w w' : World} {base : Nat} {rs : List Rl} {css : List (List Value)} (h : CkRows w base rs css) (hb : Below w.heap.size w w') : CkRows w' base rs css :=
  ⟨h.1, fun i r cs h1 h2 => by obtain ⟨A, n, c, nb, e, h3, ho⟩ := h.2 i r cs h1 h2; exact ⟨A, n, c, nb, e, h3, own_below ho hb⟩⟩
theorem CkRows.app {w w' : World} {base b2 m : Nat} {rs : List Rl} {css : List (List Value)} {v : Value} {xs : List Value} (h : CkRows w base rs css) (ho : w.ownsRow b2 153 3 v m xs) (hg : w.grownBy w' v.ownBlock) : CkRows w' base rs css :=
  ⟨h.1, fun i r cs h1 h2 => by obtain ⟨A, n, c, nb, e, h3, hw⟩ := h.2 i r cs h1 h2; exact ⟨A, n, c, nb, e, h3, hw.kept hg (own_apart_t hw ho (by decide))⟩⟩
theorem CkRows.far {w : World} {base g i : Nat} {rs : List Rl} {css : List (List Value)} (h : CkRows w base rs css) (hg : g < base) (u : Value) : CkRows (w.setCell ⟨g, i, none⟩ u) base rs css :=
  ⟨h.1, fun j r cs h1 h2 => by obtain ⟨A, n, c, nb, e, h3, hw⟩ := h.2 j r cs h1 h2; exact ⟨A, n, c, nb, e, h3, ownsRow_setCell_other (a := ⟨g, i, none⟩) hw (fun e => by have := (hw.lt _ e).1; simp only at this; omega) u⟩⟩
theorem CkRows.snoc {w : World} {base : Nat} {rs : List Rl} {css : List (List Value)} {r : Rl} {A : Option Addr} {n c : Nat} {nb : Bool} (h : CkRows w base rs css) (hn : (nb = true ∧ Never r) ∨ (nb = false ∧ ¬ Never r)) (ho : w.ownsRow base 213 5 (.slice A n c) (looksOf r).length (knR (looksOf r)).flatten) : CkRows w base (rs ++ [r]) (css ++ [[.slice A n c, .int .i64 r.verdict, .bool nb]]) := by
  refine ⟨by simp [h.1], fun i r' cs' h1 h2 => ?_⟩
  have hl := h.1
  by_cases hi : i < rs.length
  · rw [List.getElem?_append_left hi] at h1
    rw [List.getElem?_append_left (by omega)] at h2
    exact h.2 i r' cs' h1 h2
  · rw [List.getElem?_append_right (by omega)] at h1
    rw [List.getElem?_append_right (by omega), hl] at h2
    have e : i - rs.length = 0 := by have := (List.getElem?_eq_some_iff.1 h1).1; simp at this; omega
    rw [e] at h1 h2
    simp at h1 h2
    subst h1 h2
    exact ⟨A, n, c, nb, rfl, hn, ho⟩
theorem CkRows.rows {w : World} {base : Nat} {rs : List Rl} {css : List (List Value)} (h : CkRows w base rs css) : ∀ c ∈ css, c.length = 3 := fun c hc => by
  obtain ⟨i, hi, rfl⟩ := List.getElem_of_mem hc
  have h1 := h.1
  obtain ⟨A, n, c, nb, e, _⟩ := h.2 i _ _ (List.getElem?_eq_getElem (by omega)) (List.getElem?_eq_getElem hi)
  rw [e]; rfl
theorem CkRows.ckN {w : World} {cg : Nat} {rs : List Rl} {css : List (List Value)} {v : Value} (h : CkRows w (cg + 1) rs css) (ho : w.ownsRow (cg + 1) 153 3 v rs.length css.flatten) : CkN cg w v rs :=
  ⟨css, SlN.of_own ho h.1 h.rows (Nat.lt_succ_self _), h.1, fun i r cs h1 h2 => by
    obtain ⟨A, n, c, nb, e, h3, hw⟩ := h.2 i r cs h1 h2
    refine ⟨A, n, c, nb, e, ?_⟩
    rcases h3 with h3 | ⟨h3, h4⟩
    · exact .inl h3
    · exact .inr ⟨h3, h4, SlN.of_own hw (knR_len _) (knR_rows _) (Nat.lt_succ_self _)⟩⟩

def IAllPost (g : List In4) (p : Pol) (w : World) (e : Ending) (w' : World) : Prop :=
  ∃ (cg s : Nat) (b : Bool) (cv rv : Value), e = .returned (.pointer (some ⟨cg, 0, none⟩)) ∧ ChkIs g p s b ∧ Blk w' cg 91 #[cv, rv, .int .i64 p.els, .int .i64 (s : Int), .bool (!b)] ∧ Below w.heap.size w w'
set_option maxRecDepth 100000 in
set_option maxHeartbeats 4000000 in
theorem check_any (cv : Value) (g : List In4) (p : Pol) (v : Value) (w : World) (hv : Sl w 4 cv (insR g)) (hP : PolIs w p v) (hg : codeOk g) (hp : polOkB p = true) :
    Calls Tryz.prog 65 #[cv, v] w (IAllPost g p w) := by
  obtain ⟨rs, els⟩ := p
  obtain ⟨rv, css, rfl, hS, hR⟩ := hP
  simp only at hR ⊢
  have hsh := (polOkB_shape hp).1
  have hrules : ∀ r ∈ rs, ruleOkB r = true := (polShapeB_words hsh).2.2
  have hrl : rs.length ≤ 1000 := by have := (polShapeB_words hsh).1; simp only at this; omega
  obtain ⟨A, n, c, rfl, hSA⟩ := hS
  obtain ⟨VA, vn, vc, rfl, hVA⟩ := id hv
  have hln : rs.length = n := by rw [← hR.1]; exact hSA.len
  have hc := hSA.cap
  have hm := hSA.max
  unfold maxLen at hm
  obtain ⟨X, hX⟩ : ∃ X, X = (w.alloc (.cells #[.slice A n c, .int .i64 els] 31)).alloc (.cells #[.slice VA vn vc, .slice none 0 0, .int .i64 els, .int .i64 0, .bool false] 91) := ⟨_, rfl⟩
  have hbX : Below w.heap.size w X := by rw [hX]; go_grown
  have hzX : X.heap.size = w.heap.size + 1 + 1 := by rw [hX]; simp
  have BC : Blk X (w.heap.size + 1) 91 #[.slice VA vn vc, .slice none 0 0, .int .i64 els, .int .i64 0, .bool false] := by
    rw [hX]
    have := Blk.new (w.alloc (.cells #[.slice A n c, .int .i64 els] 31)) 91 #[.slice VA vn vc, .slice none 0 0, .int .i64 els, .int .i64 0, .bool false]
    simpa using this
  have hp0 := (show X.cell? ⟨w.heap.size, 0, none⟩ = some (.slice A n c) from by rw [hX]; exact ((Blk.new w 31 #[.slice A n c, .int .i64 els]).alloc _).cell 0)
  have HX := Lib.hid hX; have HBC := Lib.hid BC; have HZ := Lib.hid hzX; have HSA := Lib.hid hSA; have HR := Lib.hid hR; have HV := Lib.hid hv; have HL := Lib.hid hln; have HRU := Lib.hid hrules; have HG := Lib.hid hg; have HBX := Lib.hid hbX
  have HRL := Lib.hid hrl
  have hn9 : n ≤ 1000 := by omega
  clear hX BC hzX hSA hR hv hln hrules hg hp hsh hVA hbX hrl
  go_enter Tryz.func65, Tryz.ntmps65
  go_upto_region 2 with (fail)
  rw [← HX.out]
  go_wp2
  go_loopw [16] (fun i wr => ∃ (k : Nat) (v : Value) (ds : List (List Value)), k ≤ n ∧ i = .int .i64 k ∧ Hid (Blk wr (w.heap.size + 1) 91 #[.slice VA vn vc, v, .int .i64 els, .int .i64 0, .bool false]) ∧ Hid (wr.ownsRow (w.heap.size + 1 + 1) 153 3 v k ds.flatten) ∧ Hid (CkRows wr (w.heap.size + 1 + 1) (rs.take k) ds) ∧ Below (w.heap.size + 1) X wr) (fun i _ => n - (intOf i).toNat)
  case atStart => exact ⟨0, .slice none 0 0, [], Nat.zero_le _, rfl, HBC, Lib.hid (World.ownsRow_nil _ _ _ _), Lib.hid (by simpa using CkRows.nil _ _), Below.refl _ _⟩
  case round =>
    clear HBC hp0
    obtain ⟨k, v, ds, hk, rfl, HB, HO, HW, hb⟩ := hrel
    have hsz := hb.size
    have hzx := HZ.out
    have hz0 : w.heap.size + 1 < wr.heap.size := by omega
    have hbw := HBX.out.trans (hb.mono (by omega))
    by_cases hlt : k < n
    · obtain ⟨b, off, r, tv, rfl, hab, hgp, hsl, hcell⟩ := rules_get HSA.out HR.out hlt
      obtain ⟨c0, c1, c2, c3⟩ := hcell wr _ hbw hab
      obtain ⟨A2, n2, c2', rfl, hA2⟩ := id hsl
      have HSL := Lib.hid hsl
      have HRW := Lib.hid (rlW_of (HRU.out r (List.mem_of_getElem? hgp)))
      have HTK := Lib.hid (show rs.take (k + 1) = rs.take k ++ [r] by rw [List.take_add_one, hgp]; rfl)
      have hdl : ds.length = k := by rw [HW.out.1, List.length_take, HL.out]; omega
      obtain ⟨A3, n3, c3', rfl, hS3⟩ := SlA.of_own HO.out hdl HW.out.rows
      have e1 := (show _ = some (Value.slice A3 n3 c3') from HB.out.cell 1); have f1 := HB.out.frozen 1
      have HBW := Lib.hid hbw
      clear hsl hgp hcell hA2 hS3 hbw hzx
      go_wp2
      go_region_law (first
        | (go_simp; go_at_call 115; refine (checkRuleOf_any r (.slice A2 n2 c2') _ (HSL.out.below (below_then HBW.out (by go_grown))) HRW.out).mono ?_; rintro e W2 ⟨A5, n5, c5, nb, rfl, hnev, ho5, hb2⟩; have hbr : Below wr.heap.size wr W2 := below_then (by go_grown) hb2; have Y := HB.out.same hbr; have y1 := (show _ = some (Value.slice A3 n3 c3') from Y.cell 1); have yf1 := Y.frozen 1; have HY := Lib.hid Y; have HO2 := Lib.hid (own_below HO.out hbr); have HW2 := Lib.hid (HW.out.next hbr); have hz2 : w.heap.size + 1 < W2.heap.size := Nat.lt_of_lt_of_le hz0 hbr.size; have HN5 := Lib.hid hnev; have HO5 := Lib.hid (own_base (base' := w.heap.size + 1 + 1) ho5 (by simp; omega)); clear hnev ho5 hb2 Y)
        | (refine step_app0g (w0 := W2) rfl (.tmp 24) (.tmp 27) _ rfl (w.heap.size + 1 + 1) 153 Tryz.underlying89 info_Ckr rfl (by omega) (by omega) (.slice A3 n3 c3') k ds rfl HO2.out rfl (by simp [Value.oneCell']) rfl (by omega) (by omega) ?_; intro v3 W3 hown3 hg3 _; obtain ⟨g3, cap3, rfl, hg3', hg3''⟩ := hown3.form (by omega); have hW3 := HW2.out.app HO2.out hg3; have h53 := HO5.out.kept hg3 (own_apart_t HO5.out HO2.out (by decide)); have hb3 : Below (w.heap.size + 1) W2 W3 := (Below.refl (w.heap.size + 1) W2).grown hg3 (by omega) (fun k hk => by have := (HO2.out.lt k hk).1; omega); have Y3 := HY.out.grown hg3 (own_far_ne (t := 153) (cs := #[]) HO2.out (Nat.lt_succ_self (w.heap.size + 1))); have y31 := (show _ = some (Value.slice A3 n3 c3') from Y3.cell 1); have yf31 := Y3.frozen 1; have HY3 := Lib.hid Y3; have HO3 := Lib.hid hown3; have HW3 := Lib.hid hW3; have H53 := Lib.hid h53; clear hg3 hW3 h53 Y3 hown3))
      all_goals go_wp2
      all_goals
        exact ⟨⟨k + 1, _, ds ++ [[.slice A5 n5 c5, .int .i64 r.verdict, .bool nb]], by omega, by go_num, Lib.hid (HY3.out.set_ 1 _), Lib.hid (ownsRow_setCell_other (a := ⟨w.heap.size + 1, 1, none⟩) HO3.out (fun e => by have := (HO3.out.lt _ e).1; simp only at this; omega) _), Lib.hid (by rw [HTK.out]; exact (HW3.out.snoc HN5.out H53.out).far (by omega) _), (hb.trans ((hbr.mono (by omega)).trans hb3)).setCell (p := ⟨w.heap.size + 1, 1, none⟩) (Nat.le_refl _) _⟩, by simp [intOf]; omega⟩
    · obtain rfl : k = n := by omega
      have HE := Lib.hid (show rs.take k = rs from List.take_of_length_le (by rw [HL.out]; omega))
      have hW := HW.out
      rw [HE.out] at hW
      have hck : CkN (w.heap.size + 1) wr v rs := hW.ckN (by rw [HL.out]; exact HO.out)
      obtain ⟨A6, n6, c6, rfl, -⟩ := hck.form
      have h9 : Calls Tryz.prog 116 #[.pointer (some ⟨w.heap.size + 1, 0, none⟩), .agg #[.int .i64 0, .int .i64 0, .int .i64 0], .pointer none] wr _ := iPlace_any (w.heap.size + 1) (.slice VA vn vc) (.slice A6 n6 c6) els rs g HG.out.1 (fun r hr => rlW_of (HRU.out r hr)) HRL.out 6000 0 0 0 0 [] (.pointer none) wr (by omega) (by omega) HG.out.1.1 HB.out ((SlN.of_sl (cg := w.heap.size + 1) HV.out (by omega)).grown (grown_of_below hbw _)) hck rfl KnW.nil Once.nil
      have H9 := Lib.hid h9; have HBW := Lib.hid hbw
      clear h9 hck hW hbw HB HO HW hzx
      go_wp2_with fail
      refine H9.out.mono ?_; rintro e w3 ⟨rfl, s', b', hrun, hb3, hg3⟩
      have HB3 := Lib.hid hb3; have HRUN := Lib.hid hrun
      have HBB := Lib.hid (HBW.out.trans (below_of_grown hg3 (show w.heap.size ≤ w.heap.size + 1 by omega) hz0))
      clear hb3 hrun hg3
      go_wp2
      go_ret
      exact ⟨_, s', b', _, _, rfl, HRUN.out, HB3.out, HBB.out⟩
end Go.Proofs.YtnlhnnidbppciaaGreatDoor
