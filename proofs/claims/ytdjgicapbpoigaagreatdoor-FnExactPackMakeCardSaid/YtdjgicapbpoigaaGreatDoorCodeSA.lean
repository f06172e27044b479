/- Joined texts: CodeS CodeS2. -/
import Derived.Test.YtdjgicapbpoigaaGreatDoorTxt
namespace Go.Proofs.YtdjgicapbpoigaaGreatDoor
open Go.RowKit
set_option linter.unusedSimpArgs false
set_option linter.unusedVariables false

noncomputable def insOkB (x : In4) (left : Int) : Bool := @decide (insOk x left) (Classical.propDecidable _)
theorem insOkB_iff {x : In4} {left : Int} : insOkB x left = true ↔ insOk x left := by simp [insOkB]
theorem insOkB_of {x : In4} {left : Int} {b : Bool} (e : b = true ↔ insOk x left) : b = insOkB x left := by rw [Bool.eq_iff_iff, e, insOkB_iff]

set_option maxHeartbeats 2000000 in
set_option maxRecDepth 100000 in
theorem l3InsOk_any (x : In4) (at_ n : Int) (w : World) (h0 : 0 ≤ at_) (h1 : at_ ≤ n) (h2 : n ≤ 9223372036854775807) :
   Calls Tryz.prog 55 #[.agg #[.int .i64 x.op, .int .i64 x.k, .int .i64 x.yes, .int .i64 x.no], .int .i64 at_, .int .i64 n] w fun e w' =>
     e = .returned (.bool (insOkB x (n - at_ - 2))) ∧ Below w.heap.size w w' := by
 obtain ⟨op, k, yes, no⟩ := x
 have ho : (op = 1 ∨ op = 2 ∨ op = 3 ∨ op = 4 ∨ op = 5 ∨ op = 6) ∨ ¬ (1 ≤ op ∧ op ≤ 6) := by omega
 rcases ho with (rfl | rfl | rfl | rfl | rfl | rfl) | ho
 all_goals try
   (go_enter Tryz.func55, Tryz.ntmps55
    go_wp2_with (go_at_call 14; refine (l1In_any _ _ _ _).mono ?_; rintro e w' ⟨rfl, rfl⟩)
    all_goals (go_ret; refine ⟨ret_bool (insOkB_of ?_), by go_grown⟩)
    all_goals (simp only [insOk, inB_iff, inB_not] at *)
    all_goals (simp at * <;> omega))

theorem l3Names_any (w : World) :
   Calls Tryz.prog 54 #[] w fun e w' => ∃ h, e = .returned (.slice (some ⟨h, 0, none⟩) 7 7) ∧ h < w'.heap.size ∧ (∀ j : Nat, j < 7 → w'.cell? ⟨h, j, none⟩ = some (.string ⟨(opNm j).toArray⟩)) ∧ Below w.heap.size w w' := by
 go_enter Tryz.func54, Tryz.ntmps54
 go_wp2
 go_ret
 refine ⟨_, rfl, by simp, fun j hj => ?_, by go_grown⟩
 rw [(Blk.new w _ _).cell j]
 obtain rfl | rfl | rfl | rfl | rfl | rfl | rfl : j = 0 ∨ j = 1 ∨ j = 2 ∨ j = 3 ∨ j = 4 ∨ j = 5 ∨ j = 6 := by omega
 all_goals rfl

theorem ba32 : (⟨#[32]⟩ : ByteArray) = ⟨([32] : List UInt8).toArray⟩ := rfl
theorem ba10 : (⟨#[10]⟩ : ByteArray) = ⟨([10] : List UInt8).toArray⟩ := rfl
theorem take_insText {g : List In4} {k : Nat} {x : In4} (h : g[k]? = some x) : codeText (g.take (k + 1)) = codeText (g.take k) ++ insText x := by
 rw [List.take_add_one, h]; exact codeText_snoc _ _
theorem ret_str {a b : List UInt8} (h : a = b) : Value.string ⟨a.toArray⟩ = .string ⟨b.toArray⟩ := by rw [h]

set_option maxHeartbeats 4000000 in
theorem l3Write_any (v : Value) (g : List In4) (w : World) (hs : Sl w 4 v (insR g)) (hw : ∀ x ∈ g, insWord x) (hl : g.length ≤ 1048576) :
   Calls Tryz.prog 29 #[v] w fun e w' => e = .returned (.string ⟨(codeText g).toArray⟩) ∧ Below w.heap.size w w' := by
 obtain ⟨A, n, c, rfl, hA⟩ := hs
 have hn : g.length = n := by have := hA.len; rwa [insR_len] at this
 have hc := hA.cap
 have hm := hA.max
 unfold maxLen at hm
 have HL := Lib.hid hn; have HW := Lib.hid hw; rw [hn] at hl; clear hn hw
 go_enter Tryz.func29, Tryz.ntmps29
 go_wp2
 go_loopw [3, 4] (fun o i wr => ∃ k : Nat, k ≤ n ∧ i = .int .i64 k ∧ o = .string ⟨(codeText (g.take k)).toArray⟩ ∧ Below w.heap.size w wr) (fun _ i _ => n - (intOf i).toNat)
 case atStart => exact ⟨0, by omega, rfl, by simp [codeText], Below.refl _ _⟩
 case round =>
   obtain ⟨k, hk, rfl, rfl, hb⟩ := hrel
   by_cases hlt : k < n
   · obtain ⟨b, off, x, rfl, hab, hgp, hcell⟩ := ins_get hA hlt
     obtain ⟨c0, c1, c2, c3⟩ := hcell wr _ hb hab
     have hx := HW.out x (List.mem_of_getElem? hgp)
     have hop := hx.op
     have HT := Lib.hid (take_insText hgp)
     have hlen := codeText_len (g.take k) (fun y hy => HW.out y (List.mem_of_mem_take hy))
     have hlen2 : (codeText (g.take k)).length ≤ 41943040 := by rw [List.length_take] at hlen; omega
     have hlen3 := itoa_le10 hx.1
     have hlen4 := opNm_len x.op
     clear hlen hcell hgp
     obtain ⟨op, kk, yes, no⟩ := x
     simp only at c0 c1 c2 c3 hop hlen3 hlen4
     obtain ⟨j, rfl⟩ : ∃ j : Nat, op = (j : Int) := ⟨op.toNat, by omega⟩
     have hj7 : j < 7 := by omega
     have hj7i : (j : Int) < 7 := by omega
     have d1 : ¬ 9223372036854775807 < (codeText (g.take k)).length + (opNm (j : Int)).length := by omega
     have d2 : ¬ 9223372036854775807 < (codeText (g.take k)).length + (opNm (j : Int)).length + 1 := by omega
     have d3 : ¬ 9223372036854775807 < (codeText (g.take k)).length + (opNm (j : Int)).length + 1 + (Lib.itoa kk).length := by omega
     have hK := hx.1
     simp only at hK
     have HX := Lib.hid hx; clear hx
     go_wp2
     apply region_mid (R := fun hh w' => (w'.cell? ⟨wr.heap.size, 0, none⟩ = some (.int .i64 (j : Int)) ∧ w'.cell? ⟨wr.heap.size, 1, none⟩ = some (.int .i64 kk) ∧ w'.cell? ⟨wr.heap.size, 2, none⟩ = some (.int .i64 yes) ∧ w'.cell? ⟨wr.heap.size, 3, none⟩ = some (.int .i64 no)) ∧ Below wr.heap.size wr w')
     case hr =>
       go_region_law (first
         | (go_simp; go_at_call 54; refine (l3Names_any _).mono ?_; rintro e wn ⟨hh, rfl, hhl, hcj, hbn⟩; have cj := hcj j (by omega); have q0 := (hbn.cell (p := ⟨wr.heap.size, 0, none⟩) (by simp)).trans (show _ = some (.int .i64 (j : Int)) by simp [go_sem]); have q1 := (hbn.cell (p := ⟨wr.heap.size, 1, none⟩) (by simp)).trans (show _ = some (.int .i64 kk) by simp [go_sem]); have q2 := (hbn.cell (p := ⟨wr.heap.size, 2, none⟩) (by simp)).trans (show _ = some (.int .i64 yes) by simp [go_sem]); have q3 := (hbn.cell (p := ⟨wr.heap.size, 3, none⟩) (by simp)).trans (show _ = some (.int .i64 no) by simp [go_sem]); have hwn : wr.heap.size < wn.heap.size := Nat.lt_of_lt_of_le (by simp) hbn.size)
         | (go_simp; go_at_call 56; refine (l1Dec_any _ _ (by omega) (by omega)).mono ?_; rintro e wd ⟨rfl, hbd⟩; replace cj := (hbd.cell (p := ⟨hh, j, none⟩) hhl).trans cj; have r0 := (hbd.cell (p := ⟨wr.heap.size, 0, none⟩) hwn).trans q0; have r1 := (hbd.cell (p := ⟨wr.heap.size, 1, none⟩) hwn).trans q1; have r2 := (hbd.cell (p := ⟨wr.heap.size, 2, none⟩) hwn).trans q2; have r3 := (hbd.cell (p := ⟨wr.heap.size, 3, none⟩) hwn).trans q3))
       all_goals
         simp [Act.put]
         exact ⟨hh, rfl, ⟨r0, r1, r2, r3⟩, below_then (below_then (by go_grown) hbn) hbd⟩
     case hq =>
       rintro hh wd ⟨⟨r0, r1, r2, r3⟩, hbw⟩
       by_cases h34 : j = 3 ∨ j = 4
       · have hx2 : (0 ≤ yes ∧ yes ≤ 6) ∧ 0 ≤ no ∧ no ≤ 6 := by have := HX.out; unfold insWord at this; simp only at this; omega
         have hlen5 := itoa_le10 (n := yes) (by omega)
         have hlen6 := itoa_le10 (n := no) (by omega)
         have d4 : ¬ 9223372036854775807 < (codeText (g.take k)).length + (opNm (j : Int)).length + 1 + (Lib.itoa kk).length + 1 := by omega
         have d5 : ¬ 9223372036854775807 < (codeText (g.take k)).length + (opNm (j : Int)).length + 1 + (Lib.itoa kk).length + 1 + (Lib.itoa yes).length := by omega
         have d6 : ¬ 9223372036854775807 < (codeText (g.take k)).length + (opNm (j : Int)).length + 1 + (Lib.itoa kk).length + 1 + (Lib.itoa yes).length + 1 := by omega
         have d7 : ¬ 9223372036854775807 < (codeText (g.take k)).length + (opNm (j : Int)).length + 1 + (Lib.itoa kk).length + 1 + (Lib.itoa yes).length + 1 + (Lib.itoa no).length := by omega
         have h34i : (j : Int) = 3 ∨ (j : Int) = 4 := by omega
         have HJ := Lib.hid h34i; clear h34i
         have hd3 : (((j : Int) == 3) = true ∧ ((j : Int) == 4) = false) ∨ (((j : Int) == 3) = false ∧ ((j : Int) == 4) = true) := by simp; omega
         obtain ⟨e3, e4⟩ | ⟨e3, e4⟩ := hd3
         all_goals go_wp2
         all_goals
           refine wp_region_quiet_below (by kernel_rfl) (by kernel_rfl) ?_
           have s2 := cell_regrown r2; have s3 := cell_regrown r3
           repeat (quiet_step (exact Calls.regrown_of (l1Dec_any _ _ (by omega) (by omega))))
           refine wpQuiet_nil ?_
           intro _ hw'
           obtain ⟨⟨dq, osq⟩, hw''⟩ := hw'
           subst hw''
           go_wp2
           refine ⟨⟨k + 1, by omega, by go_num, ?_, below_then hb (below_then hbw (below_regrown _ _ _))⟩, by simp [intOf]; omega⟩
           rw [HT.out]
           simp only [ba32, ba10, ba_append]
           apply ret_str
           simp [insText, insLine, tailW, HJ.out]
       · have e3 : ((j : Int) == 3) = false := by simp; omega
         have e4 : ((j : Int) == 4) = false := by simp; omega
         have h34i : ¬ ((j : Int) = 3 ∨ (j : Int) = 4) := by omega
         have HJ := Lib.hid h34i; clear h34i h34
         go_wp2
         refine ⟨⟨k + 1, by omega, by go_num, ?_, below_then hb hbw⟩, by simp [intOf]; omega⟩
         rw [HT.out]
         simp only [ba32, ba10, ba_append]
         apply ret_str
         simp [insText, insLine, tailW, HJ.out]
   · go_wp2
     go_ret
     refine ⟨?_, hb⟩
     have e := List.take_of_length_le (l := g) (i := k) (by rw [HL.out]; omega)
     rw [e]
     rfl
end Go.Proofs.YtdjgicapbpoigaaGreatDoor

namespace Go.Proofs.YtdjgicapbpoigaaGreatDoor
open Go.RowKit
set_option linter.unusedSimpArgs false
set_option linter.unusedVariables false

theorem not_ways {g : List In4} {k : Nat} {x : In4} (hx : g[k]? = some x) (h : ¬ insOk x ((g.length : Int) - k - 2)) : ¬ codeOk g := fun ho =>
 h (ho.1.2.2 k x (List.getElem?_eq_some_iff.1 hx).1 hx)

set_option maxHeartbeats 1000000 in
theorem sCodeOk_any (v : Value) (g : List In4) (w : World) (hs : Sl w 4 v (insR g)) :
   Calls Tryz.prog 28 #[v] w fun e w' => e = .returned (.bool (codeOkB g)) ∧ Below w.heap.size w w' := by
 have hs0 := hs
 obtain ⟨A, n, c, rfl, hA⟩ := hs
 have hn : g.length = n := by have := hA.len; rwa [insR_len] at this
 have hc := hA.cap
 have hm := hA.max
 unfold maxLen at hm
 have HL := Lib.hid hn; clear hn
 go_enter Tryz.func28, Tryz.ntmps28
 go_wp2
 go_loopw [3] (fun i wr => ∃ k : Nat, k ≤ n ∧ i = .int .i64 k ∧ waysTo g k ∧ Below w.heap.size w wr) (fun i _ => n - (intOf i).toNat)
 case atStart => exact ⟨0, by omega, rfl, waysTo_zero g, Below.refl _ _⟩
 case round =>
   obtain ⟨k, hk, rfl, hto, hb⟩ := hrel
   by_cases hlt : k < n
   · obtain ⟨b, off, x, rfl, hab, hgp, hcell⟩ := ins_get hA hlt
     obtain ⟨c0, c1, c2, c3⟩ := hcell wr _ hb hab
     have HP := Lib.hid hgp; clear hcell hgp
     by_cases hok : insOk x ((n : Int) - k - 2)
     · have hokb : insOkB x ((n : Int) - k - 2) = true := insOkB_iff.2 hok
       have HO := Lib.hid hok; clear hok
       go_wp2_with (go_at_call 55; refine (l3InsOk_any x k n _ (by omega) (by omega) (by omega)).mono ?_; rintro e w1 ⟨rfl, hb1⟩; rw [hokb])
       exact ⟨⟨k + 1, by omega, by go_num, waysTo_succ hto HP.out (by rw [HL.out]; exact HO.out), below_then hb hb1⟩, by simp [intOf]; omega⟩
     · have hokb : insOkB x ((n : Int) - k - 2) = false := by rw [← Bool.not_eq_true, insOkB_iff]; exact hok
       have HO := Lib.hid (not_ways HP.out (by rw [HL.out]; exact hok)); clear hok
       go_wp2_with (go_at_call 55; refine (l3InsOk_any x k n _ (by omega) (by omega) (by omega)).mono ?_; rintro e w1 ⟨rfl, hb1⟩; rw [hokb])
       go_ret
       exact ⟨ret_bool (codeOkB_no HO.out).symm, below_then hb hb1⟩
   · obtain rfl : k = n := by omega
     by_cases hr : 1 ≤ k ∧ k ≤ 160
     · have hin : inB (k : Int) 1 160 = true := inB_iff.2 (by omega)
       have HW := Lib.hid (show waysOk g from ⟨by rw [HL.out]; omega, by rw [HL.out]; omega, by rw [HL.out]; exact hto⟩)
       have hlen := codeText_len g HW.out.words
       rw [HL.out] at hlen
       go_wp2_with (first
         | (go_at_call 14; refine (l1In_any _ _ _ _).mono ?_; rintro e w' ⟨rfl, rfl⟩)
         | (go_at_call 29; refine (l3Write_any _ g _ (hs0.below hb) HW.out.words (by rw [HL.out]; omega)).mono ?_; rintro e w2 ⟨rfl, hb2⟩))
       all_goals
         go_ret
         refine ⟨ret_bool (codeOkB_of ?_), below_then hb hb2⟩
         have := HW.out
         simp [codeOk, this]
         omega
     · have hin : inB (k : Int) 1 160 = false := inB_not.2 (by omega)
       go_wp2_with (go_at_call 14; refine (l1In_any _ _ _ _).mono ?_; rintro e w' ⟨rfl, rfl⟩)
       go_ret
       exact ⟨ret_bool (codeOkB_no (fun h => hr ⟨by have := h.1.1; rw [HL.out] at this; exact this, by have := h.1.2.1; rw [HL.out] at this; exact this⟩)).symm, hb⟩

theorem sCodeWrite_any (v : Value) (g : List In4) (w : World) (hs : Sl w 4 v (insR g)) :
   Calls Tryz.prog 20 #[v] w fun e w' => e = .returned (.string ⟨(codeOut g).toArray⟩) ∧ Below w.heap.size w w' := by
 have hs0 := hs
 obtain ⟨A, n, c, rfl, -⟩ := hs
 by_cases hok : codeOk g
 · have hob := codeOkB_iff.2 hok
   have HO := Lib.hid hok; clear hok
   go_enter Tryz.func20, Tryz.ntmps20
   go_wp2_with (first
     | (go_at_call 28; refine (sCodeOk_any _ g _ hs0).mono ?_; rintro e w1 ⟨rfl, hb1⟩; rw [hob])
     | (go_at_call 29; refine (l3Write_any _ g _ (hs0.below hb1) HO.out.1.words (by have := HO.out.1.2.1; omega)).mono ?_; rintro e w2 ⟨rfl, hb2⟩))
   go_ret
   exact ⟨by rw [HO.out.out]; rfl, below_then hb1 hb2⟩
 · have hob := codeOkB_no hok
   have HO := Lib.hid hok; clear hok
   go_enter Tryz.func20, Tryz.ntmps20
   go_wp2_with (go_at_call 28; refine (sCodeOk_any _ g _ hs0).mono ?_; rintro e w1 ⟨rfl, hb1⟩; rw [hob])
   go_ret
   exact ⟨by rw [codeOk.no HO.out]; rfl, hb1⟩

def opUp (nm : List UInt8) : Nat → Int
 | 0 => 0
 | 1 => 0
 | j + 2 => if opNm ((j + 1 : Nat) : Int) = nm then ((j + 1 : Nat) : Int) else opUp nm (j + 1)
theorem opUp_yes {nm : List UInt8} {j : Nat} (h1 : 1 ≤ j) (h : opNm (j : Int) = nm) : opUp nm (j + 1) = j := by
 obtain ⟨i, rfl⟩ : ∃ i, j = i + 1 := ⟨j - 1, by omega⟩
 rw [opUp, if_pos h]
theorem opUp_no {nm : List UInt8} {j : Nat} (h1 : 1 ≤ j) (h : ¬ opNm (j : Int) = nm) : opUp nm (j + 1) = opUp nm j := by
 obtain ⟨i, rfl⟩ : ∃ i, j = i + 1 := ⟨j - 1, by omega⟩
 rw [opUp, if_neg h]
theorem opUp_all (nm : List UInt8) : opUp nm 7 = opOf nm := by
 unfold opOf
 by_cases h1 : nm = [108, 111, 97, 100]
 · subst h1; rfl
 by_cases h2 : nm = [97, 110, 100]
 · subst h2; rfl
 by_cases h3 : nm = [101, 113]
 · subst h3; rfl
 by_cases h4 : nm = [103, 116]
 · subst h4; rfl
 by_cases h5 : nm = [106, 117, 109, 112]
 · subst h5; rfl
 by_cases h6 : nm = [101, 110, 100]
 · subst h6; rfl
 rw [if_neg h1, if_neg h2, if_neg h3, if_neg h4, if_neg h5, if_neg h6]
 rw [opUp_no (by omega) (fun e => h6 (by rw [← e]; rfl)), opUp_no (by omega) (fun e => h5 (by rw [← e]; rfl)), opUp_no (by omega) (fun e => h4 (by rw [← e]; rfl)), opUp_no (by omega) (fun e => h3 (by rw [← e]; rfl)), opUp_no (by omega) (fun e => h2 (by rw [← e]; rfl)), opUp_no (by omega) (fun e => h1 (by rw [← e]; rfl))]
 rfl

set_option maxHeartbeats 4000000 in
theorem l3Line_any (s : ByteArray) (w : World) (hsz : s.size ≤ 1048576) :
   Calls Tryz.prog 27 #[.string s] w fun e w' =>
     e = .returned (.agg #[.int .i64 (lineOf s.data.toList).op, .int .i64 (lineOf s.data.toList).k, .int .i64 (lineOf s.data.toList).yes, .int .i64 (lineOf s.data.toList).no]) ∧ Below w.heap.size w w' := by
 have hcl := cut_len 32 s.data.toList
 have hcn := cut_ne 32 s.data.toList
 have hlen : s.data.toList.length = s.size := by simp
 rw [hlen] at hcl
 obtain ⟨ws, hws⟩ : ∃ ws, ws = cut 32 s.data.toList := ⟨_, rfl⟩
 have hCut : ∀ W : World, Calls Tryz.prog 24 #[.string s, .int .u8 32] W fun e w' => ∃ v, e = .returned v ∧ w'.ownsRow W.heap.size 9 1 v (cut 32 s.data.toList).length (strs (cut 32 s.data.toList)).flatten ∧ Below W.heap.size W w' := fun W => l2Cut_any s 32 W (by omega)
 have hline : lineOf s.data.toList = ⟨opOf (ws.getD 0 []), if 1 < ws.length then numOf (ws.getD 1 []) else 0, if ws.length = 4 then numOf (ws.getD 2 []) else 0, if ws.length = 4 then numOf (ws.getD 3 []) else 0⟩ := by rw [hws]; rfl
 rw [← hws] at hCut hcl hcn
 have hpos : 0 < ws.length := List.length_pos_iff.2 hcn
 have HC := Lib.hid hCut; have HLN := Lib.hid hline; clear hCut hws hcn hlen hline
 go_enter Tryz.func27, Tryz.ntmps27
 go_wp2_with fail
 refine (HC.out _).mono ?_
 rintro e w1 ⟨v1, rfl, hown1, hb1⟩
 obtain ⟨A1, n1, c1, rfl, hA1⟩ := SlA.of_own hown1 (strs_len ws) (strs_rows ws)
 obtain rfl : n1 = ws.length := by have := hA1.len; rw [strs_len] at this; exact this.symm
 have hc1 := hA1.cap
 have hm1 := hA1.max
 unfold maxLen at hm1
 obtain ⟨b1, o1, l0, hA1e, hbl1, hl0, hcell0⟩ := strs_get hA1 hpos
 subst hA1e
 have hl00 : ws.getD 0 [] = l0 := by rw [List.getD_eq_getElem?_getD, hl0]; rfl
 have HL00 := Lib.hid hl00; clear hl00
 have HC0 := Lib.hid hcell0; clear hcell0 hl0
 have hsz1 : w.heap.size < w1.heap.size := by have := hb1.size; simp at this; omega
 have hb01 : Below w.heap.size w w1 := below_step (by go_grown) (by go_size) hb1
 have t2B : Blk w1 w.heap.size 63 #[.int .i64 0, .int .i64 0, .int .i64 0, .int .i64 0] := (Blk.new w _ _).below hb1 (by simp)
 have HT2 := Lib.hid t2B; clear t2B
 go_wp2
 go_loopw [5] (fun v wr => ∃ i : Nat, 1 ≤ i ∧ i ≤ 7 ∧ v = .int .i64 i ∧ Blk wr w1.heap.size 63 #[.int .i64 (opUp l0 i), .int .i64 0, .int .i64 0, .int .i64 0] ∧ Below w1.heap.size w1 wr) (fun v _ => 7 - (intOf v).toNat)
 case atStart => exact ⟨1, by omega, by omega, rfl, Blk.new _ _ _, by go_grown⟩
 case round =>
   obtain ⟨i, h1i, h7i, rfl, hbk, hb⟩ := hrel
   have hlt0 := hbk.lt
   by_cases hlt : i < 7
   · have hi7 : (i : Int) < 7 := by omega
     have k0 := HC0.out wr _ hb hbl1
     rw [Nat.add_zero] at k0
     have hbl2 : b1 < wr.heap.size := Nat.lt_trans hbl1 hlt0
     have HB := Lib.hid hbk; clear hbk
     have e3 : (opNm (i : Int) == l0) = true ∧ opUp l0 (i + 1) = i ∨ (opNm (i : Int) == l0) = false ∧ opUp l0 (i + 1) = opUp l0 i := by
       by_cases heq : opNm (i : Int) = l0
       · exact .inl ⟨by simpa using heq, opUp_yes h1i heq⟩
       · exact .inr ⟨by simpa using heq, opUp_no h1i heq⟩
     obtain ⟨e3, e4⟩ | ⟨e3, e4⟩ := e3
     all_goals
       have HE := Lib.hid e4; clear e4
       go_wp2_with (go_at_call 54; refine (l3Names_any _).mono ?_; rintro e wa ⟨h0, rfl, _, _, hba⟩)
       replace k0 := (hba.cell (p := ⟨b1, o1, none⟩) hbl2).trans k0
       have hbl3 : b1 < wa.heap.size := Nat.lt_of_lt_of_le hbl2 hba.size
       apply region_mid (R := fun hh w' => Below wr.heap.size wr w')
       case hr =>
         go_region_law (first
           | (go_simp; go_at_call 54; refine (l3Names_any _).mono ?_; rintro e wn ⟨hh, rfl, hhl, hcj, hbn⟩; have cj := hcj i (by omega); have kn := (hbn.cell (p := ⟨b1, o1, none⟩) hbl3).trans k0))
         all_goals
           simp [Act.put]
           exact ⟨hh, rfl, below_then hba (below_then (Below.refl wa.heap.size wa).drew hbn)⟩
       case hq =>
         intro hh wd hbw
         have hbk := HB.out.below hbw hlt0
         have q0 := hbk.cell 0
         have f0 := hbk.frozen 0
         simp at q0
         have HB2 := Lib.hid hbk; clear hbk
         go_wp2
         first
           | exact ⟨⟨i + 1, by omega, by omega, by go_num, by rw [HE.out]; simpa using HB2.out.set_ 0 (.int .i64 (i : Int)), (below_step hb (Nat.le_of_lt hlt0) hbw).setCell (by simp) _⟩, by simp [intOf]; omega⟩
           | exact ⟨⟨i + 1, by omega, by omega, by go_num, by rw [HE.out]; exact HB2.out, below_step hb (Nat.le_of_lt hlt0) hbw⟩, by simp [intOf]; omega⟩
   · obtain rfl : i = 7 := by omega
     rw [opUp_all] at hbk
     have p0 := hbk.cell 0; have p1 := hbk.cell 1; have p2 := hbk.cell 2; have p3 := hbk.cell 3
     have f1 := hbk.frozen 1; have f2 := hbk.frozen 2; have f3 := hbk.frozen 3
     simp at p0 p1 p2 p3
     have hT2 := HT2.out.below hb hsz1
     have t0 := hT2.cell 0; have t1 := hT2.cell 1; have t2 := hT2.cell 2; have t3 := hT2.cell 3
     have g0 := hT2.frozen 0; have g1 := hT2.frozen 1; have g2 := hT2.frozen 2; have g3 := hT2.frozen 3
     simp at t0 t1 t2 t3
     have hlt2 := hT2.lt
     have hbl2 : b1 < wr.heap.size := Nat.lt_trans hbl1 hlt0
     have hbw : Below w.heap.size w wr := hb01.trans (hb.mono (by omega))
     have hws : ∀ j l, ws[j]? = some l → wr.cell? ⟨b1, o1 + j, none⟩ = some (.string ⟨l.toArray⟩) := fun j l hl => by
       obtain ⟨b', o', l', he, hb', hl', hc'⟩ := strs_get hA1 (k := j) (List.getElem?_eq_some_iff.1 hl).1
       simp only [Option.some.injEq, Addr.mk.injEq] at he
       obtain ⟨rfl, rfl, _⟩ := he
       obtain rfl := Option.some.inj (hl.symm.trans hl')
       exact hc' wr _ hb hb'
     have hget : ∀ j, j < ws.length → ws[j]? = some (ws.getD j []) := fun j hj => by rw [List.getD_eq_getElem?_getD, List.getElem?_eq_getElem hj]; rfl
     have HWS := Lib.hid hws; have HGE := Lib.hid hget; clear hbk hT2 hws hget
     by_cases h1 : 1 < ws.length
     · have k1 := HWS.out 1 _ (HGE.out 1 h1)
       obtain ⟨x1, hx1⟩ : ∃ x1, ws.getD 1 [] = x1 := ⟨_, rfl⟩
       rw [hx1] at k1
       have HX1 := Lib.hid hx1; clear hx1
       by_cases h4 : ws.length = 4
       · have k2 := HWS.out 2 _ (HGE.out 2 (by omega))
         have k3 := HWS.out 3 _ (HGE.out 3 (by omega))
         obtain ⟨x2, hx2⟩ : ∃ x2, ws.getD 2 [] = x2 := ⟨_, rfl⟩
         obtain ⟨x3, hx3⟩ : ∃ x3, ws.getD 3 [] = x3 := ⟨_, rfl⟩
         rw [hx2] at k2
         rw [hx3] at k3
         have HX2 := Lib.hid hx2; have HX3 := Lib.hid hx3; clear hx2 hx3
         have hd4 : ((ws.length : Int) == 4) = true := by simp; omega
         have hq2 : (2 : Int) < ws.length := by omega
         have hq3 : (3 : Int) < ws.length := by omega
         go_wp2_with (first
           | (go_at_call 54; refine (l3Names_any _).mono ?_; rintro e wa ⟨h0, rfl, _, _, hba⟩; have hbw2 := below_then hbw hba; replace p0 := (hba.cell (p := ⟨w1.heap.size, 0, none⟩) hlt0).trans p0; replace p1 := (hba.cell (p := ⟨w1.heap.size, 1, none⟩) hlt0).trans p1; replace p2 := (hba.cell (p := ⟨w1.heap.size, 2, none⟩) hlt0).trans p2; replace p3 := (hba.cell (p := ⟨w1.heap.size, 3, none⟩) hlt0).trans p3; replace f1 := (hba.frozen (p := ⟨w1.heap.size, 1, none⟩) hlt0).trans f1; replace f2 := (hba.frozen (p := ⟨w1.heap.size, 2, none⟩) hlt0).trans f2; replace f3 := (hba.frozen (p := ⟨w1.heap.size, 3, none⟩) hlt0).trans f3; replace t0 := (hba.cell (p := ⟨w.heap.size, 0, none⟩) hlt2).trans t0; replace t1 := (hba.cell (p := ⟨w.heap.size, 1, none⟩) hlt2).trans t1; replace t2 := (hba.cell (p := ⟨w.heap.size, 2, none⟩) hlt2).trans t2; replace t3 := (hba.cell (p := ⟨w.heap.size, 3, none⟩) hlt2).trans t3; replace g0 := (hba.frozen (p := ⟨w.heap.size, 0, none⟩) hlt2).trans g0; replace g1 := (hba.frozen (p := ⟨w.heap.size, 1, none⟩) hlt2).trans g1; replace g2 := (hba.frozen (p := ⟨w.heap.size, 2, none⟩) hlt2).trans g2; replace g3 := (hba.frozen (p := ⟨w.heap.size, 3, none⟩) hlt2).trans g3; try replace k1 := (hba.cell (p := ⟨b1, o1 + 1, none⟩) hbl2).trans k1; try replace k2 := (hba.cell (p := ⟨b1, o1 + 2, none⟩) hbl2).trans k2; try replace k3 := (hba.cell (p := ⟨b1, o1 + 3, none⟩) hbl2).trans k3; have hw7 : w.heap.size < wa.heap.size := Nat.lt_of_lt_of_le hlt2 hba.size)
           | (go_at_call 50; refine (l2Num_any _ _).mono ?_; rintro e w' ⟨rfl, rfl⟩))
         refine bodyPost_ret (v := .agg #[.int .i64 (opOf l0), .int .i64 (numOf x1), .int .i64 (numOf x2), .int .i64 (numOf x3)]) (by simp [results, Tryz.results27, go_sem, t0, t1, t2, t3]) rfl ⟨by simp only [HLN.out, HL00.out, HX1.out, HX2.out, HX3.out, if_pos h1, if_pos h4], by go_grown⟩
       · have hd4 : ((ws.length : Int) == 4) = false := by simp; omega
         go_wp2_with (first
           | (go_at_call 54; refine (l3Names_any _).mono ?_; rintro e wa ⟨h0, rfl, _, _, hba⟩; have hbw2 := below_then hbw hba; replace p0 := (hba.cell (p := ⟨w1.heap.size, 0, none⟩) hlt0).trans p0; replace p1 := (hba.cell (p := ⟨w1.heap.size, 1, none⟩) hlt0).trans p1; replace p2 := (hba.cell (p := ⟨w1.heap.size, 2, none⟩) hlt0).trans p2; replace p3 := (hba.cell (p := ⟨w1.heap.size, 3, none⟩) hlt0).trans p3; replace f1 := (hba.frozen (p := ⟨w1.heap.size, 1, none⟩) hlt0).trans f1; replace f2 := (hba.frozen (p := ⟨w1.heap.size, 2, none⟩) hlt0).trans f2; replace f3 := (hba.frozen (p := ⟨w1.heap.size, 3, none⟩) hlt0).trans f3; replace t0 := (hba.cell (p := ⟨w.heap.size, 0, none⟩) hlt2).trans t0; replace t1 := (hba.cell (p := ⟨w.heap.size, 1, none⟩) hlt2).trans t1; replace t2 := (hba.cell (p := ⟨w.heap.size, 2, none⟩) hlt2).trans t2; replace t3 := (hba.cell (p := ⟨w.heap.size, 3, none⟩) hlt2).trans t3; replace g0 := (hba.frozen (p := ⟨w.heap.size, 0, none⟩) hlt2).trans g0; replace g1 := (hba.frozen (p := ⟨w.heap.size, 1, none⟩) hlt2).trans g1; replace g2 := (hba.frozen (p := ⟨w.heap.size, 2, none⟩) hlt2).trans g2; replace g3 := (hba.frozen (p := ⟨w.heap.size, 3, none⟩) hlt2).trans g3; try replace k1 := (hba.cell (p := ⟨b1, o1 + 1, none⟩) hbl2).trans k1; try replace k2 := (hba.cell (p := ⟨b1, o1 + 2, none⟩) hbl2).trans k2; try replace k3 := (hba.cell (p := ⟨b1, o1 + 3, none⟩) hbl2).trans k3; have hw7 : w.heap.size < wa.heap.size := Nat.lt_of_lt_of_le hlt2 hba.size)
           | (go_at_call 50; refine (l2Num_any _ _).mono ?_; rintro e w' ⟨rfl, rfl⟩))
         refine bodyPost_ret (v := .agg #[.int .i64 (opOf l0), .int .i64 (numOf x1), .int .i64 0, .int .i64 0]) (by simp [results, Tryz.results27, go_sem, t0, t1, t2, t3]) rfl ⟨by simp only [HLN.out, HL00.out, HX1.out, if_pos h1, if_neg h4], by go_grown⟩
     · have h4 : ¬ ws.length = 4 := by omega
       have hd4 : ((ws.length : Int) == 4) = false := by simp; omega
       go_wp2_with (go_at_call 54; refine (l3Names_any _).mono ?_; rintro e wa ⟨h0, rfl, _, _, hba⟩; have hbw2 := below_then hbw hba; replace p0 := (hba.cell (p := ⟨w1.heap.size, 0, none⟩) hlt0).trans p0; replace p1 := (hba.cell (p := ⟨w1.heap.size, 1, none⟩) hlt0).trans p1; replace p2 := (hba.cell (p := ⟨w1.heap.size, 2, none⟩) hlt0).trans p2; replace p3 := (hba.cell (p := ⟨w1.heap.size, 3, none⟩) hlt0).trans p3; replace t0 := (hba.cell (p := ⟨w.heap.size, 0, none⟩) hlt2).trans t0; replace t1 := (hba.cell (p := ⟨w.heap.size, 1, none⟩) hlt2).trans t1; replace t2 := (hba.cell (p := ⟨w.heap.size, 2, none⟩) hlt2).trans t2; replace t3 := (hba.cell (p := ⟨w.heap.size, 3, none⟩) hlt2).trans t3; replace g0 := (hba.frozen (p := ⟨w.heap.size, 0, none⟩) hlt2).trans g0; replace g1 := (hba.frozen (p := ⟨w.heap.size, 1, none⟩) hlt2).trans g1; replace g2 := (hba.frozen (p := ⟨w.heap.size, 2, none⟩) hlt2).trans g2; replace g3 := (hba.frozen (p := ⟨w.heap.size, 3, none⟩) hlt2).trans g3   )
       refine bodyPost_ret (v := .agg #[.int .i64 (opOf l0), .int .i64 0, .int .i64 0, .int .i64 0]) (by simp [results, Tryz.results27, go_sem, t0, t1, t2, t3]) rfl ⟨by simp only [HLN.out, HL00.out, if_neg h1, if_neg h4], by go_grown⟩
end Go.Proofs.YtdjgicapbpoigaaGreatDoor
