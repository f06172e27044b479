/- spec's programs: CodeRead. -/
import Derived.Test.YtdjgicapbpoigaaGreatDoorCodeSA
namespace Go.Proofs.YtdjgicapbpoigaaGreatDoor
open Go.RowKit
set_option linter.unusedSimpArgs false
set_option linter.unusedVariables false

theorem codeOk.words {g : List In4} (h : codeOk g) : ∀ x ∈ g, insWord x := h.1.words
theorem cutGo_piece (b : UInt8) : ∀ (l cur : List UInt8) (p : List UInt8), p ∈ cutGo b cur l → p.length ≤ cur.length + l.length
 | [], cur, p, h => by simp [cutGo] at h; subst h; simp
 | x :: l, cur, p, h => by
   by_cases hx : x = b
   · subst hx
     rw [cutGo_hit] at h
     rcases List.mem_cons.1 h with rfl | h
     · simp
     · have := cutGo_piece x l [] p h; simp at this ⊢; omega
   · rw [cutGo_miss hx] at h
     have := cutGo_piece b l (cur ++ [x]) p h; simp at this ⊢; omega
theorem piece_len (b : UInt8) (l p : List UInt8) (h : p ∈ cut b l) : p.length ≤ l.length := by have := cutGo_piece b l [] p h; simpa using this

set_option maxHeartbeats 4000000 in
theorem sCodeRead_any (s : ByteArray) (w : World) (hsz : s.size ≤ 1048576) :
   Calls Tryz.prog 13 #[.string s] w (CodePost s.data.toList 63 w) := by
 have hcl := cut_len 10 s.data.toList
 have hcn := cut_ne 10 s.data.toList
 have hlen : s.data.toList.length = s.size := by simp
 rw [hlen] at hcl
 obtain ⟨ws, hws⟩ : ∃ ws, ws = cut 10 s.data.toList := ⟨_, rfl⟩
 have hCut : ∀ W : World, Calls Tryz.prog 24 #[.string s, .int .u8 10] W fun e w' => ∃ v, e = .returned v ∧ w'.ownsRow W.heap.size 9 1 v (cut 10 s.data.toList).length (strs (cut 10 s.data.toList)).flatten ∧ Below W.heap.size W w' := fun W => l2Cut_any s 10 W (by omega)
 rw [← hws] at hCut hcl hcn
 have hpos : 0 < ws.length := List.length_pos_iff.2 hcn
 have HC := Lib.hid hCut; have HWS := Lib.hid hws; have HLE := Lib.hid hlen; clear hCut hws hcn hlen
 by_cases hbig : s.size ≤ 2600
 · go_enter Tryz.func13, Tryz.ntmps13
   go_wp2_with fail
   refine (HC.out _).mono ?_
   rintro e w1 ⟨v1, rfl, hown1, hb1⟩
   obtain ⟨A1, n1, c1, rfl, hA1⟩ := SlA.of_own hown1 (strs_len ws) (strs_rows ws)
   obtain rfl : n1 = ws.length := by have := hA1.len; rw [strs_len] at this; exact this.symm
   have hc1 := hA1.cap
   have hm1 := hA1.max
   unfold maxLen at hm1
   have hb01 : Below w.heap.size w w1 := hb1
   have hcode := fun g hok (ht : s.data.toList = codeText g) => (show codeOf ws = g by rw [HWS.out, ht]; exact codeOf_text (codeOk.words hok))
   have HCD := Lib.hid hcode; clear hcode
   go_wp2
   go_loopw [5, 6] (fun v i wr => ∃ k : Nat, k ≤ ws.length - 1 ∧ i = .int .i64 k ∧ wr.ownsRow w1.heap.size 63 4 v k (insR ((ws.take k).map lineOf)).flatten ∧ Below w1.heap.size w1 wr) (fun _ i _ => ws.length - (intOf i).toNat)
   case atStart => exact ⟨0, by omega, rfl, ⟨by simp [insR], .inr ⟨_, 0, #[], rfl, Nat.le_refl _, Blk.new w1 _ _, by omega, by simp, rfl, by simp [insR]⟩⟩, by go_grown⟩
   case round =>
     obtain ⟨k, hk, rfl, hown, hb⟩ := hrel
     have hrowsz := fun r hr => insR_rows ((ws.take k).map lineOf) r hr
     have hrl : (insR ((ws.take k).map lineOf)).length = k := by simp [insR]; omega
     obtain ⟨A5, n5, c5, rfl, -⟩ := SlA.of_own hown hrl hrowsz
     by_cases hlt : k < ws.length - 1
     · obtain ⟨b1, o1, l, rfl, hbl1, hl, hcell⟩ := strs_get hA1 (k := k) (by omega)
       have c0 := hcell wr _ hb hbl1
       have hlt2 : (k : Int) < (ws.length : Int) - 1 := by omega
       have hlt3 : k < ws.length := by omega
       have HST := Lib.hid (codeOf_step hl)
       have hls : l.length ≤ 2600 := by
         have := piece_len 10 s.data.toList l (by rw [← HWS.out]; exact List.mem_of_getElem? hl)
         rw [HLE.out] at this; omega
       clear hl hcell hrowsz
       have hsz := hb.size
       go_wp2_with (first
         | (go_at_call 27; refine (l3Line_any ⟨l.toArray⟩ _ (by simp [ByteArray.size]; omega)).mono ?_; rintro e w3 ⟨rfl, hb3⟩)
         | (at_builtin; go_must (refine wpList_app1 (w0 := w3) rfl (.tmp 21) (.tmp 27) _ rfl w1.heap.size 63 Tryz.underlying38 info_Ins rfl (by omega) (by omega) _ k (insR ((ws.take k).map lineOf)) rfl (own_below hown hb3) rfl (by simp [Value.oneCell']) rfl (by omega) (by have := hb3.size; omega) ?_); intro v2 w2 hown2 hb2 _; obtain ⟨g2, cap2, rfl, hg2, hg3⟩ := hown2.form (by omega)))
       refine ⟨⟨k + 1, by omega, by go_num, by rw [HST.out]; simpa [In4.cells] using hown2, (below_step hb hsz hb3).trans hb2⟩, by simp [intOf]; omega⟩
     · obtain rfl : k = ws.length - 1 := by omega
       obtain ⟨g, hg⟩ : ∃ g, g = codeOf ws := ⟨_, rfl⟩
       have hgl : g.length = ws.length - 1 := by rw [hg]; simp [codeOf]
       have ho : wr.ownsRow w1.heap.size 63 4 (.slice A5 n5 c5) g.length (insR g).flatten := by rw [hgl, hg]; exact hown
       have hs := SlA.of_own ho (insR_len g) (insR_rows g)
       have hbw := hb01.trans (hb.mono (by have := hb01.size; omega))
       have hlt4 : ¬ ((ws.length - 1 : Nat) : Int) < (ws.length : Int) - 1 := by omega
       have HG := Lib.hid hg; have HO := Lib.hid ho; clear hown hg ho hrl hrowsz
       by_cases hok : codeOk g
       · have hob := codeOkB_iff.2 hok
         have HK := Lib.hid hok; clear hok
         by_cases heq : codeText g = s.data.toList
         · have e3 : (codeText g == s.toList) = true := by rw [ByteArray.toList_eq, heq]; simp
           have HE := Lib.hid heq; clear heq
           go_wp2_with (first
             | (go_at_call 28; refine (sCodeOk_any _ g _ hs).mono ?_; rintro e w3 ⟨rfl, hb3⟩; rw [hob])
             | (go_at_call 29; refine (l3Write_any _ g _ (hs.below hb3) HK.out.words (by have := HK.out.1.2.1; omega)).mono ?_; rintro e w4 ⟨rfl, hb4⟩))
           all_goals
             go_ret2
             exact .inl ⟨g, _, HK.out, HE.out.symm, rfl, own_base (own_below HO.out (below_then hb3 hb4)) hb01.size, below_then hbw (below_then hb3 hb4)⟩
         · have e3 : (codeText g == s.toList) = false := by rw [ByteArray.toList_eq]; simpa using heq
           have hno : ¬ ∃ h, codeOk h ∧ s.data.toList = codeText h := fun ⟨h, h1, h2⟩ => heq (by rw [HG.out, HCD.out h h1 h2]; exact h2.symm)
           have HN := Lib.hid hno; clear hno heq
           go_wp2_with (first
             | (go_at_call 28; refine (sCodeOk_any _ g _ hs).mono ?_; rintro e w3 ⟨rfl, hb3⟩; rw [hob])
             | (go_at_call 29; refine (l3Write_any _ g _ (hs.below hb3) HK.out.words (by have := HK.out.1.2.1; omega)).mono ?_; rintro e w4 ⟨rfl, hb4⟩))
           all_goals
             have hbe := below_then hbw (below_then hb3 hb4)
             go_ret2
             exact .inr ⟨HN.out, _, rfl, ⟨by simp, .inr ⟨_, 0, #[], rfl, hbe.size, Blk.new w4 _ _, by omega, by simp, rfl, by simp⟩⟩, hbe.alloc hbe.size _⟩
       · have hob := codeOkB_no hok
         have hno : ¬ ∃ h, codeOk h ∧ s.data.toList = codeText h := fun ⟨h, h1, h2⟩ => hok (by rw [HG.out, HCD.out h h1 h2]; exact h1)
         have HN := Lib.hid hno; clear hno hok
         go_wp2_with (go_at_call 28; refine (sCodeOk_any _ g _ hs).mono ?_; rintro e w3 ⟨rfl, hb3⟩; rw [hob])
         all_goals
           have hbe := below_then hbw hb3
           go_ret2
           exact .inr ⟨HN.out, _, rfl, ⟨by simp, .inr ⟨_, 0, #[], rfl, hbe.size, Blk.new w3 _ _, by omega, by simp, rfl, by simp⟩⟩, hbe.alloc hbe.size _⟩
 · have hno : ¬ ∃ h, codeOk h ∧ s.data.toList = codeText h := fun ⟨h, h1, h2⟩ => hbig (by have := h1.2; rw [← h2, HLE.out] at this; exact this)
   have HN := Lib.hid hno; clear hno
   go_enter Tryz.func13, Tryz.ntmps13
   go_wp2_with fail
   refine (HC.out _).mono ?_
   rintro e w1 ⟨v1, rfl, hown1, hb1⟩
   have hd : (2600 : Int) < s.size := by omega
   go_wp2
   all_goals
     go_ret2
     exact .inr ⟨HN.out, _, rfl, ⟨by simp, .inr ⟨_, 0, #[], rfl, hb1.size, Blk.new w1 _ _, by omega, by simp, rfl, by simp⟩⟩, hb1.alloc hb1.size _⟩
end Go.Proofs.YtdjgicapbpoigaaGreatDoor
