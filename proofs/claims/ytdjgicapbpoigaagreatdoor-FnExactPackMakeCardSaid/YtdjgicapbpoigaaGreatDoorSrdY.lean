/- spec's reader of policies on any text: a policy's text is read, and no other. -/
import Derived.Test.YtdjgicapbpoigaaGreatDoorSrdX
namespace Go.Proofs.YtdjgicapbpoigaaGreatDoor
open Go.RowKit
set_option linter.unusedSimpArgs false
set_option linter.unusedVariables false

def isPol (l : List UInt8) : Prop := ∃ p : Pol, polOkB p = true ∧ polText p = l
def rLine (r : Rl) : List UInt8 := headText r ++ testsText r.tests
theorem word_no10 {t : Ts} (h : testOkB t = true) : ∀ x ∈ testText t, x ≠ 10 := fun x hx => by
 obtain ⟨⟨f1, f2⟩, ⟨m1, m2⟩, ⟨v1, v2⟩, ⟨o1, o2⟩⟩ := testOkB_words h
 rw [testText_word] at hx
 unfold testWord at hx
 rcases List.mem_cons.1 hx with rfl | hx
 · decide
 rcases List.mem_cons.1 hx with rfl | hx
 · decide
 rcases List.mem_append.1 hx with hx | hx
 · exact field_not h (by decide) (by decide) x hx
 rcases List.mem_append.1 hx with hx | hx
 · obtain h | h | h : t.op = 1 ∨ t.op = 2 ∨ t.op = 3 := by omega
   all_goals
     rw [h] at hx
     simp [signNm] at hx
     rw [hx]
     decide
 · exact itoa_not v1 (by decide) x hx
theorem verd_no10 (v : Int) : ∀ x ∈ verdNm v, x ≠ 10 := by
 unfold verdNm
 split
 · decide
 split
 · decide
 split
 · decide
 split
 · decide
 · simp
theorem line_no10 {r : Rl} (h : ruleOkB r = true) : ∀ x ∈ rLine r, x ≠ 10 := fun x hx => by
 obtain ⟨⟨v1, v2⟩, ⟨l1, l2⟩, hh, n4, hts⟩ := ruleOkB_words h
 unfold rLine headText highText at hx
 rcases List.mem_append.1 hx with hx | hx
 · rcases List.mem_append.1 hx with hx | hx
   · rcases List.mem_append.1 hx with hx | hx
     · rcases List.mem_append.1 hx with hx | hx
       · exact verd_no10 _ x hx
       · rw [List.mem_singleton.1 hx]; decide
     · exact itoa_not (by omega) (by decide) x hx
   · split at hx
     · simp at hx
     · rcases List.mem_cons.1 hx with rfl | hx
       · decide
       · exact itoa_not (by omega) (by decide) x hx
 · unfold testsText at hx
   obtain ⟨l, hl, hm⟩ := List.mem_flatten.1 hx
   obtain ⟨t, ht, rfl⟩ := List.mem_map.1 hl
   exact word_no10 (hts t ht) x hm
theorem pol_cut (els : Int) : ∀ (rs : List Rl), (∀ r ∈ rs, ruleOkB r = true) → cut 10 (polText ⟨rs, els⟩) = rs.map rLine ++ [[101, 108, 115, 101, 32] ++ verdNm els, []]
 | [], _ => by
   have e : polText ⟨[], els⟩ = ([101, 108, 115, 101, 32] ++ verdNm els) ++ 10 :: [] := by simp [polText, rulesText]
   rw [e, cut_word ?_]
   · rfl
   · intro x hx
     rcases List.mem_append.1 hx with hx | hx
     · have h0 : ∀ y ∈ ([101, 108, 115, 101, 32] : List UInt8), y ≠ 10 := by decide
       exact h0 x hx
     · exact verd_no10 _ x hx
 | r :: rs, h => by
   have e : polText ⟨r :: rs, els⟩ = rLine r ++ 10 :: polText ⟨rs, els⟩ := by simp [polText, rulesText, ruleText, rLine]
   rw [e, cut_word (line_no10 (h r (by simp))), pol_cut els rs fun x hx => h x (by simp [hx])]
   rfl
structure PolCut (l : List UInt8) (ws : List (List UInt8)) (n : Nat) (p : Pol) : Prop where
 num : n = p.rules.length + 1
 lines : ∀ (k : Nat) (r : Rl), p.rules[k]? = some r → ws[k]? = some (rLine r)
 last : ws[p.rules.length]? = some ([101, 108, 115, 101, 32] ++ verdNm p.els)
 past : ws[p.rules.length + 1]? = some []
 eight : p.rules.length ≤ 8
 els : 1 ≤ p.els ∧ p.els ≤ 4
 rules : ∀ r ∈ p.rules, ruleOkB r = true
theorem isPol_cut {l : List UInt8} {ws : List (List UInt8)} {n : Nat} (hws : ws = cut 10 l) (hn : ws.length = n + 1) {p : Pol} (hp : polOkB p = true) (ht : polText p = l) : PolCut l ws n p := by
 obtain ⟨h8, he, hr⟩ := polShapeB_words (polOkB_shape hp).1
 have hc := pol_cut p.els p.rules hr
 rw [show (⟨p.rules, p.els⟩ : Pol) = p from rfl, ht, ← hws] at hc
 have hl : (p.rules.map rLine).length = p.rules.length := List.length_map ..
 refine ⟨?_, ?_, ?_, ?_, h8, he, hr⟩
 · rw [hc] at hn; simp at hn; omega
 · intro k r hk
   have hkl := (List.getElem?_eq_some_iff.1 hk).1
   rw [hc, List.getElem?_append_left (by omega), List.getElem?_map, hk]
   rfl
 · rw [hc, List.getElem?_append_right (by omega), hl, Nat.sub_self]
   rfl
 · rw [hc, List.getElem?_append_right (by omega), hl, Nat.add_sub_cancel_left]
   rfl
theorem no_long {l : List UInt8} (h : 900 < l.length) : ¬ isPol l := by
 rintro ⟨p, hp, rfl⟩
 have := (polOkB_shape hp).2
 omega
theorem no_rule {l : List UInt8} {ws : List (List UInt8)} {n : Nat} (hws : ws = cut 10 l) (hn : ws.length = n + 1) {k : Nat} {lk : List UInt8} (hk : k + 1 < n) (hlk : ws[k]? = some lk) (hno : ¬ ∃ r' : Rl, ruleOkB r' = true ∧ ruleText r' = lk ++ [10]) : ¬ isPol l := by
 rintro ⟨p, hp, ht⟩
 have h := isPol_cut hws hn hp ht
 have hkl : k < p.rules.length := by have := h.num; omega
 have e := h.lines k _ (List.getElem?_eq_getElem hkl)
 rw [hlk] at e
 exact hno ⟨_, h.rules _ (List.getElem_mem hkl), by rw [Option.some.inj e]; rfl⟩
theorem no_eight {l : List UInt8} {ws : List (List UInt8)} {n : Nat} (hws : ws = cut 10 l) (hn : ws.length = n + 1) {k : Nat} (hk : k + 1 < n) (h8 : 8 ≤ k) : ¬ isPol l := by
 rintro ⟨p, hp, ht⟩
 have h := isPol_cut hws hn hp ht
 have := h.num; have := h.eight
 omega
theorem no_line {l : List UInt8} {ws : List (List UInt8)} {n : Nat} (hws : ws = cut 10 l) (hn : ws.length = n + 1) (hk : n = 0) : ¬ isPol l := by
 rintro ⟨p, hp, ht⟩
 have h := isPol_cut hws hn hp ht
 have := h.num
 omega
theorem no_else {l : List UInt8} {ws : List (List UInt8)} {n : Nat} (hws : ws = cut 10 l) (hn : ws.length = n + 1) {k : Nat} {last y : List UInt8} (hk : n = k + 1) (hlk : ws[k]? = some last) (hy : y = last.take 5) (he : (y == [101, 108, 115, 101, 32]) = false) : ¬ isPol l := by
 rintro ⟨p, hp, ht⟩
 have h := isPol_cut hws hn hp ht
 obtain rfl : k = p.rules.length := by have := h.num; omega
 have e := h.last
 rw [hlk] at e
 rw [hy, Option.some.inj e] at he
 simp at he
theorem no_verd {l : List UInt8} {ws : List (List UInt8)} {n : Nat} (hws : ws = cut 10 l) (hn : ws.length = n + 1) {k : Nat} {last y z : List UInt8} (hk : n = k + 1) (hlk : ws[k]? = some last) (hyz : last = y ++ z) (hy : y = [101, 108, 115, 101, 32]) (hv : ∀ j : Nat, 1 ≤ j → j ≤ 4 → verdNm j ≠ z) : ¬ isPol l := by
 rintro ⟨p, hp, ht⟩
 have h := isPol_cut hws hn hp ht
 obtain rfl : k = p.rules.length := by have := h.num; omega
 have e := h.last
 rw [hlk, hyz, hy] at e
 have e2 := List.append_cancel_left (Option.some.inj e)
 have h4 := h.els
 have := hv p.els.toNat (by omega) (by omega)
 rw [show ((p.els.toNat : Nat) : Int) = p.els by omega] at this
 exact this e2.symm
theorem no_past {l : List UInt8} {ws : List (List UInt8)} {n : Nat} (hws : ws = cut 10 l) (hn : ws.length = n + 1) {k : Nat} {past : List UInt8} (hk : n = k + 1) (hlk : ws[k + 1]? = some past) (he : (past == []) = false) : ¬ isPol l := by
 rintro ⟨p, hp, ht⟩
 have h := isPol_cut hws hn hp ht
 obtain rfl : k = p.rules.length := by have := h.num; omega
 have e := h.past
 rw [hlk] at e
 rw [Option.some.inj e] at he
 simp at he
theorem no_short {l : List UInt8} {ws : List (List UInt8)} {n : Nat} (hws : ws = cut 10 l) (hn : ws.length = n + 1) {k : Nat} {last : List UInt8} (hk : n = k + 1) (hlk : ws[k]? = some last) (he : ¬ 5 < last.length) : ¬ isPol l := by
 rintro ⟨p, hp, ht⟩
 have h := isPol_cut hws hn hp ht
 obtain rfl : k = p.rules.length := by have := h.num; omega
 have e := h.last
 rw [hlk] at e
 rw [Option.some.inj e] at he
 have h4 := h.els
 apply he
 obtain e4 | e4 | e4 | e4 : p.els = 1 ∨ p.els = 2 ∨ p.els = 3 ∨ p.els = 4 := by omega
 all_goals rw [e4]; decide
def PolRdX (l : List UInt8) (w : World) (e : Ending) (w' : World) : Prop := ∃ (p : Pol) (v : Value) (at_ : Int), e = .returned (.tuple #[v, .int .i64 at_]) ∧ (at_ = 0 → polOkB p = true ∧ polText p = l) ∧ (at_ ≠ 0 → ¬ isPol l) ∧ PolOwn w' w.heap.size p v ∧ Below w.heap.size w w'
theorem PQ.endX {l : List UInt8} {w w1 wr : World} {els : Int} {rv : Value} {rs : List Rl} {css : List (List Value)} (h : PQ w w1 wr els rv rs css) (ha : polOkB ⟨rs, els⟩ = true ∧ polText ⟨rs, els⟩ = l) : PolRdX l w (.returned (.tuple #[.agg #[rv, .int .i64 els], .int .i64 0])) ((wr.setCell ⟨w.heap.size, 0, none⟩ rv).setCell ⟨w.heap.size, 1, none⟩ (.int .i64 els)) := by
 have haf := h.after
 have hs : w.heap.size < w1.heap.size + 1 := by omega
 refine ⟨⟨rs, els⟩, _, 0, rfl, fun _ => ha, fun h => absurd rfl h, ⟨rv, css, rfl, own_base (own_lowsetS (own_lowsetS h.own hs) hs) (by omega), h.rules.imp fun tv n xs ho => own_base (own_lowsetS (own_lowsetS ho hs) hs) (by omega)⟩, ?_⟩
 exact (h.all.setCell (p := ⟨w.heap.size, 0, none⟩) (Nat.le_refl _) _).setCell (p := ⟨w.heap.size, 1, none⟩) (Nat.le_refl _) _
theorem PQ.noughtX {l : List UInt8} {w w1 wr : World} {els : Int} {rv : Value} {rs : List Rl} {css : List (List Value)} (h : PQ w w1 wr els rv rs css) (at_ : Int) (ha : at_ ≠ 0) (hno : ¬ isPol l) : PolRdX l w (.returned (.tuple #[.agg #[.slice none 0 0, .int .i64 0], .int .i64 at_])) ((wr.setCell ⟨w.heap.size, 0, none⟩ (.slice none 0 0)).setCell ⟨w.heap.size, 1, none⟩ (.int .i64 0)) := by
 refine ⟨⟨[], 0⟩, _, at_, rfl, fun h => absurd h ha, fun _ => hno, ⟨_, [], rfl, World.ownsRow_nil _ _ _ _, RulesOwn.nil _ _⟩, ?_⟩
 exact (h.all.setCell (p := ⟨w.heap.size, 0, none⟩) (Nat.le_refl _) _).setCell (p := ⟨w.heap.size, 1, none⟩) (Nat.le_refl _) _

set_option maxRecDepth 100000 in
set_option maxHeartbeats 8000000 in
theorem sPolicyRead_all (l : List UInt8) (w : World) (hs : l.length ≤ 1048576) :
   Calls Tryz.prog 12 #[.string ⟨l.toArray⟩] w (PolRdX l w) := by
 obtain ⟨W1, hW1⟩ : ∃ W, W = w.alloc (.cells #[.slice none 0 0, .int .i64 0] TPolS) := ⟨_, rfl⟩
 have bW : Hid (Below w.heap.size w W1) := by rw [hW1]; exact Lib.hid (by go_grown)
 have KR : Hid (Blk W1 w.heap.size TPolS #[.slice none 0 0, .int .i64 0]) := by rw [hW1]; exact Lib.hid (Blk.new _ _ _)
 have HW1 := Lib.hid hW1
 clear hW1
 have hcl := cut_len 10 l
 have hcne := cut_ne 10 l
 obtain ⟨ws, hws⟩ : ∃ ws, ws = cut 10 l := ⟨_, rfl⟩
 have HPL := Lib.hid (show ∀ x ∈ ws, x.length ≤ 1048576 from fun x hx => Nat.le_trans (piece_len 10 l x (by rw [← hws]; exact hx)) hs)
 have HCUT := Lib.hid (show ∀ W : World, Calls Tryz.prog 24 #[.string ⟨l.toArray⟩, .int .u8 10] W fun e w' => ∃ v, e = .returned v ∧ w'.ownsRow W.heap.size 9 1 v ws.length (strs ws).flatten ∧ Below W.heap.size W w' from fun W => by rw [hws]; exact l2Cut_any ⟨l.toArray⟩ 10 W (by show l.toArray.size ≤ _; simp; omega))
 rw [← hws] at hcl hcne
 have HWS := Lib.hid hws
 clear hws
 obtain ⟨n, hn⟩ : ∃ n, ws.length = n + 1 := ⟨ws.length - 1, by have := List.length_pos_iff.2 hcne; omega⟩
 go_enter Tryz.func12, Tryz.ntmps12
 go_wp2_with fail
 rw [← HW1.out]
 refine (HCUT.out W1).mono ?_; rintro e w1 ⟨v1, rfl, ho1, hb1⟩
 obtain ⟨A1, n1, c1, rfl, hA1⟩ := SlA.of_own ho1 (strs_len ws) (strs_rows ws)
 obtain rfl : n1 = ws.length := by have := hA1.len; rw [strs_len] at this; exact this.symm
 have hc1 := hA1.cap
 have hm1 := hA1.max
 unfold maxLen at hm1
 have HA1 := Lib.hid hA1
 obtain ⟨W2, hW2⟩ : ∃ W, W = w1.alloc (.cells #[.slice none 0 0, .int .i64 0] TPolS) := ⟨_, rfl⟩
 have Q2 : Hid (PQ w w1 W2 0 (.slice none 0 0) [] []) := by
   rw [hW2]
   exact Lib.hid ⟨(KR.out.below hb1 KR.out.lt).alloc _, Blk.new _ _ _, by go_grown, below_then bW.out hb1, Nat.lt_of_lt_of_le KR.out.lt hb1.size, World.ownsRow_nil _ _ _ _, RulesOwn.nil _ _⟩
 have HW2 := Lib.hid hW2
 clear ho1 hb1 hA1 hW2 bW KR
 have hni : ((ws.length : Int) - 1) = (n : Int) := by omega
 by_cases h9 : 900 < l.length
 · have h9i : (900 : Int) < l.length := by omega
   have r0 := (show _ = some (Value.slice none 0 0) from Q2.out.r0.cell 0); have r1 := (show _ = some (Value.int .i64 0) from Q2.out.r0.cell 1)
   have rf0 := Q2.out.r0.frozen 0; have rf1 := Q2.out.r0.frozen 1
   have p0 := (show _ = some (Value.slice none 0 0) from Q2.out.p0.cell 0); have p1 := (show _ = some (Value.int .i64 0) from Q2.out.p0.cell 1)
   have HFIN := Lib.hid (Q2.out.noughtX (l := l) 1 (by omega) (no_long h9))
   go_upto_region 4 with (fail)
   rw [← HW2.out]
   go_wp2
   exact bodyPost_ret (v := .tuple #[.agg #[.slice none 0 0, .int .i64 0], .int .i64 1]) (by simp [results, Tryz.results12, go_sem, r0, r1]) rfl HFIN.out
 · have h9i : ¬ (900 : Int) < l.length := by omega
   go_upto_region 4 with (fail)
   rw [← HW2.out]
   go_wp2_with fail
   go_loopw [7] (fun i wr => ∃ (k : Nat) (rs : List Rl) (css : List (List Value)) (rv : Value), i = .int .i64 k ∧ k ≤ 8 ∧ (k + 1 ≤ n ∨ k = 0) ∧ rs.length = k ∧ Hid ((∀ r ∈ rs, ruleOkB r = true) ∧ (ws.take k).map (fun x => x ++ [10]) = rs.map ruleText) ∧ Hid (PQ w w1 wr 0 rv rs css)) (fun i _ => n - (intOf i).toNat)
   case atStart => exact ⟨0, [], [], .slice none 0 0, rfl, by omega, .inr rfl, rfl, Lib.hid ⟨fun r h => (by cases h), (by simp)⟩, Q2⟩
   case round =>
     obtain ⟨k, rs, css, rv, rfl, hk8, hkn, hrl, HR, HQ⟩ := hrel
     clear Q2
     have hcl2 := Lib.hid (show css.length = k by have := HQ.out.rules.1; omega)
     have hz8 := HQ.out.p0.lt
     obtain ⟨A, c, rfl⟩ : ∃ A c, rv = .slice A css.length c := by
       rcases HQ.out.own.2 with ⟨rfl, h0⟩ | ⟨g', cap, cur, rfl, _⟩
       · exact ⟨none, 0, by rw [h0]⟩
       · exact ⟨_, _, rfl⟩
     by_cases hlt : k + 1 < n
     · have hki : (k : Int) < (n : Int) - 1 := by omega
       have hkl : k < ws.length := by omega
       obtain ⟨b1, o1, lk, e6, hbl6, hlk, hcell6⟩ := strs_get HA1.out (k := k) hkl
       subst e6
       have HLK := Lib.hid (HPL.out lk (List.mem_of_getElem? hlk))
       have k6 := hcell6 wr _ HQ.out.low hbl6
       have HL6 := Lib.hid hlk
       clear hcell6 hlk
       go_wp2_with fail
       refine (rdRule_all lk wr HLK.out).mono ?_; rintro e w6 ⟨r, tv, ok, rfl, hok, hrn, ho6, hb6⟩
       have HRN := Lib.hid hrn
       clear hrn
       obtain ⟨A6, c6, rfl⟩ : ∃ A c, tv = .slice A r.tests.length c := by
         rcases ho6.2 with ⟨rfl, h0⟩ | ⟨g', cap, cur, rfl, _⟩
         · exact ⟨none, 0, by rw [h0]⟩
         · exact ⟨_, _, rfl⟩
       obtain ⟨W6, hW6⟩ : ∃ W, W = w6.alloc (.cells #[.int .i64 r.verdict, .int .i64 r.low, .int .i64 r.high, .slice A6 r.tests.length c6] TRulS) := ⟨_, rfl⟩
       have X6 : Hid (Blk W6 w6.heap.size TRulS #[.int .i64 r.verdict, .int .i64 r.low, .int .i64 r.high, .slice A6 r.tests.length c6]) := by rw [hW6]; exact Lib.hid (Blk.new _ _ _)
       have b6 : Below w6.heap.size w6 W6 := by rw [hW6]; go_grown
       have HQ6 := Lib.hid (HQ.out.next (below_then hb6 b6))
       have HO6 := Lib.hid (own_below ho6 b6)
       have hz6 := hb6.size
       have hz7 : w6.heap.size < W6.heap.size := X6.out.lt
       have HW6 := Lib.hid hW6
       have HOK := Lib.hid hok
       clear HQ hW6 ho6 hb6 b6 hok k6
       go_upto_region 10 with (fail)
       rw [← HW6.out]
       cases ok with
       | false =>
         have r0 := (show _ = some (Value.slice none 0 0) from HQ6.out.r0.cell 0); have r1 := (show _ = some (Value.int .i64 0) from HQ6.out.r0.cell 1)
         have rf0 := HQ6.out.r0.frozen 0; have rf1 := HQ6.out.r0.frozen 1
         have HFIN := Lib.hid (HQ6.out.noughtX (l := l) ((k : Int) + 1) (by omega) (no_rule HWS.out hn hlt HL6.out (HRN.out rfl)))
         go_wp2
         exact bodyPost_ret (v := .tuple #[.agg #[.slice none 0 0, .int .i64 0], .int .i64 ((k : Int) + 1)]) (by simp [results, Tryz.results12, go_sem, r0, r1]) rfl HFIN.out
       | true =>
         by_cases hk : 8 ≤ k
         · have hki8 : (8 : Int) ≤ k := by omega
           have r0 := (show _ = some (Value.slice none 0 0) from HQ6.out.r0.cell 0); have r1 := (show _ = some (Value.int .i64 0) from HQ6.out.r0.cell 1)
           have rf0 := HQ6.out.r0.frozen 0; have rf1 := HQ6.out.r0.frozen 1
           have HFIN := Lib.hid (HQ6.out.noughtX (l := l) ((k : Int) + 1) (by omega) (no_eight HWS.out hn hlt hk))
           go_wp2
           exact bodyPost_ret (v := .tuple #[.agg #[.slice none 0 0, .int .i64 0], .int .i64 ((k : Int) + 1)]) (by simp [results, Tryz.results12, go_sem, r0, r1]) rfl HFIN.out
         · have hki8 : ¬ (8 : Int) ≤ k := by omega
           have e0 := (show _ = some (Value.int .i64 r.verdict) from X6.out.cell 0); have e1 := (show _ = some (Value.int .i64 r.low) from X6.out.cell 1); have e2 := (show _ = some (Value.int .i64 r.high) from X6.out.cell 2); have e3 := (show _ = some (Value.slice A6 r.tests.length c6) from X6.out.cell 3)
           have y0 := (show _ = some (Value.slice A css.length c) from HQ6.out.p0.cell 0)
           have hsx := HQ6.out.p0.lt
           have HN := Lib.hid (own_blk_ne HQ6.out.own HQ6.out.p0 (by decide))
           have HOT := Lib.hid (own_base HO6.out (base' := w1.heap.size + 1) (by omega))
           go_wp2_with (at_builtin; go_must (refine wpList_app1g rfl (.tmp 45) (.tmp 47) _ rfl (w1.heap.size + 1) TRulS Tryz.underlying33 info_RuleM rfl (by omega) (by omega) (.slice A css.length c) css.length css rfl HQ6.out.own rfl (by simp [Value.oneCell']) rfl (by have := hcl2.out; omega) (by omega) ?_); intro v9 w9 hown9 hg9 _; obtain ⟨g9, cap9, rfl, hg9', hg9''⟩ := hown9.form (by omega); have P9 := HQ6.out.p0.grown hg9 (fun e => HN.out e.symm); have p90 := (show _ = some (Value.slice A css.length c) from P9.cell 0); have pf0 := P9.frozen 0)
           refine ⟨⟨k + 1, rs ++ [r], css ++ [[.int .i64 r.verdict, .int .i64 r.low, .int .i64 r.high, .slice A6 r.tests.length c6]], _, by go_num, by omega, by omega, by simp; omega, Lib.hid ⟨fun x hx => ?_, ?_⟩, Lib.hid (HQ6.out.app ⟨_, rfl, HOT.out⟩ hown9 hg9)⟩, by simp [intOf]; omega⟩
           · rcases List.mem_append.1 hx with h | h
             · exact HR.out.1 x h
             · rw [List.mem_singleton] at h
               subst h
               have := (HOK.out rfl).1
               unfold polOkB polShapeB at this
               simp at this
               exact this.1.2
           · rw [List.take_add_one, List.map_append, HR.out.2, HL6.out, List.map_append]
             simp [(HOK.out rfl).2]
     · have hki : ¬ (k : Int) < (n : Int) - 1 := by omega
       by_cases hn0 : n = 0
       · obtain rfl : k = 0 := by omega
         have hn1 : (n : Int) < 1 := by omega
         have r0 := (show _ = some (Value.slice none 0 0) from HQ.out.r0.cell 0); have r1 := (show _ = some (Value.int .i64 0) from HQ.out.r0.cell 1)
         have rf0 := HQ.out.r0.frozen 0; have rf1 := HQ.out.r0.frozen 1
         have HFIN := Lib.hid (HQ.out.noughtX (l := l) (1) (by omega) (no_line HWS.out hn hn0))
         go_wp2
         exact bodyPost_ret (v := .tuple #[.agg #[.slice none 0 0, .int .i64 0], .int .i64 (1)]) (by simp [results, Tryz.results12, go_sem, r0, r1]) rfl HFIN.out
       · have hn1 : ¬ (n : Int) < 1 := by omega
         obtain rfl : n = k + 1 := by omega
         have hkl : k < ws.length := by omega
         have hkl1 : k + 1 < ws.length := by omega
         obtain ⟨b1, o1, last, e6, hbl6, hlk, hcell6⟩ := strs_get HA1.out (k := k) hkl
         subst e6
         obtain ⟨b2, o2, past, e7, hbl7, hlp, hcell7⟩ := strs_get HA1.out (k := k + 1) hkl1
         obtain ⟨rfl, rfl⟩ : b1 = b2 ∧ o1 = o2 := by simpa using e7
         have HLK := Lib.hid (HPL.out last (List.mem_of_getElem? hlk))
         have HLL := Lib.hid hlk; have HLP := Lib.hid hlp
         have HC7 := Lib.hid hcell7
         have HB7 := Lib.hid hbl6
         have k6 := hcell6 wr _ HQ.out.low hbl6
         clear hcell6 hcell7 hlk hlp e7 hbl7 hn0
         have y1 := (show _ = some (Value.int .i64 0) from HQ.out.p0.cell 1); have q1 := HQ.out.p0.frozen 1
         have hk1 : (k : Int) + 1 - 1 = k := by omega
         by_cases h5 : 5 < last.length
         · have h5i : (5 : Int) < last.length := by omega
           have h5j : (5 : Int) ≤ last.length := by omega
           have h5n : 5 ≤ last.length := by omega
           obtain ⟨y, hy⟩ : ∃ y : List UInt8, (⟨last.toArray⟩ : ByteArray).extract 0 5 = ⟨y.toArray⟩ := ⟨((⟨last.toArray⟩ : ByteArray).extract 0 5).data.toList, rfl⟩
           obtain ⟨z, hz⟩ : ∃ z : List UInt8, (⟨last.toArray⟩ : ByteArray).extract 5 last.length = ⟨z.toArray⟩ := ⟨((⟨last.toArray⟩ : ByteArray).extract 5 last.length).data.toList, rfl⟩
           have HY5 : Hid (y = last.take 5) := Lib.hid (by
             have h1 := congrArg (fun (b : ByteArray) => b.data.toList) hy
             simp at h1
             exact h1.symm)
           have HYZ := Lib.hid (show last = y ++ z from by
             have h1 := congrArg (fun (b : ByteArray) => b.data.toList) hy
             have h2 := congrArg (fun (b : ByteArray) => b.data.toList) hz
             simp at h1 h2
             rw [← h1, ← h2]
             exact (List.take_append_drop 5 last).symm.trans (by rw [List.take_of_length_le (l := last.drop 5) (by simp)]))
           cases he : (y == [101, 108, 115, 101, 32]) with
           | false =>
             have r0 := (show _ = some (Value.slice none 0 0) from HQ.out.r0.cell 0); have r1 := (show _ = some (Value.int .i64 0) from HQ.out.r0.cell 1)
             have rf0 := HQ.out.r0.frozen 0; have rf1 := HQ.out.r0.frozen 1
             have HFIN := Lib.hid (HQ.out.noughtX (l := l) ((k : Int) + 1) (by omega) (no_else HWS.out hn rfl HLL.out HY5.out he))
             go_wp2
             exact bodyPost_ret (v := .tuple #[.agg #[.slice none 0 0, .int .i64 0], .int .i64 ((k : Int) + 1)]) (by simp [results, Tryz.results12, go_sem, r0, r1]) rfl HFIN.out
           | true =>
             have HY := Lib.hid (eq_of_beq he)
             go_wp2_with fail
             refine (rdVerdict_all z wr).mono ?_; rintro e w7 ⟨ev, rfl, ⟨hev, hnm, hvn⟩, hb7⟩
             have HVN := Lib.hid hvn
             clear hvn
             have HQ7 := Lib.hid (HQ.out.next hb7)
             have y2 := (show _ = some (Value.int .i64 0) from HQ7.out.p0.cell 1); have q2 := HQ7.out.p0.frozen 1
             have HQ8 := Lib.hid (HQ7.out.setEls ev)
             have HNM := Lib.hid hnm
             clear hb7 hnm HQ y1 q1 k6
             obtain ⟨W8, hW8⟩ : ∃ W, W = w7.setCell ⟨w1.heap.size, 1, none⟩ (.int .i64 ev) := ⟨_, rfl⟩
             rw [← hW8] at HQ8
             have HW8 := Lib.hid hW8
             clear hW8
             go_upto_region 18 with (fail)
             rw [← HW8.out]
             clear y2 q2
             have y1 := (show _ = some (Value.int .i64 ev) from HQ8.out.p0.cell 1)
             have y0 := (show _ = some (Value.slice A css.length c) from HQ8.out.p0.cell 0)
             by_cases hz0 : ev = 0
             · subst hz0
               have r0 := (show _ = some (Value.slice none 0 0) from HQ8.out.r0.cell 0); have r1 := (show _ = some (Value.int .i64 0) from HQ8.out.r0.cell 1)
               have rf0 := HQ8.out.r0.frozen 0; have rf1 := HQ8.out.r0.frozen 1
               have HFIN := Lib.hid (HQ8.out.noughtX (l := l) ((k : Int) + 1) (by omega) (no_verd HWS.out hn rfl HLL.out HYZ.out HY.out (HVN.out rfl)))
               go_wp2
               exact bodyPost_ret (v := .tuple #[.agg #[.slice none 0 0, .int .i64 0], .int .i64 ((k : Int) + 1)]) (by simp [results, Tryz.results12, go_sem, r0, r1]) rfl HFIN.out
             · have hz0b : (ev == 0) = false := by simpa using hz0
               have k7 := HC7.out W8 _ HQ8.out.low HB7.out
               cases hp : (past == []) with
               | false =>
                 have r0 := (show _ = some (Value.slice none 0 0) from HQ8.out.r0.cell 0); have r1 := (show _ = some (Value.int .i64 0) from HQ8.out.r0.cell 1)
                 have rf0 := HQ8.out.r0.frozen 0; have rf1 := HQ8.out.r0.frozen 1
                 have HFIN := Lib.hid (HQ8.out.noughtX (l := l) ((k : Int) + 1 + 1) (by omega) (no_past HWS.out hn rfl HLP.out hp))
                 go_wp2
                 exact bodyPost_ret (v := .tuple #[.agg #[.slice none 0 0, .int .i64 0], .int .i64 ((k : Int) + 1 + 1)]) (by simp [results, Tryz.results12, go_sem, r0, r1]) rfl HFIN.out
               | true =>
                 have r0 := (show _ = some (Value.slice none 0 0) from HQ8.out.r0.cell 0); have r1 := (show _ = some (Value.int .i64 0) from HQ8.out.r0.cell 1)
                 have rf0 := HQ8.out.r0.frozen 0; have rf1 := HQ8.out.r0.frozen 1
                 have HPT := Lib.hid (show polText ⟨rs, ev⟩ = l from by
                   refine polText_of (n := k) (by rw [← HWS.out]; omega) (by rw [← HWS.out]; exact HR.out.2) (by rw [← HWS.out]; exact HLL.out) (by rw [← HWS.out, HLP.out, eq_of_beq hp]) ?_
                   rw [HYZ.out, HY.out, HNM.out hz0])
                 have HFIN := Lib.hid (HQ8.out.endX (l := l) (⟨by
                   unfold polOkB polShapeB
                   rw [HPT.out]
                   simp [inB, HR.out.1]
                   refine ⟨⟨⟨by omega, by omega, by omega⟩, HR.out.1⟩, by omega⟩, HPT.out⟩))
                 go_wp2
                 exact bodyPost_ret (v := .tuple #[.agg #[.slice A css.length c, .int .i64 ev], .int .i64 0]) (by simp [results, Tryz.results12, go_sem, r0, r1]) rfl HFIN.out
         · have h5i : ¬ (5 : Int) < last.length := by omega
           have r0 := (show _ = some (Value.slice none 0 0) from HQ.out.r0.cell 0); have r1 := (show _ = some (Value.int .i64 0) from HQ.out.r0.cell 1)
           have rf0 := HQ.out.r0.frozen 0; have rf1 := HQ.out.r0.frozen 1
           have HFIN := Lib.hid (HQ.out.noughtX (l := l) ((k : Int) + 1) (by omega) (no_short HWS.out hn rfl HLL.out h5))
           go_wp2
           exact bodyPost_ret (v := .tuple #[.agg #[.slice none 0 0, .int .i64 0], .int .i64 ((k : Int) + 1)]) (by simp [results, Tryz.results12, go_sem, r0, r1]) rfl HFIN.out
end Go.Proofs.YtdjgicapbpoigaaGreatDoor
