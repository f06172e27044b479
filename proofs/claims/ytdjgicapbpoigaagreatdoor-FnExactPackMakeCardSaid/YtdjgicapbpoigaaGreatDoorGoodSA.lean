/- Joined texts: PolInj GoodS. -/
import Derived.Test.YtdjgicapbpoigaaGreatDoorSrdY
import Derived.Test.YtdjgicapbpoigaaGreatDoorSpkA
-- A policy's text tells the policy, in plain Lean.
namespace Go.Proofs.YtdjgicapbpoigaaGreatDoor
open Go.RowKit
set_option linter.unusedSimpArgs false
set_option linter.unusedVariables false

theorem itoa_one {a b : Int} (ha : 0 ≤ a ∧ a ≤ 4294967295) (hb : 0 ≤ b ∧ b ≤ 4294967295) (h : Lib.itoa a = Lib.itoa b) : a = b := by
 rw [← numOf_itoa a ha.1 ha.2, h, numOf_itoa b hb.1 hb.2]
theorem word_inj {t t' : Ts} (h : testOkB t = true) (h' : testOkB t' = true) (e : testWord t = testWord t') : t = t' := by
 have hp : posT t = posT t' := by
   rcases Nat.lt_trichotomy (posT t) (posT t') with h1 | h1 | h1
   · obtain ⟨k, _, hk, hs⟩ := word_sign h
     rw [e] at hs
     exact absurd rfl (signB_no (k := k) (word_at h' h1 hs))
   · exact h1
   · obtain ⟨k, _, hk, hs⟩ := word_sign h'
     rw [← e] at hs
     exact absurd rfl (signB_no (k := k) (word_at h h1 hs))
 obtain ⟨k, hk, hk3, hs⟩ := word_sign h
 obtain ⟨k', hk', hk3', hs'⟩ := word_sign h'
 rw [e, hp, hs'] at hs
 have hkk := signB_inj hk3' hk3 (Option.some.inj hs)
 have hop : t.op = t'.op := by omega
 unfold testWord at e
 have e1 := (List.cons.inj e).2
 have hl : (testField t).length = (testField t').length := by unfold posT at hp; omega
 obtain ⟨e2, e3⟩ := List.append_inj e1 hl
 rw [hop] at e3
 have e4 := List.append_cancel_left e3
 obtain ⟨⟨f1, f2⟩, ⟨m1, m2⟩, ⟨v1, v2⟩, ⟨o1, o2⟩⟩ := testOkB_words h
 obtain ⟨⟨f1', f2'⟩, ⟨m1', m2'⟩, ⟨v1', v2'⟩, ⟨o1', o2'⟩⟩ := testOkB_words h'
 have hv := itoa_one ⟨v1, v2⟩ ⟨v1', v2'⟩ e4
 obtain ⟨fd, mk, op, vl⟩ := t
 obtain ⟨fd', mk', op', vl'⟩ := t'
 simp only at *
 have hfm : fd = fd' ∧ mk = mk' := by
   have c := field_cut h
   have c' := field_cut h'
   rw [e2] at c
   rcases c with ⟨c, hm⟩ | c
   · rcases c' with ⟨c', hm'⟩ | c'
     · rw [c'] at c
       simp at c
       exact ⟨(itoa_one ⟨by omega, by omega⟩ ⟨by omega, by omega⟩ c).symm, hm.trans hm'.symm⟩
     · rw [c'] at c
       simp at c
   · rcases c' with ⟨c', hm'⟩ | c'
     · rw [c'] at c
       simp at c
     · rw [c'] at c
       simp at c
       exact ⟨(itoa_one ⟨by omega, by omega⟩ ⟨by omega, by omega⟩ c.1).symm, (itoa_one ⟨by omega, by omega⟩ ⟨by omega, by omega⟩ c.2).symm⟩
 rw [hfm.1, hfm.2, hop, hv]
theorem map_one {α β : Type} (f : α → β) {P : α → Prop} (hf : ∀ a b, P a → P b → f a = f b → a = b) : ∀ (x y : List α), (∀ a ∈ x, P a) → (∀ a ∈ y, P a) → x.map f = y.map f → x = y
 | [], [], _, _, _ => rfl
 | [], b :: y, _, _, h => by simp at h
 | a :: x, [], _, _, h => by simp at h
 | a :: x, b :: y, h1, h2, h => by
   simp only [List.map_cons, List.cons.injEq] at h
   rw [hf a b (h1 a (by simp)) (h2 b (by simp)) h.1, map_one f hf x y (fun c hc => h1 c (by simp [hc])) (fun c hc => h2 c (by simp [hc])) h.2]
theorem line_inj {r r' : Rl} (h : ruleOkB r = true) (h' : ruleOkB r' = true) (e : rLine r = rLine r') : r = r' := by
 have c := rule_cut h
 have e' : headText r ++ testsText r.tests = headText r' ++ testsText r'.tests := e
 rw [e', rule_cut h'] at c
 simp only [List.cons.injEq] at c
 obtain ⟨c1, c2, c3⟩ := c
 obtain ⟨⟨v1, v2⟩, ⟨l1, l2⟩, hh, n4, hts⟩ := ruleOkB_words h
 obtain ⟨⟨v1', v2'⟩, ⟨l1', l2'⟩, hh', n4', hts'⟩ := ruleOkB_words h'
 have hv := verd_one ⟨v1', v2'⟩ ⟨v1, v2⟩ c1
 have ht := map_one testWord (P := fun t => testOkB t = true) (fun a b ha hb => word_inj ha hb) _ _ hts' hts c3
 obtain ⟨es, n1, hc⟩ := nums_cut h
 obtain ⟨es', n1', hc'⟩ := nums_cut h'
 rw [c2, n1] at n1'
 subst n1'
 obtain ⟨vd, lo, hi, ts⟩ := r
 obtain ⟨vd', lo', hi', ts'⟩ := r'
 simp only at *
 have hlh : lo = lo' ∧ hi = hi' := by
   rcases hc with ⟨hc, hm⟩ | hc
   · rcases hc' with ⟨hc', hm'⟩ | hc'
     · rw [hc'] at hc
       simp at hc
       have := itoa_one ⟨by omega, by omega⟩ ⟨by omega, by omega⟩ hc
       exact ⟨by omega, by omega⟩
     · rw [hc'] at hc
       simp at hc
   · rcases hc' with ⟨hc', hm'⟩ | hc'
     · rw [hc'] at hc
       simp at hc
     · rw [hc'] at hc
       simp at hc
       exact ⟨(itoa_one ⟨by omega, by omega⟩ ⟨by omega, by omega⟩ hc.1).symm, (itoa_one ⟨by omega, by omega⟩ ⟨by omega, by omega⟩ hc.2).symm⟩
 rw [hlh.1, hlh.2, ← hv, ← ht]
theorem pol_inj {p p' : Pol} (h : polOkB p = true) (h' : polOkB p' = true) (e : polText p = polText p') : p = p' := by
 obtain ⟨h8, he, hr⟩ := polShapeB_words (polOkB_shape h).1
 obtain ⟨h8', he', hr'⟩ := polShapeB_words (polOkB_shape h').1
 have c := pol_cut p.els p.rules hr
 rw [show (⟨p.rules, p.els⟩ : Pol) = p from rfl, e, show p' = (⟨p'.rules, p'.els⟩ : Pol) from rfl, pol_cut p'.els p'.rules hr'] at c
 obtain ⟨c1, c2⟩ := List.append_inj' c rfl
 have hrs := map_one rLine (P := fun r => ruleOkB r = true) (fun a b ha hb => line_inj ha hb) _ _ hr' hr c1
 simp only [List.cons.injEq, and_true] at c2
 have hel := verd_one he' he (List.append_cancel_left c2)
 obtain ⟨rs, els⟩ := p
 obtain ⟨rs', els'⟩ := p'
 simp only at *
 rw [hrs, hel]
end Go.Proofs.YtdjgicapbpoigaaGreatDoor

-- spec.PackGood and spec.PackMake, exactly.
namespace Go.Proofs.YtdjgicapbpoigaaGreatDoor
open Go.RowKit
set_option linter.unusedSimpArgs false
set_option linter.unusedVariables false

def GoodIs (en : Int) (r c : List UInt8) (b : Bool) : Prop := (b = false ∧ (inB en 1 99 = false ∨ ¬ isPol r ∨ ¬ ∃ g, codeOk g ∧ c = codeText g)) ∨ (inB en 1 99 = true ∧ ∃ (p : Pol) (g : List In4) (s : Nat), polOkB p = true ∧ polText p = r ∧ codeOk g ∧ c = codeText g ∧ ChkOut g p s b)
theorem GoodIs.one {en : Int} {r c : List UInt8} {b b' : Bool} (h : GoodIs en r c b) (h' : GoodIs en r c b') : b = b' := by
 rcases h with ⟨rfl, hn⟩ | ⟨he, p, g, s, hp, ht, hg, hc, hk⟩
 · rcases h' with ⟨rfl, _⟩ | ⟨he', p', g', s', hp', ht', hg', hc', hk'⟩
   · rfl
   · exfalso
     rcases hn with hn | hn | hn
     · rw [hn] at he'; cases he'
     · exact hn ⟨p', hp', ht'⟩
     · exact hn ⟨g', hg', hc'⟩
 · rcases h' with ⟨rfl, hn⟩ | ⟨he', p', g', s', hp', ht', hg', hc', hk'⟩
   · exfalso
     rcases hn with hn | hn | hn
     · rw [hn] at he; cases he
     · exact hn ⟨p, hp, ht⟩
     · exact hn ⟨g, hg, hc⟩
   · obtain rfl := pol_inj hp hp' (ht.trans ht'.symm)
     obtain rfl := code_one hg hg' (hc.symm.trans hc')
     exact (hk.one hk').2

set_option maxRecDepth 100000 in
set_option maxHeartbeats 4000000 in
theorem sPackGood_all (en : Int) (r c : List UInt8) (w : World) (hr : r.length ≤ 1048576) (hc : c.length ≤ 1048576) :
   Calls Tryz.prog 6 #[.agg #[.int .i64 en, .string ⟨r.toArray⟩, .string ⟨c.toArray⟩]] w fun e w' => ∃ b : Bool, e = .returned (.bool b) ∧ GoodIs en r c b ∧ Below w.heap.size w w' := by
 obtain ⟨W1, hW1⟩ : ∃ W, W = w.alloc (.cells #[.int .i64 en, .string ⟨r.toArray⟩, .string ⟨c.toArray⟩] TPackS) := ⟨_, rfl⟩
 have b1 : Hid (Below w.heap.size w W1) := by rw [hW1]; exact Lib.hid (by go_grown)
 have B1 : Hid (Blk W1 w.heap.size TPackS #[.int .i64 en, .string ⟨r.toArray⟩, .string ⟨c.toArray⟩]) := by rw [hW1]; exact Lib.hid (Blk.new _ _ _)
 have HW1 := Lib.hid hW1
 clear hW1
 have x1 := (show _ = some (Value.string ⟨r.toArray⟩) from B1.out.cell 1)
 go_enter Tryz.func6, Tryz.ntmps6
 go_upto_region 1 with (fail)
 rw [← HW1.out]
 go_wp2_with fail
 refine (sPolicyRead_all r W1 hr).mono ?_; rintro e1 w2 ⟨p, v, at_, rfl, hat, hnat, ho, hb2⟩
 have HAT := Lib.hid hat; have HNAT := Lib.hid hnat
 obtain ⟨A, n, cc, rfl⟩ := ho.slice
 obtain ⟨W2, hW2⟩ : ∃ W, W = w2.alloc (.cells #[.slice A n cc, .int .i64 p.els] TPolS) := ⟨_, rfl⟩
 have b2 : Below w2.heap.size w2 W2 := by rw [hW2]; go_grown
 have B2 : Hid (Blk W2 w2.heap.size TPolS #[.slice A n cc, .int .i64 p.els]) := by rw [hW2]; exact Lib.hid (Blk.new _ _ _)
 have HP := Lib.hid (ho.is.below b2)
 have HB := Lib.hid (below_then b1.out (below_then hb2 b2))
 have HB1 := Lib.hid ((B1.out.below hb2 B1.out.lt).below b2 (Nat.lt_of_lt_of_le B1.out.lt hb2.size))
 have HW2 := Lib.hid hW2
 clear hW2 ho b2 hb2 x1 hat hnat
 have x2 := (show _ = some (Value.string ⟨c.toArray⟩) from HB1.out.cell 2)
 go_upto_region 2 with (fail)
 rw [← HW2.out]
 go_wp2_with fail
 refine (sCodeRead_any ⟨c.toArray⟩ W2 (by show c.toArray.size ≤ _; simpa using hc)).mono ?_; intro e3 w3 h3
 obtain ⟨g, v3, ok, rfl, hgy, hgn, ho3, hb3⟩ := codePost_short h3
 have HGY : Hid (ok = true → codeOk g ∧ c = codeText g) := Lib.hid (by simpa using hgy); have HGN : Hid (ok = false → ¬ ∃ g, codeOk g ∧ c = codeText g) := Lib.hid (by simpa using hgn)
 obtain ⟨A3, c3, rfl⟩ := own_slice ho3
 have HP3 := Lib.hid (HP.out.below hb3)
 have HS3 := Lib.hid (show Sl w3 4 (.slice A3 g.length c3) (insR g) from SlA.of_own ho3 (insR_len g) (insR_rows g))
 have HBL := Lib.hid (below_then HB.out hb3)
 have B3 := Lib.hid (B2.out.below hb3 B2.out.lt)
 have HB3 := Lib.hid (HB1.out.below hb3 HB1.out.lt)
 clear h3 ho3 hb3 x2 HP HB HB1 hgy hgn
 have x0 := (show _ = some (Value.int .i64 en) from HB3.out.cell 0)
 have y0 := (show _ = some (Value.slice A n cc) from B3.out.cell 0); have y1 := (show _ = some (Value.int .i64 p.els) from B3.out.cell 1)
 go_wp2_with fail
 refine (l1In_any en 1 99 w3).mono ?_; rintro e w4 ⟨rfl, rfl⟩
 cases hin : inB en 1 99 with
 | false =>
   go_wp2
   go_ret
   exact ⟨false, rfl, .inl ⟨rfl, .inl hin⟩, HBL.out⟩
 | true =>
   cases haz : (at_ == 0) with
   | false =>
     go_wp2
     go_ret
     exact ⟨false, rfl, .inl ⟨rfl, .inr (.inl (HNAT.out (by simpa using haz)))⟩, HBL.out⟩
   | true =>
     cases ok with
     | false =>
       go_wp2
       go_ret
       exact ⟨false, rfl, .inl ⟨rfl, .inr (.inr (HGN.out (by simp)))⟩, HBL.out⟩
     | true =>
       go_wp2_with fail
       refine (sCheckCode_any _ g p _ w3 HS3.out HP3.out).mono ?_; rintro e w5 ⟨s, b, rfl, hck, hb5⟩
       have HCK := Lib.hid hck
       have HB5 := Lib.hid (below_then HBL.out hb5)
       clear hb5 hck
       go_wp2
       go_ret
       exact ⟨b, rfl, .inr ⟨hin, p, g, s, (HAT.out (by simpa using haz)).1, (HAT.out (by simpa using haz)).2, (HGY.out (by simp)).1, (HGY.out (by simp)).2, HCK.out⟩, HB5.out⟩
end Go.Proofs.YtdjgicapbpoigaaGreatDoor
