/- Joined texts: CurN CurN2 CurN3 CurN4 CurM CurN5. -/
import Derived.Test.YtdjgicapbpoigaaGreatDoorCurP
import Derived.Test.YtdjgicapbpoigaaGreatDoorRelP
import Derived.WalkLawsBesides
import Derived.Test.YtdjgicapbpoigaaGreatDoorCurQ
import Derived.Test.YtdjgicapbpoigaaGreatDoorSrdY
-- impl's cursor on any text: what is needed and is not so throws the line.
namespace Go.Proofs.YtdjgicapbpoigaaGreatDoor
open Go.RowKit
set_option linter.unusedSimpArgs false
set_option linter.unusedVariables false

abbrev TFault : TypeId := 85
def faultP (line : Int) : List PanicEntry := [{ v := .iface TFault (.agg #[.int .i64 line]), recovered := false }]
def Throws (w : World) (g : Nat) (line : Int) (e : Ending) (w' : World) : Prop := e = .panicked (faultP line) ∧ w.grownBy w' (some g)
theorem need_no (g : Nat) (line : Int) (s : Value) (w : World) (h : Blk w g TCur #[s, .int .i64 line]) :
   Calls Tryz.prog 42 #[.pointer (some ⟨g, 0, none⟩), .bool false] w fun e w' => e = .panicked (faultP line) ∧ Below w.heap.size w w' := by
 have x1 := (show _ = some (Value.int .i64 line) from h.cell 1)
 clear h
 go_enter Tryz.func42, Tryz.ntmps42
 go_wp2
 exact ⟨rfl, rfl, by go_grown⟩
theorem Cur.throws {w w1 w2 : World} {g : Nat} {line : Int} {t : List UInt8} (h : Cur w w1 g line t) (hb : Below w1.heap.size w1 w2) : w.grownBy w2 (some g) := h.grown.trans (grown_of_below hb _)
theorem word_any (g : Nat) (line : Int) (t : List UInt8) (w : World) (h : Blk w g TCur #[.string ⟨t.toArray⟩, .int .i64 line]) (hl : t.length ≤ 10000) :
   Calls Tryz.prog 76 #[.pointer (some ⟨g, 0, none⟩)] w fun e w' => (∃ v r, NumAt 4294967295 t v r ∧ e = .returned (.int .i64 v) ∧ w' = w.setCell ⟨g, 0, none⟩ (.string ⟨r.toArray⟩)) ∨ Throws w g line e w' := by
 by_cases hn : ∃ v r, NumAt 4294967295 t v r
 · obtain ⟨v, r, hn⟩ := hn
   exact (word_yes g line t r v w h hn hl).mono fun e w' hx => .inl ⟨v, r, hn, hx.1, hx.2⟩
 · have HN := Lib.hid hn
   have x0 := (show _ = some (Value.string ⟨t.toArray⟩) from h.cell 0); have f0 := h.frozen 0
   have C0 := Lib.hid (Cur.start h)
   clear hn h
   go_enter Tryz.func76, Tryz.ntmps76
   go_wp2_with fail
   refine (number_any 4294967295 ⟨t.toArray⟩ g 0 w x0 f0 (by show t.toArray.size ≤ _; simp; omega) (by omega) (by omega)).mono ?_
   rintro e w1 (⟨v1, r1, h1, rfl, rfl⟩ | ⟨h1, rfl, hw⟩)
   · exact absurd ⟨v1, r1, h1⟩ HN.out
   · have C1 : Hid (Cur w w1 g line t) := by
       rcases hw with rfl | rfl
       · exact C0
       · exact Lib.hid (C0.out.same (by simp))
     clear hw x0 f0 h1
     go_wp2_with (go_at_call 42; refine (need_no g line _ _ C1.out.blk).mono ?_; rintro e w2 ⟨rfl, hb⟩)
     exact ⟨rfl, .inr ⟨rfl, C1.out.throws hb⟩⟩
set_option maxHeartbeats 1000000 in
theorem verdict_any (g : Nat) (line : Int) (t : List UInt8) (w : World) (h : Blk w g TCur #[.string ⟨t.toArray⟩, .int .i64 line]) :
   Calls Tryz.prog 74 #[.pointer (some ⟨g, 0, none⟩)] w fun e w' => (∃ (v : Int) (r : List UInt8), (1 ≤ v ∧ v ≤ 4) ∧ t = verdNm v ++ r ∧ e = .returned (.tuple #[.int .i64 v, .bool true]) ∧ Cur w w' g line r) ∨ ((¬ ∃ (v : Int) (r : List UInt8), (1 ≤ v ∧ v ≤ 4) ∧ t = verdNm v ++ r) ∧ e = .returned (.tuple #[.int .i64 0, .bool false]) ∧ Cur w w' g line t) := by
 by_cases hn : ∃ (v : Int) (r : List UInt8), (1 ≤ v ∧ v ≤ 4) ∧ t = verdNm v ++ r
 · obtain ⟨v, r, hv, rfl⟩ := hn
   exact (verdict_yes g line v r w h hv).mono fun e w' hx => .inl ⟨v, r, hv, rfl, hx.1, hx.2⟩
 · have HN := Lib.hid hn
   have H := Lib.hid h
   clear h hn
   go_enter Tryz.func74, Tryz.ntmps74
   go_wp2
   go_loopw [4] (fun i wr => ∃ k : Int, 1 ≤ k ∧ k ≤ 5 ∧ i = .int .i64 k ∧ Cur w wr g line t) (fun i _ => (5 - intOf i).toNat)
   case atStart => exact ⟨1, by omega, by omega, rfl, Cur.start H.out⟩
   case round =>
     obtain ⟨k, hk1, hk2, rfl, hc⟩ := hrel
     have x0 := (show _ = some (Value.string ⟨t.toArray⟩) from hc.blk.cell 0); have f0 := hc.blk.frozen 0
     have HC := Lib.hid hc
     clear hc
     by_cases hk4 : k ≤ 4
     · go_wp2_with fail
       refine (verdictName_any k wr).mono ?_; rintro e w1 ⟨rfl, rfl⟩
       go_wp2_with fail
       refine (skip_no ⟨t.toArray⟩ ⟨(verdNm k).toArray⟩ g 0 wr x0 f0 (fun ⟨r, hr⟩ => HN.out ⟨k, r, ⟨hk1, hk4⟩, hr⟩)).mono ?_; rintro e w1 ⟨rfl, rfl⟩
       have HE := Lib.hid (HC.out.to (t' := t))
       clear x0 f0
       go_wp2
       exact ⟨⟨k + 1, by omega, by omega, by go_num, HE.out⟩, by simp [intOf]; omega⟩
     · clear x0 f0
       go_wp2
       go_ret2
       exact .inr ⟨by simpa using HN.out, rfl, HC.out⟩
theorem other_no (g : Nat) (line : Int) (l : List UInt8) (w : World) (h : Blk w g TCur #[.string ⟨l.toArray⟩, .int .i64 line]) (hno : ¬ ∃ els : Int, (1 ≤ els ∧ els ≤ 4) ∧ l = elseLine els) :
   Calls Tryz.prog 44 #[.pointer (some ⟨g, 0, none⟩)] w (Throws w g line) := by
 have C0 := Lib.hid (Cur.start h)
 have HN := Lib.hid hno
 have x0 := (show w.cell? ⟨g, 0, none⟩ = some (Value.string ⟨l.toArray⟩) from h.cell 0); have z0 := h.frozen 0
 clear h hno
 go_enter Tryz.func44, Tryz.ntmps44
 go_wp2_with fail
 by_cases hs : ∃ t : List UInt8, l = [101, 108, 115, 101, 32] ++ t
 · obtain ⟨t, hs⟩ := hs
   have HS := Lib.hid hs
   refine (skip_yes ⟨l.toArray⟩ ⟨#[101, 108, 115, 101, 32]⟩ t g 0 w x0 z0 hs).mono ?_; rintro e w1 ⟨rfl, rfl⟩
   have C1 := Lib.hid (C0.out.to (t' := t))
   obtain ⟨W1, hW1⟩ : ∃ W, W = w.setCell ⟨g, 0, none⟩ (.string ⟨t.toArray⟩) := ⟨_, rfl⟩
   rw [← hW1] at C1 ⊢
   clear hW1 x0 z0 hs
   go_wp2_with fail
   refine (need_yes _ _).mono ?_; rintro e wn ⟨rfl, rfl⟩
   go_wp2_with fail
   refine (verdict_any g line t W1 C1.out.blk).mono ?_; rintro e w2 (⟨v, r, hv, ht, rfl, hc2⟩ | ⟨-, rfl, hc2⟩)
   · have C2 := Lib.hid (C1.out.trans hc2)
     have x2 := (show w2.cell? ⟨g, 0, none⟩ = some (Value.string ⟨r.toArray⟩) from hc2.blk.cell 0)
     have hr : r ≠ [] := fun e => HN.out ⟨v, hv, by rw [HS.out, ht, e, List.append_nil]; rfl⟩
     have hre : (⟨r.toArray⟩ : ByteArray).data.toList.isEmpty = false := by
       cases r with
       | nil => exact absurd rfl hr
       | cons a b => rfl
     clear hc2 hr
     go_wp2_with fail
     refine (doneC_any ⟨r.toArray⟩ g 0 w2 x2).mono ?_; rintro e w3 ⟨rfl, rfl⟩
     rw [hre]
     clear x2 hre
     go_wp2_with fail
     refine (need_no g line _ _ C2.out.blk).mono ?_; rintro e w4 ⟨rfl, hb⟩
     go_wp2
     exact ⟨rfl, rfl, C2.out.throws hb⟩
   · have C2 := Lib.hid (C1.out.trans hc2)
     clear hc2
     go_wp2_with fail
     refine (need_no g line _ _ C2.out.blk).mono ?_; rintro e w4 ⟨rfl, hb⟩
     go_wp2
     exact ⟨rfl, rfl, C2.out.throws hb⟩
 · refine (skip_no ⟨l.toArray⟩ ⟨#[101, 108, 115, 101, 32]⟩ g 0 w x0 z0 hs).mono ?_; rintro e w1 ⟨rfl, rfl⟩
   have C1 := Lib.hid (C0.out.to (t' := l))
   obtain ⟨W1, hW1⟩ : ∃ W, W = w.setCell ⟨g, 0, none⟩ (.string ⟨l.toArray⟩) := ⟨_, rfl⟩
   rw [← hW1] at C1 ⊢
   clear hW1 x0 z0 hs
   go_wp2_with fail
   refine (need_no g line _ _ C1.out.blk).mono ?_; rintro e w4 ⟨rfl, hb⟩
   go_wp2
   exact ⟨rfl, rfl, C1.out.throws hb⟩
end Go.Proofs.YtdjgicapbpoigaaGreatDoor

-- impl's cursor on a text that is no test: it throws its line.
namespace Go.Proofs.YtdjgicapbpoigaaGreatDoor
open Go.RowKit
set_option linter.unusedSimpArgs false
set_option linter.unusedVariables false

theorem TS.throws {w wr w' : World} {g tb : Nat} {line : Int} {t : List UInt8} {a b c d : Int} (h : TS w wr g tb line t a b c d) (hb : Below wr.heap.size wr w') : w.grownBy w' (some g) := h.cur.throws hb
set_option maxHeartbeats 8000000 in
theorem test_no (g : Nat) (line : Int) (l : List UInt8) (w : World) (h : Blk w g TCur #[.string ⟨l.toArray⟩, .int .i64 line]) (hl : l.length ≤ 2000) (hno : ¬ ∃ (t : Ts) (r : List UInt8), testOkB t = true ∧ l = testText t ++ r ∧ noDig r) :
   Calls Tryz.prog 77 #[.pointer (some ⟨g, 0, none⟩)] w (Throws w g line) := by
 have HN := Lib.hid hno
 have HL := Lib.hid hl
 have hglt := h.lt
 obtain ⟨W1, hW1⟩ : ∃ W, W = w.alloc (.cells #[.int .i64 0, .int .i64 0, .int .i64 0, .int .i64 0] TTest) := ⟨_, rfl⟩
 have bW : Hid (Below w.heap.size w W1) := by rw [hW1]; exact Lib.hid (by go_grown)
 have K1 : Hid (Blk W1 w.heap.size TTest #[.int .i64 0, .int .i64 0, .int .i64 0, .int .i64 0]) := by rw [hW1]; exact Lib.hid (Blk.new _ _ _)
 have HW1 := Lib.hid hW1
 have C0 := Lib.hid ((Cur.start h).next bW.out)
 have x0 := (show _ = some (Value.string ⟨l.toArray⟩) from C0.out.blk.cell 0); have z0 := C0.out.blk.frozen 0
 clear h hl hno hW1
 go_enter Tryz.func77, Tryz.ntmps77
 go_wp2_with fail
 rw [← HW1.out]
 by_cases hs : ∃ t : List UInt8, l = [32, 97] ++ t
 case neg =>
   refine (skip_no ⟨l.toArray⟩ ⟨#[32, 97]⟩ g 0 W1 x0 z0 hs).mono ?_; rintro e w1 ⟨rfl, rfl⟩
   have C1 := Lib.hid (C0.out.to (t' := l))
   obtain ⟨W2, hW2⟩ : ∃ W, W = W1.setCell ⟨g, 0, none⟩ (.string ⟨l.toArray⟩) := ⟨_, rfl⟩
   rw [← hW2] at C1 ⊢
   clear hW2 x0 z0
   go_wp2_with fail
   refine (need_no g line _ _ C1.out.blk).mono ?_; rintro e w4 ⟨rfl, hb⟩
   go_wp2
   exact ⟨rfl, rfl, C1.out.throws hb⟩
 obtain ⟨l1, hs⟩ := hs
 have HS := Lib.hid hs
 refine (skip_yes ⟨l.toArray⟩ ⟨#[32, 97]⟩ l1 g 0 W1 x0 z0 hs).mono ?_; rintro e w1 ⟨rfl, rfl⟩
 have hl1 : l1.length ≤ 2000 := by have := HL.out; rw [hs] at this; simp at this; omega
 have HL1 := Lib.hid hl1
 have C1 := Lib.hid (C0.out.to (t' := l1))
 have K2 := Lib.hid (K1.out.far (p := ⟨g, 0, none⟩) (show w.heap.size ≠ g by omega) (.string ⟨l1.toArray⟩))
 obtain ⟨W2, hW2⟩ : ∃ W, W = W1.setCell ⟨g, 0, none⟩ (.string ⟨l1.toArray⟩) := ⟨_, rfl⟩
 rw [← hW2] at C1 K2 ⊢
 clear hW2 x0 z0 hs hl1
 go_wp2_with fail
 refine (need_yes _ _).mono ?_; rintro e w2 ⟨rfl, rfl⟩
 go_wp2_with fail
 refine (word_any g line l1 W2 C1.out.blk (by have := HL1.out; omega)).mono ?_; rintro e w3 (⟨fd, r1, hn1, rfl, rfl⟩ | ⟨rfl, hg3⟩)
 case inr =>
   have HG := Lib.hid (C1.out.grown.trans hg3)
   clear hg3
   go_wp2
   exact ⟨rfl, rfl, HG.out⟩
 have HN1 := Lib.hid hn1
 have hr1 : r1.length ≤ 2000 := by have := HL1.out; rw [hn1.2.1] at this; simp at this; omega
 have HLR1 := Lib.hid hr1
 have C2 := Lib.hid (C1.out.to (t' := r1))
 have K3 := Lib.hid (K2.out.far (p := ⟨g, 0, none⟩) (show w.heap.size ≠ g by omega) (.string ⟨r1.toArray⟩))
 obtain ⟨W3, hW3⟩ : ∃ W, W = W2.setCell ⟨g, 0, none⟩ (.string ⟨r1.toArray⟩) := ⟨_, rfl⟩
 rw [← hW3] at C2 K3 ⊢
 clear hW3 C0 C1 K1 K2 hn1 hr1
 go_wp2_with fail
 obtain ⟨W4, hW4⟩ : ∃ W, W = W3.alloc (.cells #[.int .i64 fd, .int .i64 4294967295, .int .i64 0, .int .i64 0] TTest) := ⟨_, rfl⟩
 obtain ⟨tb, htb⟩ : ∃ tb, tb = W3.heap.size := ⟨_, rfl⟩
 have S4 : Hid (TS w W4 g tb line r1 fd 4294967295 0 0) := by
   have b4 : Below W3.heap.size W3 W4 := by rw [hW4]; go_grown
   refine Lib.hid ⟨C2.out.next b4, by rw [hW4, htb]; exact Blk.new _ _ _, K3.out.below b4 K3.out.lt, hglt, by rw [htb]; exact K3.out.lt⟩
 rw [← htb]
 rw [← hW4]
 clear hW4 htb
 have x4 := (show _ = some (Value.string ⟨r1.toArray⟩) from S4.out.cur.blk.cell 0); have z4 := S4.out.cur.blk.frozen 0
 by_cases hm : ∃ t : List UInt8, r1 = [38] ++ t
 · obtain ⟨l2, hm⟩ := hm
   have HM := Lib.hid hm
   refine (skip_yes ⟨r1.toArray⟩ ⟨#[38]⟩ l2 g 0 W4 x4 z4 hm).mono ?_; rintro e w5 ⟨rfl, rfl⟩
   have hl2 : l2.length ≤ 2000 := by have := HLR1.out; rw [hm] at this; simp at this; omega
   have HL2 := Lib.hid hl2
   have S4b := Lib.hid (S4.out.to (t' := l2))
   obtain ⟨W4b, hW4b⟩ : ∃ W, W = W4.setCell ⟨g, 0, none⟩ (.string ⟨l2.toArray⟩) := ⟨_, rfl⟩
   rw [← hW4b] at S4b ⊢
   clear hW4b x4 z4 S4 hm hl2
   go_wp2_with fail
   refine (word_any g line l2 W4b S4b.out.cur.blk (by have := HL2.out; omega)).mono ?_; rintro e w6 (⟨mk, r2, hn2, rfl, rfl⟩ | ⟨rfl, hg6⟩)
   case inr =>
     have HG := Lib.hid (S4b.out.cur.grown.trans hg6)
     clear hg6
     go_wp2
     exact ⟨rfl, rfl, HG.out⟩
   have HN2 := Lib.hid hn2
   have hr2 : r2.length ≤ 2000 := by have := HL2.out; rw [hn2.2.1] at this; simp at this; omega
   have HLR2 := Lib.hid hr2
   have S4c := Lib.hid (S4b.out.to (t' := r2))
   obtain ⟨W4c, hW4c⟩ : ∃ W, W = W4b.setCell ⟨g, 0, none⟩ (.string ⟨r2.toArray⟩) := ⟨_, rfl⟩
   rw [← hW4c] at S4c ⊢
   clear hW4c hn2 hr2
   have S5 := Lib.hid (S4c.out.set 1 mk fd mk 0 0 rfl)
   have y1 := (show _ = some (Value.int .i64 4294967295) from S4c.out.test.cell 1); have zz1 := S4c.out.test.frozen 1
   obtain ⟨W5, hW5⟩ : ∃ W, W = W4c.setCell ⟨tb, 1, none⟩ (.int .i64 mk) := ⟨_, rfl⟩
   rw [← hW5] at S5
   have HW5 := Lib.hid hW5
   have y1' := (show W5.cell? ⟨tb, 1, none⟩ = some (Value.int .i64 mk) from S5.out.test.cell 1)
   clear hW5
   by_cases hmx : mk = 4294967295
   case pos =>
     have hmd : (mk != 4294967295) = false := by simpa using hmx
     clear hmx
     go_wp2_with (first | rw [← HW5.out] | (go_at_call 42; refine (need_no g line _ _ S5.out.cur.blk).mono ?_; rintro e w7 ⟨rfl, hb⟩; have HG := Lib.hid (S5.out.throws hb); clear hb))
     exact ⟨rfl, rfl, HG.out⟩
   have hmd : (mk != 4294967295) = true := by simpa using hmx
   go_wp2_with (first | rw [← HW5.out] | (go_at_call 42; refine (need_yes _ _).mono ?_; rintro e w7 ⟨rfl, rfl⟩))
   have HAF : Hid (∀ (k v : Int) (rr r : List UInt8), r2 = signNm k ++ rr → NumAt 4294967295 rr v r → l = testText ⟨fd, mk, k, v⟩ ++ r) := Lib.hid (fun k v rr r h1 h2 => by
     rw [HS.out, HN1.out.2.1, HM.out, HN2.out.2.1, h1, h2.2.1]
     simp [testText, maskText, hmx])
   clear y1 zz1 y1' S4b S4c hmx
   go_loopw [4] (fun i wr => ∃ k : Int, 1 ≤ k ∧ k ≤ 4 ∧ i = .int .i64 k ∧ Hid (TS w wr g tb line r2 fd mk 0 0)) (fun i _ => (4 - intOf i).toNat)
   case atStart => exact ⟨1, by omega, by omega, rfl, S5⟩
   case round =>
     obtain ⟨k, hk1, hk2, rfl, HSR⟩ := hrel
     by_cases hk3 : k ≤ 3
     case neg =>
       have y2 := (show _ = some (Value.int .i64 0) from HSR.out.test.cell 2)
       clear S5
       go_wp2_with (go_at_call 42; refine (need_no g line _ _ HSR.out.cur.blk).mono ?_; rintro e w7 ⟨rfl, hb⟩; have HG := Lib.hid (HSR.out.throws hb); clear hb)
       exact ⟨rfl, rfl, HG.out⟩
     by_cases hko : ∃ t : List UInt8, r2 = signNm k ++ t
     · obtain ⟨r3, hko⟩ := hko
       have HKO := Lib.hid hko
       have hr3 : r3.length ≤ 2000 := by have := HLR2.out; rw [hko] at this; simp at this; omega
       have HLR3 := Lib.hid hr3
       clear hko hr3
       go_wp2_with fail
       refine wp_region_rel (signT g k true) (fun _ => none) (fun L _ w' => (L 5 = false → TS w w' g tb line r2 fd mk 0 0) ∧ (L 5 = true → TS w w' g tb line r3 fd mk 0 0)) (fun _ _ _ => True) (by kernel_rfl) (by kernel_rfl) ⟨fun _ => HSR.out.next (Below.refl _ _).drew, fun h => by cases h⟩ (fun _ j _ _ _ _ _ _ _ hT => signT_keep j hT) ?_
       refine wpRel_step [] (by kernel_rfl) (fun L kk w9 vals hk hw hun hcl hdl hT => ?_) ?_
       · have HW := Lib.hid hw; have HUN := Lib.hid hun; have HCL := Lib.hid hcl
         clear hw hun hcl hdl hT
         simp only [fillR, Act.put, List.setIfInBounds_toArray, List.set_cons_succ, List.set_cons_zero]
         go_wp2
         exact ⟨_, rfl, rfl, ⟨fun h => HW.out.1 ((putL_ne (by decide)).symm.trans h), fun h => HW.out.2 ((putL_ne (by decide)).symm.trans h)⟩, trivial, fun _ => rfl⟩
       refine wpRel_step [30] (by kernel_rfl) (fun L kk w9 vals hk hw hun hcl hdl hT => ?_) ?_
       · have t0 := hT 0 30 (by kernel_rfl) (.inl rfl)
         have HW := Lib.hid hw; have HUN := Lib.hid hun; have HCL := Lib.hid hcl
         clear hw hun hcl hdl hT
         simp only [fillR, Act.put, List.setIfInBounds_toArray, List.set_cons_succ, List.set_cons_zero]
         rw [show vals 30 = Value.pointer (some ⟨g, 0, none⟩) from t0]
         clear t0
         go_wp2
         exact ⟨_, rfl, rfl, ⟨fun h => HW.out.1 ((putL_ne (by decide)).symm.trans h), fun h => HW.out.2 ((putL_ne (by decide)).symm.trans h)⟩, trivial, fun _ => rfl⟩
       refine wpRel_step [31] (by kernel_rfl) (fun L kk w9 vals hk hw hun hcl hdl hT => ?_) ?_
       · have t0 := hT 1 31 (by kernel_rfl) (.inl rfl)
         have HW := Lib.hid hw; have HUN := Lib.hid hun; have HCL := Lib.hid hcl
         clear hw hun hcl hdl hT
         simp only [fillR, Act.put, List.setIfInBounds_toArray, List.set_cons_succ, List.set_cons_zero]
         rw [show vals 31 = Value.pointer (some ⟨g, 0, none⟩) from t0]
         clear t0
         go_wp2
         exact ⟨_, rfl, rfl, ⟨fun h => HW.out.1 ((putL_ne (by decide)).symm.trans h), fun h => HW.out.2 ((putL_ne (by decide)).symm.trans h)⟩, trivial, fun _ => rfl⟩
       refine wpRel_step [] (by kernel_rfl) (fun L kk w9 vals hk hw hun hcl hdl hT => ?_) ?_
       · have HW := Lib.hid hw; have HUN := Lib.hid hun; have HCL := Lib.hid hcl
         clear hw hun hcl hdl hT
         simp only [fillR, Act.put, List.setIfInBounds_toArray, List.set_cons_succ, List.set_cons_zero]
         go_wp2
         exact ⟨_, rfl, rfl, ⟨fun h => HW.out.1 ((putL_ne (by decide)).symm.trans h), fun h => HW.out.2 ((putL_ne (by decide)).symm.trans h)⟩, trivial, fun _ => rfl⟩
       refine wpRel_step [33] (by kernel_rfl) (fun L kk w9 vals hk hw hun hcl hdl hT => ?_) ?_
       · have t0 := hT 3 33 (by kernel_rfl) (.inl rfl)
         have HW := Lib.hid hw; have HUN := Lib.hid hun; have HCL := Lib.hid hcl
         clear hw hun hcl hdl hT
         simp only [fillR, Act.put, List.setIfInBounds_toArray, List.set_cons_succ, List.set_cons_zero]
         rw [show vals 33 = Value.int .i64 k from t0]
         clear t0
         go_wp2_with (go_at_call 114; refine (sign_any k _).mono ?_; rintro e w8 ⟨rfl, rfl⟩)
         exact ⟨_, rfl, rfl, ⟨fun h => HW.out.1 ((putL_ne (by decide)).symm.trans h), fun h => HW.out.2 ((putL_ne (by decide)).symm.trans h)⟩, trivial, fun _ => rfl⟩
       refine wpRel_step [32, 34] (by kernel_rfl) (fun L kk w9 vals hk hw hun hcl hdl hT => ?_) ?_
       · have t0 := hT 2 32 (by kernel_rfl) (.inl rfl)
         have t1 := hT 4 34 (by kernel_rfl) (.inl rfl)
         have HW := Lib.hid hw; have HUN := Lib.hid hun; have HCL := Lib.hid hcl
         clear hw hun hcl hdl hT
         simp only [fillR, Act.put, List.setIfInBounds_toArray, List.set_cons_succ, List.set_cons_zero]
         rw [show vals 32 = Value.pointer (some ⟨g, 0, none⟩) from t0]
         rw [show vals 34 = Value.string ⟨(signNm k).toArray⟩ from t1]
         clear t0 t1
         have HT := Lib.hid (HW.out.1 HUN.out)
         have y0 := (show _ = some (Value.string ⟨r2.toArray⟩) from HT.out.cur.blk.cell 0); have q0 := HT.out.cur.blk.frozen 0
         have HT2 := Lib.hid (HT.out.to (t' := r3))
         go_wp2_with (go_at_call 75; refine (skip_yes ⟨r2.toArray⟩ ⟨(signNm k).toArray⟩ r3 g 0 w9 y0 q0 HKO.out).mono ?_; rintro e w8 ⟨rfl, rfl⟩)
         exact ⟨_, rfl, rfl, ⟨fun h => by simp [putL] at h, fun _ => HT2.out⟩, trivial, fun _ => rfl⟩
       refine wpRel_end [30, 31, 32, 33, 34, 35] (by kernel_rfl) (fun L w9 vals hl hw hT => ?_)
       have t0 := hT 0 30 (by kernel_rfl) rfl; have t1 := hT 1 31 (by kernel_rfl) rfl; have t2 := hT 2 32 (by kernel_rfl) rfl; have t3 := hT 3 33 (by kernel_rfl) rfl; have t4 := hT 4 34 (by kernel_rfl) rfl; have t5 := hT 5 35 (by kernel_rfl) rfl
       have S6 := Lib.hid (hw.2 (hl 5 (by decide)))
       simp only [fillR, Act.put, List.setIfInBounds_toArray, List.set_cons_succ, List.set_cons_zero]
       rw [show vals 30 = Value.pointer (some ⟨g, 0, none⟩) from t0, show vals 31 = Value.pointer (some ⟨g, 0, none⟩) from t1, show vals 32 = Value.pointer (some ⟨g, 0, none⟩) from t2, show vals 33 = Value.int .i64 k from t3, show vals 34 = Value.string ⟨(signNm k).toArray⟩ from t4, show vals 35 = Value.bool true from t5]
       clear t0 t1 t2 t3 t4 t5 hl hw hT
       have S7 := Lib.hid (S6.out.set 2 k fd mk k 0 rfl)
       have y2 := (show _ = some (Value.int .i64 0) from S6.out.test.cell 2); have q2 := S6.out.test.frozen 2
       have hk0 : (k != 0) = true := by simp; omega
       obtain ⟨W6, hW6⟩ : ∃ W, W = w9.setCell ⟨tb, 2, none⟩ (.int .i64 k) := ⟨_, rfl⟩
       rw [← hW6] at S7
       have y3 := (show W6.cell? ⟨tb, 2, none⟩ = some (Value.int .i64 k) from S7.out.test.cell 2)
       have HW6 := Lib.hid hW6
       clear hW6
       go_wp2_with (rw [← HW6.out])
       refine (need_yes _ _).mono ?_; rintro e wn ⟨rfl, rfl⟩
       go_wp2_with fail
       refine (word_any g line r3 W6 S7.out.cur.blk (by have := HLR3.out; omega)).mono ?_; rintro e wn (⟨vl, r4, hn4, rfl, rfl⟩ | ⟨rfl, hg6⟩)
       case inr =>
         have HG := Lib.hid (S7.out.cur.grown.trans hg6)
         clear hg6
         go_wp2
         exact ⟨rfl, rfl, HG.out⟩
       have HBAD : Hid (testOkB ⟨fd, mk, k, vl⟩ = false) := Lib.hid (by
         cases hb : testOkB ⟨fd, mk, k, vl⟩ with
         | false => rfl
         | true => exact absurd ⟨_, r4, hb, HAF.out k vl r3 r4 HKO.out hn4, hn4.2.2⟩ HN.out)
       have S8 := Lib.hid (S7.out.to (t' := r4))
       obtain ⟨W7, hW7⟩ : ∃ W, W = W6.setCell ⟨g, 0, none⟩ (.string ⟨r4.toArray⟩) := ⟨_, rfl⟩
       rw [← hW7] at S8 ⊢
       clear hW7 y2 q2 y3 hn4
       have S9 := Lib.hid (S8.out.set 3 vl fd mk k vl rfl)
       have y3 := (show _ = some (Value.int .i64 0) from S8.out.test.cell 3); have q3 := S8.out.test.frozen 3
       obtain ⟨W8, hW8⟩ : ∃ W, W = W7.setCell ⟨tb, 3, none⟩ (.int .i64 vl) := ⟨_, rfl⟩
       rw [← hW8] at S9
       have HW8 := Lib.hid hW8
       have t0 := (show W8.cell? ⟨tb, 0, none⟩ = some (Value.int .i64 fd) from S9.out.test.cell 0); have t1 := (show W8.cell? ⟨tb, 1, none⟩ = some (Value.int .i64 mk) from S9.out.test.cell 1); have t2 := (show W8.cell? ⟨tb, 2, none⟩ = some (Value.int .i64 k) from S9.out.test.cell 2); have t3 := (show W8.cell? ⟨tb, 3, none⟩ = some (Value.int .i64 vl) from S9.out.test.cell 3)
       clear hW8
       go_wp2_with (rw [← HW8.out])
       refine (testOk_any ⟨fd, mk, k, vl⟩ _).mono ?_; rintro e w12 ⟨rfl, hb12⟩
       rw [HBAD.out]
       have S10 := Lib.hid (S9.out.next hb12)
       clear hb12 t0 t1 t2 t3 y3 q3 S5
       go_wp2_with fail
       refine (need_no g line _ _ S10.out.cur.blk).mono ?_; rintro e w13 ⟨rfl, hb⟩
       have HG := Lib.hid (S10.out.throws hb)
       clear hb
       go_wp2
       exact ⟨rfl, rfl, HG.out⟩
     · go_wp2_with fail
       refine wp_region_rel (signT g k false) (fun _ => none) (fun L _ w' => (L 5 = false → TS w w' g tb line r2 fd mk 0 0) ∧ (L 5 = true → TS w w' g tb line r2 fd mk 0 0)) (fun _ _ _ => True) (by kernel_rfl) (by kernel_rfl) ⟨fun _ => HSR.out.next (Below.refl _ _).drew, fun h => by cases h⟩ (fun _ j _ _ _ _ _ _ _ hT => signT_keep j hT) ?_
       refine wpRel_step [] (by kernel_rfl) (fun L kk w9 vals hk hw hun hcl hdl hT => ?_) ?_
       · have HW := Lib.hid hw; have HUN := Lib.hid hun; have HCL := Lib.hid hcl
         clear hw hun hcl hdl hT
         simp only [fillR, Act.put, List.setIfInBounds_toArray, List.set_cons_succ, List.set_cons_zero]
         go_wp2
         exact ⟨_, rfl, rfl, ⟨fun h => HW.out.1 ((putL_ne (by decide)).symm.trans h), fun h => HW.out.2 ((putL_ne (by decide)).symm.trans h)⟩, trivial, fun _ => rfl⟩
       refine wpRel_step [30] (by kernel_rfl) (fun L kk w9 vals hk hw hun hcl hdl hT => ?_) ?_
       · have t0 := hT 0 30 (by kernel_rfl) (.inl rfl)
         have HW := Lib.hid hw; have HUN := Lib.hid hun; have HCL := Lib.hid hcl
         clear hw hun hcl hdl hT
         simp only [fillR, Act.put, List.setIfInBounds_toArray, List.set_cons_succ, List.set_cons_zero]
         rw [show vals 30 = Value.pointer (some ⟨g, 0, none⟩) from t0]
         clear t0
         go_wp2
         exact ⟨_, rfl, rfl, ⟨fun h => HW.out.1 ((putL_ne (by decide)).symm.trans h), fun h => HW.out.2 ((putL_ne (by decide)).symm.trans h)⟩, trivial, fun _ => rfl⟩
       refine wpRel_step [31] (by kernel_rfl) (fun L kk w9 vals hk hw hun hcl hdl hT => ?_) ?_
       · have t0 := hT 1 31 (by kernel_rfl) (.inl rfl)
         have HW := Lib.hid hw; have HUN := Lib.hid hun; have HCL := Lib.hid hcl
         clear hw hun hcl hdl hT
         simp only [fillR, Act.put, List.setIfInBounds_toArray, List.set_cons_succ, List.set_cons_zero]
         rw [show vals 31 = Value.pointer (some ⟨g, 0, none⟩) from t0]
         clear t0
         go_wp2
         exact ⟨_, rfl, rfl, ⟨fun h => HW.out.1 ((putL_ne (by decide)).symm.trans h), fun h => HW.out.2 ((putL_ne (by decide)).symm.trans h)⟩, trivial, fun _ => rfl⟩
       refine wpRel_step [] (by kernel_rfl) (fun L kk w9 vals hk hw hun hcl hdl hT => ?_) ?_
       · have HW := Lib.hid hw; have HUN := Lib.hid hun; have HCL := Lib.hid hcl
         clear hw hun hcl hdl hT
         simp only [fillR, Act.put, List.setIfInBounds_toArray, List.set_cons_succ, List.set_cons_zero]
         go_wp2
         exact ⟨_, rfl, rfl, ⟨fun h => HW.out.1 ((putL_ne (by decide)).symm.trans h), fun h => HW.out.2 ((putL_ne (by decide)).symm.trans h)⟩, trivial, fun _ => rfl⟩
       refine wpRel_step [33] (by kernel_rfl) (fun L kk w9 vals hk hw hun hcl hdl hT => ?_) ?_
       · have t0 := hT 3 33 (by kernel_rfl) (.inl rfl)
         have HW := Lib.hid hw; have HUN := Lib.hid hun; have HCL := Lib.hid hcl
         clear hw hun hcl hdl hT
         simp only [fillR, Act.put, List.setIfInBounds_toArray, List.set_cons_succ, List.set_cons_zero]
         rw [show vals 33 = Value.int .i64 k from t0]
         clear t0
         go_wp2_with (go_at_call 114; refine (sign_any k _).mono ?_; rintro e w8 ⟨rfl, rfl⟩)
         exact ⟨_, rfl, rfl, ⟨fun h => HW.out.1 ((putL_ne (by decide)).symm.trans h), fun h => HW.out.2 ((putL_ne (by decide)).symm.trans h)⟩, trivial, fun _ => rfl⟩
       refine wpRel_step [32, 34] (by kernel_rfl) (fun L kk w9 vals hk hw hun hcl hdl hT => ?_) ?_
       · have t0 := hT 2 32 (by kernel_rfl) (.inl rfl)
         have t1 := hT 4 34 (by kernel_rfl) (.inl rfl)
         have HW := Lib.hid hw; have HUN := Lib.hid hun; have HCL := Lib.hid hcl
         clear hw hun hcl hdl hT
         simp only [fillR, Act.put, List.setIfInBounds_toArray, List.set_cons_succ, List.set_cons_zero]
         rw [show vals 32 = Value.pointer (some ⟨g, 0, none⟩) from t0]
         rw [show vals 34 = Value.string ⟨(signNm k).toArray⟩ from t1]
         clear t0 t1
         have HT := Lib.hid (HW.out.1 HUN.out)
         have y0 := (show _ = some (Value.string ⟨r2.toArray⟩) from HT.out.cur.blk.cell 0); have q0 := HT.out.cur.blk.frozen 0
         have HT2 := Lib.hid (HT.out.to (t' := r2))
         go_wp2_with (go_at_call 75; refine (skip_no ⟨r2.toArray⟩ ⟨(signNm k).toArray⟩ g 0 w9 y0 q0 hko).mono ?_; rintro e w8 ⟨rfl, rfl⟩)
         exact ⟨_, rfl, rfl, ⟨fun h => by simp [putL] at h, fun _ => HT2.out⟩, trivial, fun _ => rfl⟩
       refine wpRel_end [30, 31, 32, 33, 34, 35] (by kernel_rfl) (fun L w9 vals hl hw hT => ?_)
       have t0 := hT 0 30 (by kernel_rfl) rfl; have t1 := hT 1 31 (by kernel_rfl) rfl; have t2 := hT 2 32 (by kernel_rfl) rfl; have t3 := hT 3 33 (by kernel_rfl) rfl; have t4 := hT 4 34 (by kernel_rfl) rfl; have t5 := hT 5 35 (by kernel_rfl) rfl
       have S6 := Lib.hid (hw.2 (hl 5 (by decide)))
       simp only [fillR, Act.put, List.setIfInBounds_toArray, List.set_cons_succ, List.set_cons_zero]
       rw [show vals 30 = Value.pointer (some ⟨g, 0, none⟩) from t0, show vals 31 = Value.pointer (some ⟨g, 0, none⟩) from t1, show vals 32 = Value.pointer (some ⟨g, 0, none⟩) from t2, show vals 33 = Value.int .i64 k from t3, show vals 34 = Value.string ⟨(signNm k).toArray⟩ from t4, show vals 35 = Value.bool false from t5]
       clear t0 t1 t2 t3 t4 t5 hl hw hT
       clear S5
       go_wp2
       exact ⟨⟨k + 1, by omega, by omega, by go_num, S6⟩, by simp [intOf]; omega⟩
 · refine (skip_no ⟨r1.toArray⟩ ⟨#[38]⟩ g 0 W4 x4 z4 hm).mono ?_; rintro e w5 ⟨rfl, rfl⟩
   have HAF : Hid (∀ (k v : Int) (rr r : List UInt8), r1 = signNm k ++ rr → NumAt 4294967295 rr v r → l = testText ⟨fd, 4294967295, k, v⟩ ++ r) := Lib.hid (fun k v rr r h1 h2 => by
     rw [HS.out, HN1.out.2.1, h1, h2.2.1]
     simp [testText, maskText])
   have S5 := Lib.hid (S4.out.to (t' := r1))
   obtain ⟨W5, hW5⟩ : ∃ W, W = W4.setCell ⟨g, 0, none⟩ (.string ⟨r1.toArray⟩) := ⟨_, rfl⟩
   rw [← hW5] at S5 ⊢
   clear hW5 x4 z4 S4 hm
   go_wp2_with fail
   go_loopw [4] (fun i wr => ∃ k : Int, 1 ≤ k ∧ k ≤ 4 ∧ i = .int .i64 k ∧ Hid (TS w wr g tb line r1 fd 4294967295 0 0)) (fun i _ => (4 - intOf i).toNat)
   case atStart => exact ⟨1, by omega, by omega, rfl, S5⟩
   case round =>
     obtain ⟨k, hk1, hk2, rfl, HSR⟩ := hrel
     by_cases hk3 : k ≤ 3
     case neg =>
       have y2 := (show _ = some (Value.int .i64 0) from HSR.out.test.cell 2)
       clear S5
       go_wp2_with (go_at_call 42; refine (need_no g line _ _ HSR.out.cur.blk).mono ?_; rintro e w7 ⟨rfl, hb⟩; have HG := Lib.hid (HSR.out.throws hb); clear hb)
       exact ⟨rfl, rfl, HG.out⟩
     by_cases hko : ∃ t : List UInt8, r1 = signNm k ++ t
     · obtain ⟨r3, hko⟩ := hko
       have HKO := Lib.hid hko
       have hr3 : r3.length ≤ 2000 := by have := HLR1.out; rw [hko] at this; simp at this; omega
       have HLR3 := Lib.hid hr3
       clear hko hr3
       go_wp2_with fail
       refine wp_region_rel (signT g k true) (fun _ => none) (fun L _ w' => (L 5 = false → TS w w' g tb line r1 fd 4294967295 0 0) ∧ (L 5 = true → TS w w' g tb line r3 fd 4294967295 0 0)) (fun _ _ _ => True) (by kernel_rfl) (by kernel_rfl) ⟨fun _ => HSR.out.next (Below.refl _ _).drew, fun h => by cases h⟩ (fun _ j _ _ _ _ _ _ _ hT => signT_keep j hT) ?_
       refine wpRel_step [] (by kernel_rfl) (fun L kk w9 vals hk hw hun hcl hdl hT => ?_) ?_
       · have HW := Lib.hid hw; have HUN := Lib.hid hun; have HCL := Lib.hid hcl
         clear hw hun hcl hdl hT
         simp only [fillR, Act.put, List.setIfInBounds_toArray, List.set_cons_succ, List.set_cons_zero]
         go_wp2
         exact ⟨_, rfl, rfl, ⟨fun h => HW.out.1 ((putL_ne (by decide)).symm.trans h), fun h => HW.out.2 ((putL_ne (by decide)).symm.trans h)⟩, trivial, fun _ => rfl⟩
       refine wpRel_step [30] (by kernel_rfl) (fun L kk w9 vals hk hw hun hcl hdl hT => ?_) ?_
       · have t0 := hT 0 30 (by kernel_rfl) (.inl rfl)
         have HW := Lib.hid hw; have HUN := Lib.hid hun; have HCL := Lib.hid hcl
         clear hw hun hcl hdl hT
         simp only [fillR, Act.put, List.setIfInBounds_toArray, List.set_cons_succ, List.set_cons_zero]
         rw [show vals 30 = Value.pointer (some ⟨g, 0, none⟩) from t0]
         clear t0
         go_wp2
         exact ⟨_, rfl, rfl, ⟨fun h => HW.out.1 ((putL_ne (by decide)).symm.trans h), fun h => HW.out.2 ((putL_ne (by decide)).symm.trans h)⟩, trivial, fun _ => rfl⟩
       refine wpRel_step [31] (by kernel_rfl) (fun L kk w9 vals hk hw hun hcl hdl hT => ?_) ?_
       · have t0 := hT 1 31 (by kernel_rfl) (.inl rfl)
         have HW := Lib.hid hw; have HUN := Lib.hid hun; have HCL := Lib.hid hcl
         clear hw hun hcl hdl hT
         simp only [fillR, Act.put, List.setIfInBounds_toArray, List.set_cons_succ, List.set_cons_zero]
         rw [show vals 31 = Value.pointer (some ⟨g, 0, none⟩) from t0]
         clear t0
         go_wp2
         exact ⟨_, rfl, rfl, ⟨fun h => HW.out.1 ((putL_ne (by decide)).symm.trans h), fun h => HW.out.2 ((putL_ne (by decide)).symm.trans h)⟩, trivial, fun _ => rfl⟩
       refine wpRel_step [] (by kernel_rfl) (fun L kk w9 vals hk hw hun hcl hdl hT => ?_) ?_
       · have HW := Lib.hid hw; have HUN := Lib.hid hun; have HCL := Lib.hid hcl
         clear hw hun hcl hdl hT
         simp only [fillR, Act.put, List.setIfInBounds_toArray, List.set_cons_succ, List.set_cons_zero]
         go_wp2
         exact ⟨_, rfl, rfl, ⟨fun h => HW.out.1 ((putL_ne (by decide)).symm.trans h), fun h => HW.out.2 ((putL_ne (by decide)).symm.trans h)⟩, trivial, fun _ => rfl⟩
       refine wpRel_step [33] (by kernel_rfl) (fun L kk w9 vals hk hw hun hcl hdl hT => ?_) ?_
       · have t0 := hT 3 33 (by kernel_rfl) (.inl rfl)
         have HW := Lib.hid hw; have HUN := Lib.hid hun; have HCL := Lib.hid hcl
         clear hw hun hcl hdl hT
         simp only [fillR, Act.put, List.setIfInBounds_toArray, List.set_cons_succ, List.set_cons_zero]
         rw [show vals 33 = Value.int .i64 k from t0]
         clear t0
         go_wp2_with (go_at_call 114; refine (sign_any k _).mono ?_; rintro e w8 ⟨rfl, rfl⟩)
         exact ⟨_, rfl, rfl, ⟨fun h => HW.out.1 ((putL_ne (by decide)).symm.trans h), fun h => HW.out.2 ((putL_ne (by decide)).symm.trans h)⟩, trivial, fun _ => rfl⟩
       refine wpRel_step [32, 34] (by kernel_rfl) (fun L kk w9 vals hk hw hun hcl hdl hT => ?_) ?_
       · have t0 := hT 2 32 (by kernel_rfl) (.inl rfl)
         have t1 := hT 4 34 (by kernel_rfl) (.inl rfl)
         have HW := Lib.hid hw; have HUN := Lib.hid hun; have HCL := Lib.hid hcl
         clear hw hun hcl hdl hT
         simp only [fillR, Act.put, List.setIfInBounds_toArray, List.set_cons_succ, List.set_cons_zero]
         rw [show vals 32 = Value.pointer (some ⟨g, 0, none⟩) from t0]
         rw [show vals 34 = Value.string ⟨(signNm k).toArray⟩ from t1]
         clear t0 t1
         have HT := Lib.hid (HW.out.1 HUN.out)
         have y0 := (show _ = some (Value.string ⟨r1.toArray⟩) from HT.out.cur.blk.cell 0); have q0 := HT.out.cur.blk.frozen 0
         have HT2 := Lib.hid (HT.out.to (t' := r3))
         go_wp2_with (go_at_call 75; refine (skip_yes ⟨r1.toArray⟩ ⟨(signNm k).toArray⟩ r3 g 0 w9 y0 q0 HKO.out).mono ?_; rintro e w8 ⟨rfl, rfl⟩)
         exact ⟨_, rfl, rfl, ⟨fun h => by simp [putL] at h, fun _ => HT2.out⟩, trivial, fun _ => rfl⟩
       refine wpRel_end [30, 31, 32, 33, 34, 35] (by kernel_rfl) (fun L w9 vals hl hw hT => ?_)
       have t0 := hT 0 30 (by kernel_rfl) rfl; have t1 := hT 1 31 (by kernel_rfl) rfl; have t2 := hT 2 32 (by kernel_rfl) rfl; have t3 := hT 3 33 (by kernel_rfl) rfl; have t4 := hT 4 34 (by kernel_rfl) rfl; have t5 := hT 5 35 (by kernel_rfl) rfl
       have S6 := Lib.hid (hw.2 (hl 5 (by decide)))
       simp only [fillR, Act.put, List.setIfInBounds_toArray, List.set_cons_succ, List.set_cons_zero]
       rw [show vals 30 = Value.pointer (some ⟨g, 0, none⟩) from t0, show vals 31 = Value.pointer (some ⟨g, 0, none⟩) from t1, show vals 32 = Value.pointer (some ⟨g, 0, none⟩) from t2, show vals 33 = Value.int .i64 k from t3, show vals 34 = Value.string ⟨(signNm k).toArray⟩ from t4, show vals 35 = Value.bool true from t5]
       clear t0 t1 t2 t3 t4 t5 hl hw hT
       have S7 := Lib.hid (S6.out.set 2 k fd 4294967295 k 0 rfl)
       have y2 := (show _ = some (Value.int .i64 0) from S6.out.test.cell 2); have q2 := S6.out.test.frozen 2
       have hk0 : (k != 0) = true := by simp; omega
       obtain ⟨W6, hW6⟩ : ∃ W, W = w9.setCell ⟨tb, 2, none⟩ (.int .i64 k) := ⟨_, rfl⟩
       rw [← hW6] at S7
       have y3 := (show W6.cell? ⟨tb, 2, none⟩ = some (Value.int .i64 k) from S7.out.test.cell 2)
       have HW6 := Lib.hid hW6
       clear hW6
       go_wp2_with (rw [← HW6.out])
       refine (need_yes _ _).mono ?_; rintro e wn ⟨rfl, rfl⟩
       go_wp2_with fail
       refine (word_any g line r3 W6 S7.out.cur.blk (by have := HLR3.out; omega)).mono ?_; rintro e wn (⟨vl, r4, hn4, rfl, rfl⟩ | ⟨rfl, hg6⟩)
       case inr =>
         have HG := Lib.hid (S7.out.cur.grown.trans hg6)
         clear hg6
         go_wp2
         exact ⟨rfl, rfl, HG.out⟩
       have HBAD : Hid (testOkB ⟨fd, 4294967295, k, vl⟩ = false) := Lib.hid (by
         cases hb : testOkB ⟨fd, 4294967295, k, vl⟩ with
         | false => rfl
         | true => exact absurd ⟨_, r4, hb, HAF.out k vl r3 r4 HKO.out hn4, hn4.2.2⟩ HN.out)
       have S8 := Lib.hid (S7.out.to (t' := r4))
       obtain ⟨W7, hW7⟩ : ∃ W, W = W6.setCell ⟨g, 0, none⟩ (.string ⟨r4.toArray⟩) := ⟨_, rfl⟩
       rw [← hW7] at S8 ⊢
       clear hW7 y2 q2 y3 hn4
       have S9 := Lib.hid (S8.out.set 3 vl fd 4294967295 k vl rfl)
       have y3 := (show _ = some (Value.int .i64 0) from S8.out.test.cell 3); have q3 := S8.out.test.frozen 3
       obtain ⟨W8, hW8⟩ : ∃ W, W = W7.setCell ⟨tb, 3, none⟩ (.int .i64 vl) := ⟨_, rfl⟩
       rw [← hW8] at S9
       have HW8 := Lib.hid hW8
       have t0 := (show W8.cell? ⟨tb, 0, none⟩ = some (Value.int .i64 fd) from S9.out.test.cell 0); have t1 := (show W8.cell? ⟨tb, 1, none⟩ = some (Value.int .i64 4294967295) from S9.out.test.cell 1); have t2 := (show W8.cell? ⟨tb, 2, none⟩ = some (Value.int .i64 k) from S9.out.test.cell 2); have t3 := (show W8.cell? ⟨tb, 3, none⟩ = some (Value.int .i64 vl) from S9.out.test.cell 3)
       clear hW8
       go_wp2_with (rw [← HW8.out])
       refine (testOk_any ⟨fd, 4294967295, k, vl⟩ _).mono ?_; rintro e w12 ⟨rfl, hb12⟩
       rw [HBAD.out]
       have S10 := Lib.hid (S9.out.next hb12)
       clear hb12 t0 t1 t2 t3 y3 q3 S5
       go_wp2_with fail
       refine (need_no g line _ _ S10.out.cur.blk).mono ?_; rintro e w13 ⟨rfl, hb⟩
       have HG := Lib.hid (S10.out.throws hb)
       clear hb
       go_wp2
       exact ⟨rfl, rfl, HG.out⟩
     · go_wp2_with fail
       refine wp_region_rel (signT g k false) (fun _ => none) (fun L _ w' => (L 5 = false → TS w w' g tb line r1 fd 4294967295 0 0) ∧ (L 5 = true → TS w w' g tb line r1 fd 4294967295 0 0)) (fun _ _ _ => True) (by kernel_rfl) (by kernel_rfl) ⟨fun _ => HSR.out.next (Below.refl _ _).drew, fun h => by cases h⟩ (fun _ j _ _ _ _ _ _ _ hT => signT_keep j hT) ?_
       refine wpRel_step [] (by kernel_rfl) (fun L kk w9 vals hk hw hun hcl hdl hT => ?_) ?_
       · have HW := Lib.hid hw; have HUN := Lib.hid hun; have HCL := Lib.hid hcl
         clear hw hun hcl hdl hT
         simp only [fillR, Act.put, List.setIfInBounds_toArray, List.set_cons_succ, List.set_cons_zero]
         go_wp2
         exact ⟨_, rfl, rfl, ⟨fun h => HW.out.1 ((putL_ne (by decide)).symm.trans h), fun h => HW.out.2 ((putL_ne (by decide)).symm.trans h)⟩, trivial, fun _ => rfl⟩
       refine wpRel_step [30] (by kernel_rfl) (fun L kk w9 vals hk hw hun hcl hdl hT => ?_) ?_
       · have t0 := hT 0 30 (by kernel_rfl) (.inl rfl)
         have HW := Lib.hid hw; have HUN := Lib.hid hun; have HCL := Lib.hid hcl
         clear hw hun hcl hdl hT
         simp only [fillR, Act.put, List.setIfInBounds_toArray, List.set_cons_succ, List.set_cons_zero]
         rw [show vals 30 = Value.pointer (some ⟨g, 0, none⟩) from t0]
         clear t0
         go_wp2
         exact ⟨_, rfl, rfl, ⟨fun h => HW.out.1 ((putL_ne (by decide)).symm.trans h), fun h => HW.out.2 ((putL_ne (by decide)).symm.trans h)⟩, trivial, fun _ => rfl⟩
       refine wpRel_step [31] (by kernel_rfl) (fun L kk w9 vals hk hw hun hcl hdl hT => ?_) ?_
       · have t0 := hT 1 31 (by kernel_rfl) (.inl rfl)
         have HW := Lib.hid hw; have HUN := Lib.hid hun; have HCL := Lib.hid hcl
         clear hw hun hcl hdl hT
         simp only [fillR, Act.put, List.setIfInBounds_toArray, List.set_cons_succ, List.set_cons_zero]
         rw [show vals 31 = Value.pointer (some ⟨g, 0, none⟩) from t0]
         clear t0
         go_wp2
         exact ⟨_, rfl, rfl, ⟨fun h => HW.out.1 ((putL_ne (by decide)).symm.trans h), fun h => HW.out.2 ((putL_ne (by decide)).symm.trans h)⟩, trivial, fun _ => rfl⟩
       refine wpRel_step [] (by kernel_rfl) (fun L kk w9 vals hk hw hun hcl hdl hT => ?_) ?_
       · have HW := Lib.hid hw; have HUN := Lib.hid hun; have HCL := Lib.hid hcl
         clear hw hun hcl hdl hT
         simp only [fillR, Act.put, List.setIfInBounds_toArray, List.set_cons_succ, List.set_cons_zero]
         go_wp2
         exact ⟨_, rfl, rfl, ⟨fun h => HW.out.1 ((putL_ne (by decide)).symm.trans h), fun h => HW.out.2 ((putL_ne (by decide)).symm.trans h)⟩, trivial, fun _ => rfl⟩
       refine wpRel_step [33] (by kernel_rfl) (fun L kk w9 vals hk hw hun hcl hdl hT => ?_) ?_
       · have t0 := hT 3 33 (by kernel_rfl) (.inl rfl)
         have HW := Lib.hid hw; have HUN := Lib.hid hun; have HCL := Lib.hid hcl
         clear hw hun hcl hdl hT
         simp only [fillR, Act.put, List.setIfInBounds_toArray, List.set_cons_succ, List.set_cons_zero]
         rw [show vals 33 = Value.int .i64 k from t0]
         clear t0
         go_wp2_with (go_at_call 114; refine (sign_any k _).mono ?_; rintro e w8 ⟨rfl, rfl⟩)
         exact ⟨_, rfl, rfl, ⟨fun h => HW.out.1 ((putL_ne (by decide)).symm.trans h), fun h => HW.out.2 ((putL_ne (by decide)).symm.trans h)⟩, trivial, fun _ => rfl⟩
       refine wpRel_step [32, 34] (by kernel_rfl) (fun L kk w9 vals hk hw hun hcl hdl hT => ?_) ?_
       · have t0 := hT 2 32 (by kernel_rfl) (.inl rfl)
         have t1 := hT 4 34 (by kernel_rfl) (.inl rfl)
         have HW := Lib.hid hw; have HUN := Lib.hid hun; have HCL := Lib.hid hcl
         clear hw hun hcl hdl hT
         simp only [fillR, Act.put, List.setIfInBounds_toArray, List.set_cons_succ, List.set_cons_zero]
         rw [show vals 32 = Value.pointer (some ⟨g, 0, none⟩) from t0]
         rw [show vals 34 = Value.string ⟨(signNm k).toArray⟩ from t1]
         clear t0 t1
         have HT := Lib.hid (HW.out.1 HUN.out)
         have y0 := (show _ = some (Value.string ⟨r1.toArray⟩) from HT.out.cur.blk.cell 0); have q0 := HT.out.cur.blk.frozen 0
         have HT2 := Lib.hid (HT.out.to (t' := r1))
         go_wp2_with (go_at_call 75; refine (skip_no ⟨r1.toArray⟩ ⟨(signNm k).toArray⟩ g 0 w9 y0 q0 hko).mono ?_; rintro e w8 ⟨rfl, rfl⟩)
         exact ⟨_, rfl, rfl, ⟨fun h => by simp [putL] at h, fun _ => HT2.out⟩, trivial, fun _ => rfl⟩
       refine wpRel_end [30, 31, 32, 33, 34, 35] (by kernel_rfl) (fun L w9 vals hl hw hT => ?_)
       have t0 := hT 0 30 (by kernel_rfl) rfl; have t1 := hT 1 31 (by kernel_rfl) rfl; have t2 := hT 2 32 (by kernel_rfl) rfl; have t3 := hT 3 33 (by kernel_rfl) rfl; have t4 := hT 4 34 (by kernel_rfl) rfl; have t5 := hT 5 35 (by kernel_rfl) rfl
       have S6 := Lib.hid (hw.2 (hl 5 (by decide)))
       simp only [fillR, Act.put, List.setIfInBounds_toArray, List.set_cons_succ, List.set_cons_zero]
       rw [show vals 30 = Value.pointer (some ⟨g, 0, none⟩) from t0, show vals 31 = Value.pointer (some ⟨g, 0, none⟩) from t1, show vals 32 = Value.pointer (some ⟨g, 0, none⟩) from t2, show vals 33 = Value.int .i64 k from t3, show vals 34 = Value.string ⟨(signNm k).toArray⟩ from t4, show vals 35 = Value.bool false from t5]
       clear t0 t1 t2 t3 t4 t5 hl hw hT
       clear S5
       go_wp2
       exact ⟨⟨k + 1, by omega, by omega, by go_num, S6⟩, by simp [intOf]; omega⟩
end Go.Proofs.YtdjgicapbpoigaaGreatDoor

-- impl's cursor on a line that is no rule: it throws its line.
namespace Go.Proofs.YtdjgicapbpoigaaGreatDoor
open Go.RowKit
set_option linter.unusedSimpArgs false
set_option linter.unusedVariables false

theorem tsR_snocC (ts : List Ts) (t : Ts) : (tsR (ts ++ [t])).flatten = (tsR ts).flatten ++ tcells t := by
 simp [tsR, tcells]
 rfl
theorem RB.throws {w wr w' : World} {g rb : Nat} {line : Int} {t : List UInt8} {a b c : Int} {tv : Value} (h : RB w wr g rb line t a b c tv) (hb : Below wr.heap.size wr w') : w.grownBy w' (some g) := h.cur.throws hb
def noTC (g rb : Nat) : Nat → World → Value → Prop
 | 0, _, u => u = .pointer (some ⟨rb, 3, none⟩)
 | 2, _, u => u = .pointer (some ⟨g, 0, none⟩)
 | _, _, _ => True
theorem noTC_keep {g rb : Nat} (j : Nat) {w w' : World} {u : Value} (h : noTC g rb j w u) : noTC g rb j w' u := by
 unfold noTC at *
 split <;> simp_all
theorem rule_made {l base : List UInt8} {vd lo hi : Int} {ts : List Ts} (hl : l = verdNm vd ++ ([32] ++ (Lib.itoa lo ++ (highText lo hi ++ base)))) (hb : base = testsText ts ++ []) (hv : 1 ≤ vd ∧ vd ≤ 4) (hlo : 0 ≤ lo ∧ lo ≤ hi) (hhi : hi ≤ 4294967295) (hts : ∀ t ∈ ts, testOkB t = true) (h4 : ts.length ≤ 4) : ∃ r : Rl, ruleOkB r = true ∧ l = ruleLine r := by
 refine ⟨⟨vd, lo, hi, ts⟩, ?_, ?_⟩
 · unfold ruleOkB
   simp [inB, h4]
   refine ⟨⟨⟨⟨by omega, by omega⟩, by omega, by omega⟩, by omega, by omega⟩, hts⟩
 · rw [ruleLine_split, hl, hb, List.append_nil]
set_option maxHeartbeats 16000000 in
theorem rule_throws (g : Nat) (line : Int) (l : List UInt8) (w : World) (h : Blk w g TCur #[.string ⟨l.toArray⟩, .int .i64 line]) (hl : l.length ≤ 2000) (hno : ¬ ∃ r : Rl, ruleOkB r = true ∧ l = ruleLine r) :
   Calls Tryz.prog 43 #[.pointer (some ⟨g, 0, none⟩)] w (Throws w g line) := by
 have HN := Lib.hid hno
 have HL := Lib.hid hl
 have hglt := h.lt
 obtain ⟨W1, hW1⟩ : ∃ W, W = w.alloc (.cells #[.int .i64 0, .int .i64 0, .int .i64 0, .slice none 0 0] TRulC) := ⟨_, rfl⟩
 have bW : Hid (Below w.heap.size w W1) := by rw [hW1]; exact Lib.hid (by go_grown)
 have K1 : Hid (Blk W1 w.heap.size TRulC #[.int .i64 0, .int .i64 0, .int .i64 0, .slice none 0 0]) := by rw [hW1]; exact Lib.hid (Blk.new _ _ _)
 have HW1 := Lib.hid hW1
 have C0 := Lib.hid ((Cur.start h).next bW.out)
 clear h hl hno hW1
 go_enter Tryz.func43, Tryz.ntmps43
 go_wp2_with fail
 rw [← HW1.out]
 refine (verdict_any g line l W1 C0.out.blk).mono ?_; rintro e w2 (⟨vd, l1, hv, hl1, rfl, hc2⟩ | ⟨-, rfl, hc2⟩)
 case inr =>
   have C2 := Lib.hid (C0.out.trans hc2)
   clear hc2
   go_wp2_with (go_at_call 42; refine (need_no g line _ _ C2.out.blk).mono ?_; rintro e w4 ⟨rfl, hb⟩; have HG := Lib.hid (C2.out.throws hb); clear hb)
   exact ⟨rfl, rfl, HG.out⟩
 have HV := Lib.hid hv; have HL1 := Lib.hid hl1
 have hll1 : l1.length ≤ 2000 := by have := HL.out; rw [hl1] at this; simp at this; omega
 have HLL1 := Lib.hid hll1
 have C2 := Lib.hid (C0.out.trans hc2)
 have K2 := Lib.hid (K1.out.grown hc2.grown (by intro e; cases e; omega))
 have x0 := (show w2.cell? ⟨g, 0, none⟩ = some (Value.string ⟨l1.toArray⟩) from hc2.blk.cell 0); have z0 := hc2.blk.frozen 0
 clear hc2 hv hl1 hll1
 go_wp2_with fail
 by_cases hsp : ∃ t : List UInt8, l1 = [32] ++ t
 case neg =>
   refine (skip_no ⟨l1.toArray⟩ ⟨#[32]⟩ g 0 w2 x0 z0 hsp).mono ?_; rintro e w3 ⟨rfl, rfl⟩
   have C3 := Lib.hid (C2.out.to (t' := l1))
   obtain ⟨W3, hW3⟩ : ∃ W, W = w2.setCell ⟨g, 0, none⟩ (.string ⟨l1.toArray⟩) := ⟨_, rfl⟩
   rw [← hW3] at C3 ⊢
   clear hW3 x0 z0
   go_wp2_with (go_at_call 42; refine (need_no g line _ _ C3.out.blk).mono ?_; rintro e w4 ⟨rfl, hb⟩; have HG := Lib.hid (C3.out.throws hb); clear hb)
   exact ⟨rfl, rfl, HG.out⟩
 obtain ⟨l2, hsp⟩ := hsp
 have HSP := Lib.hid hsp
 refine (skip_yes ⟨l1.toArray⟩ ⟨#[32]⟩ l2 g 0 w2 x0 z0 hsp).mono ?_; rintro e w3 ⟨rfl, rfl⟩
 have hll2 : l2.length ≤ 2000 := by have := HLL1.out; rw [hsp] at this; simp at this; omega
 have HLL2 := Lib.hid hll2
 have C3 := Lib.hid (C2.out.to (t' := l2))
 have K3 := Lib.hid (K2.out.far (p := ⟨g, 0, none⟩) (show w.heap.size ≠ g by omega) (.string ⟨l2.toArray⟩))
 obtain ⟨W3, hW3⟩ : ∃ W, W = w2.setCell ⟨g, 0, none⟩ (.string ⟨l2.toArray⟩) := ⟨_, rfl⟩
 rw [← hW3] at C3 K3 ⊢
 clear hW3 x0 z0 C2 K2 hsp hll2
 go_wp2_with fail
 refine (need_yes _ _).mono ?_; rintro e wn ⟨rfl, rfl⟩
 go_wp2_with fail
 refine (word_any g line l2 W3 C3.out.blk (by have := HLL2.out; omega)).mono ?_; rintro e w3 (⟨lo, t1, hn1, rfl, rfl⟩ | ⟨rfl, hg3⟩)
 case inr =>
   have HG := Lib.hid (C3.out.grown.trans hg3)
   clear hg3
   go_wp2
   exact ⟨rfl, rfl, HG.out⟩
 have HN1 := Lib.hid hn1
 have hll3 : t1.length ≤ 2000 := by have := HLL2.out; rw [hn1.2.1] at this; simp at this; omega
 have HLL3 := Lib.hid hll3
 have C4 := Lib.hid (C3.out.to (t' := t1))
 have K4 := Lib.hid (K3.out.far (p := ⟨g, 0, none⟩) (show w.heap.size ≠ g by omega) (.string ⟨t1.toArray⟩))
 obtain ⟨W4, hW4⟩ : ∃ W, W = W3.setCell ⟨g, 0, none⟩ (.string ⟨t1.toArray⟩) := ⟨_, rfl⟩
 rw [← hW4] at C4 K4 ⊢
 clear hW4 C3 K3 hn1 hll3
 go_wp2_with fail
 obtain ⟨W5, hW5⟩ : ∃ W, W = W4.alloc (.cells #[.int .i64 vd, .int .i64 lo, .int .i64 lo, .slice none 0 0] TRulC) := ⟨_, rfl⟩
 obtain ⟨rb, hrb⟩ : ∃ rb, rb = W4.heap.size := ⟨_, rfl⟩
 have S5 : Hid (RB w W5 g rb line t1 vd lo lo (.slice none 0 0)) := by
   have b5 : Below W4.heap.size W4 W5 := by rw [hW5]; go_grown
   exact Lib.hid ⟨C4.out.next b5, by rw [hW5, hrb]; exact Blk.new _ _ _, K4.out.below b5 K4.out.lt, hglt, by rw [hrb]; exact K4.out.lt⟩
 rw [← hrb]
 rw [← hW5]
 have hZ5 : rb + 1 ≤ W5.heap.size := S5.out.rule.lt
 clear hW5 hrb C4 K4
 have x5 := (show _ = some (Value.string ⟨t1.toArray⟩) from S5.out.cur.blk.cell 0); have z5 := S5.out.cur.blk.frozen 0
 by_cases hm : ∃ t : List UInt8, t1 = [45] ++ t
 · obtain ⟨l4, hm⟩ := hm
   have HM := Lib.hid hm
   refine (skip_yes ⟨t1.toArray⟩ ⟨#[45]⟩ l4 g 0 W5 x5 z5 hm).mono ?_; rintro e w6 ⟨rfl, rfl⟩
   have hll4 : l4.length ≤ 2000 := by have := HLL3.out; rw [hm] at this; simp at this; omega
   have HLL4 := Lib.hid hll4
   have S5b := Lib.hid (S5.out.to (t' := l4))
   obtain ⟨W5b, hW5b⟩ : ∃ W, W = W5.setCell ⟨g, 0, none⟩ (.string ⟨l4.toArray⟩) := ⟨_, rfl⟩
   have hZ5b : rb + 1 ≤ W5b.heap.size := by rw [hW5b]; simpa using hZ5
   rw [← hW5b] at S5b ⊢
   clear hW5b x5 z5 S5 hm hll4
   go_wp2_with fail
   refine (word_any g line l4 W5b S5b.out.cur.blk (by have := HLL4.out; omega)).mono ?_; rintro e w7 (⟨hi, base, hn2, rfl, rfl⟩ | ⟨rfl, hg3⟩)
   case inr =>
     have HG := Lib.hid (S5b.out.cur.grown.trans hg3)
     clear hg3
     go_wp2
     exact ⟨rfl, rfl, HG.out⟩
   have HN2 := Lib.hid hn2
   have hbl : base.length ≤ 2000 := by have := HLL4.out; rw [hn2.2.1] at this; simp at this; omega
   have HBL := Lib.hid hbl
   have S5c := Lib.hid (S5b.out.to (t' := base))
   obtain ⟨W5c, hW5c⟩ : ∃ W, W = W5b.setCell ⟨g, 0, none⟩ (.string ⟨base.toArray⟩) := ⟨_, rfl⟩
   have hZ5c : rb + 1 ≤ W5c.heap.size := by rw [hW5c]; simpa using hZ5b
   rw [← hW5c] at S5c ⊢
   clear hW5c hn2 hbl
   have S6 := Lib.hid (S5c.out.set (a' := vd) (b' := lo) (c' := hi) (tv' := .slice none 0 0) 2 (.int .i64 hi) rfl)
   have y2 := (show _ = some (Value.int .i64 lo) from S5c.out.rule.cell 2); have q2 := S5c.out.rule.frozen 2
   obtain ⟨W6, hW6⟩ : ∃ W, W = W5c.setCell ⟨rb, 2, none⟩ (.int .i64 hi) := ⟨_, rfl⟩
   have hZ6 : rb + 1 ≤ W6.heap.size := by rw [hW6]; simpa using hZ5c
   rw [← hW6] at S6
   have HW6 := Lib.hid hW6
   have y1' := (show W6.cell? ⟨rb, 1, none⟩ = some (Value.int .i64 lo) from S6.out.rule.cell 1); have y2' := (show W6.cell? ⟨rb, 2, none⟩ = some (Value.int .i64 hi) from S6.out.rule.cell 2)
   clear hW6
   by_cases hgt : lo < hi
   case neg =>
     have hgd : decide (lo < hi) = false := decide_eq_false hgt
     clear hgt
     go_wp2_with (first | rw [← HW6.out] | (go_at_call 42; refine (need_no g line _ _ S6.out.cur.blk).mono ?_; rintro e w7 ⟨rfl, hb⟩; have HG := Lib.hid (S6.out.throws hb); clear hb))
     exact ⟨rfl, rfl, HG.out⟩
   have HHL : Hid (l = verdNm vd ++ ([32] ++ (Lib.itoa lo ++ (highText lo hi ++ base)))) := Lib.hid (by
     rw [HL1.out, HSP.out, HN1.out.2.1, HM.out, HN2.out.2.1]
     unfold highText
     rw [if_neg (by omega)]
     simp)
   have HHI : Hid ((0 ≤ lo ∧ lo ≤ hi) ∧ hi ≤ 4294967295) := Lib.hid ⟨⟨HN1.out.1.1, by omega⟩, HN2.out.1.2⟩
   go_wp2_with (first | rw [← HW6.out] | (go_at_call 42; refine (need_yes _ _).mono ?_; rintro e w7 ⟨rfl, rfl⟩))
   clear y1' y2' y2 q2 hgt S5b S5c
   clear HN1 hZ5
   go_loopg [] (base.length) (fun gk wr => ∃ (k : Nat) (ts : List Ts) (tv : Value) (l' : List UInt8), gk = l'.length ∧ ts.length = k ∧ k ≤ 4 ∧ rb + 1 ≤ wr.heap.size ∧ Hid ((∀ t ∈ ts, testOkB t = true) ∧ base = testsText ts ++ l') ∧ Hid (RB w wr g rb line l' vd lo hi tv) ∧ Hid (wr.ownsRow (rb + 1) TTest 4 tv k (tsR ts).flatten))
   case atStart => exact ⟨0, [], _, base, rfl, rfl, by omega, hZ6, Lib.hid ⟨fun t h => (by cases h), rfl⟩, S6, Lib.hid (World.ownsRow_nil W6 (rb + 1) TTest 4)⟩
   case round =>
     obtain ⟨k, ts, tv, l', hgk, hkl, hk, hZ, HB, HS, HO⟩ := hrel
     have HGK := Lib.hid hgk
     clear hgk S6 hZ6
     have y0 := (show _ = some (Value.string ⟨l'.toArray⟩) from HS.out.cur.blk.cell 0)
     go_wp2_with fail
     refine (doneC_any ⟨l'.toArray⟩ g 0 wr y0).mono ?_; rintro e w8 ⟨rfl, rfl⟩
     obtain ⟨A, c, rfl⟩ : ∃ A c, tv = .slice A k c := by
       rcases HO.out.2 with ⟨rfl, h0⟩ | ⟨g', cap, cur, rfl, _⟩
       · exact ⟨none, 0, by rw [h0]⟩
       · exact ⟨_, _, rfl⟩
     have hle : l' ≠ [] := fun e => HN.out (rule_made HHL.out (by rw [HB.out.2, e]) HV.out HHI.out.1 HHI.out.2 HB.out.1 (by omega))
     rw [show (⟨l'.toArray⟩ : ByteArray).data.toList.isEmpty = false by cases l' with | nil => exact absurd rfl hle | cons a b => rfl]
     have HTL' := Lib.hid (show l'.length ≤ 2000 by have := HBL.out; rw [HB.out.2] at this; simp at this; omega)
     clear y0 hle
     have y3 := (show _ = some (Value.slice A k c) from HS.out.rule.cell 3)
     have HKL := Lib.hid hkl
     clear hkl
     by_cases hk4 : k < 4
     case neg =>
       have hk4d : decide ((k : Int) < 4) = false := decide_eq_false (by omega)
       go_wp2_with (go_at_call 42; refine (need_no g line _ _ HS.out.cur.blk).mono ?_; rintro e w7 ⟨rfl, hb⟩; have HG := Lib.hid (HS.out.throws hb); clear hb)
       exact ⟨rfl, rfl, HG.out⟩
     have hk4i : (k : Int) < 4 := by omega
     go_wp2_with fail
     refine (need_yes _ _).mono ?_; rintro e w8 ⟨rfl, rfl⟩
     go_wp2_with fail
     clear y3
     by_cases hfine : ∃ (t : Ts) (r : List UInt8), testOkB t = true ∧ l' = testText t ++ r ∧ noDig r
     · obtain ⟨t, rr, hto, hlt, hrd⟩ := hfine
       have HTO := Lib.hid hto; have HRD := Lib.hid hrd
       subst hlt
       have HTL := HTL'
       clear hto hrd
       refine wp_region_rel (appTC g rb k (.slice A k c) t ((tsR ts).flatten)) (fun j => if j = 4 then some 5 else none) (fun L _ w' => (L 3 = false → RB w w' g rb line (testText t ++ rr) vd lo hi (.slice A k c)) ∧ (L 3 = true → L 7 = false → RB w w' g rb line (rr) vd lo hi (.slice A k c)) ∧ (L 5 = false → w'.ownsRow (rb + 1) TTest 4 (.slice A k c) k ((tsR ts).flatten)) ∧ (L 7 = true → ∃ tv', RB w w' g rb line (rr) vd lo hi tv' ∧ w'.ownsRow (rb + 1) TTest 4 tv' (k + 1) ((tsR ts).flatten ++ tcells t)) ∧ rb + 1 ≤ w'.heap.size) (fun i w w' => appRC rb i w w') (by kernel_rfl) (by kernel_rfl) ⟨fun _ => HS.out.next (Below.refl _ _).drew, fun h => (by cases h), fun _ => HO.out, fun h => (by cases h), hZ⟩ ?_ ?_
       · intro i j wa wb u hji hcj hwj hR hT
         match j, hji, hcj, hwj, hT with
         | 0, _, _, _, h => exact h
         | 1, _, _, _, h => exact h
         | 2, _, _, _, h => exact h
         | 3, _, _, _, h => exact h
         | 4, h1, h2, h3, h =>
           obtain ⟨b, e, hb⟩ := h
           rcases hR with (rfl | rfl) | hR | ⟨x, cs, hcs, rfl⟩
           · exact (Bool.false_ne_true (h3.symm.trans (by kernel_rfl))).elim
           · exact absurd rfl h2
           · exact ⟨b, e, hb.below hR hb.lt⟩
           · exact ⟨b, e, hb.far (show b ≠ rb by intro e2; subst e2; have := hb.symm.trans hcs; injection this with e3; injection e3 with e4 e5; exact absurd e5 (by decide)) _⟩
         | 5, h1, h2, h3, h =>
           rcases hR with (rfl | rfl) | hR | ⟨x, cs, hcs, rfl⟩
           · exact (Bool.false_ne_true (h3.symm.trans (by kernel_rfl))).elim
           · exact absurd rfl h1
           · exact own_below h hR
           · exact own_lowset h (Nat.lt_succ_self rb)
         | 6, _, _, _, h => exact h
         | (m + 7), _, _, _, h => exact trivial
       refine wpRel_step [] (by kernel_rfl) (fun L kk w9 vals hk hw hun hcl hdl hT => ?_) ?_
       · have HW := Lib.hid hw; have HUN := Lib.hid hun; have HCL := Lib.hid hcl; have HDL := Lib.hid hdl
         clear hw hun hcl hdl hT
         simp only [fillR, Act.put, List.setIfInBounds_toArray, List.set_cons_succ, List.set_cons_zero]
         go_wp2
         exact ⟨_, rfl, rfl, ⟨fun h => HW.out.1 ((putL_ne (by decide)).symm.trans h), fun h h' => HW.out.2.1 ((putL_ne (by decide)).symm.trans h) ((putL_ne (by decide)).symm.trans h'), fun h => HW.out.2.2.1 ((putL_ne (by decide)).symm.trans h), fun h => HW.out.2.2.2.1 ((putL_ne (by decide)).symm.trans h), HW.out.2.2.2.2⟩, .inr (.inl (Below.refl _ _)), fun _ => rfl⟩
       refine wpRel_step [54] (by kernel_rfl) (fun L kk w9 vals hk hw hun hcl hdl hT => ?_) ?_
       · have t0 := hT 0 54 (by kernel_rfl) (.inl rfl)
         have HW := Lib.hid hw; have HUN := Lib.hid hun; have HCL := Lib.hid hcl; have HDL := Lib.hid hdl
         clear hw hun hcl hdl hT
         simp only [fillR, Act.put, List.setIfInBounds_toArray, List.set_cons_succ, List.set_cons_zero]
         rw [show vals 54 = Value.pointer (some ⟨rb, 3, none⟩) from t0]
         clear t0
         have hrule : Blk w9 rb TRulC #[.int .i64 vd, .int .i64 lo, .int .i64 hi, .slice A k c] := by
           have h7 : L 7 = false := HCL.out 7 (by kernel_rfl)
           cases h3 : L 3 with
           | false => exact (HW.out.1 h3).rule
           | true => exact (HW.out.2.1 h3 h7).rule
         have y3 := (show _ = some (Value.slice A k c) from hrule.cell 3)
         clear hrule
         go_wp2
         exact ⟨_, rfl, rfl, ⟨fun h => HW.out.1 ((putL_ne (by decide)).symm.trans h), fun h h' => HW.out.2.1 ((putL_ne (by decide)).symm.trans h) ((putL_ne (by decide)).symm.trans h'), fun h => HW.out.2.2.1 ((putL_ne (by decide)).symm.trans h), fun h => HW.out.2.2.2.1 ((putL_ne (by decide)).symm.trans h), HW.out.2.2.2.2⟩, .inr (.inl (Below.refl _ _)), fun _ => rfl⟩
       refine wpRel_step [] (by kernel_rfl) (fun L kk w9 vals hk hw hun hcl hdl hT => ?_) ?_
       · have HW := Lib.hid hw; have HUN := Lib.hid hun; have HCL := Lib.hid hcl; have HDL := Lib.hid hdl
         clear hw hun hcl hdl hT
         simp only [fillR, Act.put, List.setIfInBounds_toArray, List.set_cons_succ, List.set_cons_zero]
         go_wp2
         exact ⟨_, rfl, rfl, ⟨fun h => HW.out.1 ((putL_ne (by decide)).symm.trans h), fun h h' => HW.out.2.1 ((putL_ne (by decide)).symm.trans h) ((putL_ne (by decide)).symm.trans h'), fun h => HW.out.2.2.1 ((putL_ne (by decide)).symm.trans h), fun h => HW.out.2.2.2.1 ((putL_ne (by decide)).symm.trans h), HW.out.2.2.2.2⟩, .inr (.inl (Below.refl _ _)), fun _ => rfl⟩
       refine wpRel_step [56] (by kernel_rfl) (fun L kk w9 vals hk hw hun hcl hdl hT => ?_) ?_
       · have t0 := hT 2 56 (by kernel_rfl) (.inl rfl)
         have HW := Lib.hid hw; have HUN := Lib.hid hun; have HCL := Lib.hid hcl; have HDL := Lib.hid hdl
         clear hw hun hcl hdl hT
         simp only [fillR, Act.put, List.setIfInBounds_toArray, List.set_cons_succ, List.set_cons_zero]
         rw [show vals 56 = Value.pointer (some ⟨g, 0, none⟩) from t0]
         clear t0
         have HR0 := Lib.hid (HW.out.1 HUN.out)
         have h5 : L 5 = false := HCL.out 5 (by kernel_rfl)
         have h7 : L 7 = false := HCL.out 7 (by kernel_rfl)
         have HO0 := Lib.hid (HW.out.2.2.1 h5)
         go_wp2_with fail
         refine (test_yes g line t (rr) w9 HR0.out.cur.blk HTO.out HRD.out HTL.out).mono ?_; rintro e w10 ⟨rfl, hc10⟩
         have HR1 := Lib.hid (HR0.out.call hc10); have HO1 := Lib.hid (own_cur HO0.out hc10.grown (by have := HR0.out.lt; have := HR0.out.after; omega))
         have hz10 := hc10.grown.size
         have hzz := HW.out.2.2.2.2
         clear hc10
         go_wp2
         exact ⟨_, rfl, rfl, ⟨fun h => (by simp [putL] at h), fun _ _ => HR1.out, fun _ => HO1.out, fun h => (by rw [putL_ne (by decide), h7] at h; cases h), by omega⟩, .inl (.inl rfl), fun _ => rfl⟩
       refine wpRel_step [57] (by kernel_rfl) (fun L kk w9 vals hk hw hun hcl hdl hT => ?_) ?_
       · have t0 := hT 3 57 (by kernel_rfl) (.inl rfl)
         have HW := Lib.hid hw; have HUN := Lib.hid hun; have HCL := Lib.hid hcl; have HDL := Lib.hid hdl
         clear hw hun hcl hdl hT
         simp only [fillR, Act.put, List.setIfInBounds_toArray, List.set_cons_succ, List.set_cons_zero]
         rw [show vals 57 = Value.agg #[.int .i64 t.field, .int .i64 t.mask, .int .i64 t.op, .int .i64 t.value] from t0]
         clear t0
         have h3 : L 3 = true := HDL.out 3 (by kernel_rfl)
         have h5 : L 5 = false := HCL.out 5 (by kernel_rfl)
         have h7 : L 7 = false := HCL.out 7 (by kernel_rfl)
         have HR1 := Lib.hid (HW.out.2.1 h3 h7); have HO1 := Lib.hid (HW.out.2.2.1 h5)
         have hzz := HW.out.2.2.2.2
         go_wp2
         have hb : Below w9.heap.size w9 (w9.alloc (.cells (tcells t).toArray TTest)) := by go_grown
         exact ⟨_, rfl, rfl, ⟨fun h => (by rw [putL_ne (by decide), h3] at h; cases h), fun _ _ => HR1.out.next hb, fun _ => HO1.out.alloc _, fun h => (by rw [putL_ne (by decide), h7] at h; cases h), Nat.le_trans hzz (by simp)⟩, .inr (.inl hb), fun _ => ⟨w9.heap.size, rfl, Blk.new _ _ _⟩⟩
       refine wpRel_step [55, 58] (by kernel_rfl) (fun L kk w9 vals hk hw hun hcl hdl hT => ?_) ?_
       · have t0 := hT 1 55 (by kernel_rfl) (.inl rfl)
         have t1 := hT 4 58 (by kernel_rfl) (.inr rfl)
         have HW := Lib.hid hw; have HUN := Lib.hid hun; have HCL := Lib.hid hcl; have HDL := Lib.hid hdl
         clear hw hun hcl hdl hT
         simp only [fillR, Act.put, List.setIfInBounds_toArray, List.set_cons_succ, List.set_cons_zero]
         obtain ⟨b4, e4, hb4⟩ := t1
         have HB4 := Lib.hid hb4
         clear hb4
         rw [e4]
         rw [show vals 55 = Value.slice A k c from t0]
         clear t0
         have h3 : L 3 = true := HDL.out 3 (by kernel_rfl)
         have h7 : L 7 = false := HCL.out 7 (by kernel_rfl)
         have HR1 := Lib.hid (HW.out.2.1 h3 h7); have HO1 := Lib.hid (HW.out.2.2.1 HUN.out)
         have hzz := HW.out.2.2.2.2
         obtain ⟨i0, hi0, hz0, hz1, hz2⟩ := info_parts info_TestM
         go_wp2_with (at_builtin; go_must (refine wpList_append_own _ rfl (.tmp 55) (.tmp 58) _ rfl (rb + 1) TTest i0 _ 4 32 Tryz.underlying56 hi0 hz0 hz1 hz2 rfl (by omega) (.slice A k c) k ((tsR ts).flatten) rfl HO1.out ⟨b4, 0, none⟩ 1 1 (tcells t) rfl rfl (blk_flatC HB4.out) (tcells_one t) (by unfold maxLen; omega) (by omega) (by omega) ?_); intro v7 w7 hown7 hg7 _; have HO7 := Lib.hid hown7; have HG7 := Lib.hid hg7; clear hown7 hg7)
         have hb7 := own_gbC HO1.out HG7.out hzz
         exact ⟨_, rfl, rfl, ⟨fun h => (by rw [putL_ne (by decide), h3] at h; cases h), fun _ _ => HR1.out.below hb7 (by omega), fun h => (by simp [putL] at h), fun h => (by rw [putL_ne (by decide), h7] at h; cases h), by have := HG7.out.size; omega⟩, .inl (.inr rfl), fun _ => HO7.out⟩
       refine wpRel_step [] (by kernel_rfl) (fun L kk w9 vals hk hw hun hcl hdl hT => ?_) ?_
       · have HW := Lib.hid hw; have HUN := Lib.hid hun; have HCL := Lib.hid hcl; have HDL := Lib.hid hdl
         clear hw hun hcl hdl hT
         simp only [fillR, Act.put, List.setIfInBounds_toArray, List.set_cons_succ, List.set_cons_zero]
         go_wp2
         exact ⟨_, rfl, rfl, ⟨fun h => HW.out.1 ((putL_ne (by decide)).symm.trans h), fun h h' => HW.out.2.1 ((putL_ne (by decide)).symm.trans h) ((putL_ne (by decide)).symm.trans h'), fun h => HW.out.2.2.1 ((putL_ne (by decide)).symm.trans h), fun h => HW.out.2.2.2.1 ((putL_ne (by decide)).symm.trans h), HW.out.2.2.2.2⟩, .inr (.inl (Below.refl _ _)), fun _ => rfl⟩
       refine wpRel_step [60, 59] (by kernel_rfl) (fun L kk w9 vals hk hw hun hcl hdl hT => ?_) ?_
       · have t0 := hT 6 60 (by kernel_rfl) (.inl rfl)
         have t1 := hT 5 59 (by kernel_rfl) (.inl rfl)
         have HW := Lib.hid hw; have HUN := Lib.hid hun; have HCL := Lib.hid hcl; have HDL := Lib.hid hdl
         clear hw hun hcl hdl hT
         simp only [fillR, Act.put, List.setIfInBounds_toArray, List.set_cons_succ, List.set_cons_zero]
         have HT5 := Lib.hid (show w9.ownsRow (rb + 1) TTest 4 (vals 59) (k + 1) ((tsR ts).flatten ++ tcells t) from t1)
         obtain ⟨u5, hu5⟩ : ∃ u, u = vals 59 := ⟨_, rfl⟩
         rw [← hu5] at HT5 ⊢
         clear hu5 t1
         obtain ⟨b5, c5, rfl, hb5, hb5'⟩ := HT5.out.form (by omega)
         rw [show vals 60 = Value.pointer (some ⟨rb, 3, none⟩) from t0]
         clear t0
         have h3 : L 3 = true := HDL.out 3 (by kernel_rfl)
         have HR1 := Lib.hid (HW.out.2.1 h3 HUN.out)
         have hzz := HW.out.2.2.2.2
         have y3 := (show _ = some (Value.slice A k c) from HR1.out.rule.cell 3); have q3 := HR1.out.rule.frozen 3
         have HR2 := Lib.hid (HR1.out.set (a' := vd) (b' := lo) (c' := hi) (tv' := .slice (some ⟨b5, 0, none⟩) (k + 1) c5) 3 (.slice (some ⟨b5, 0, none⟩) (k + 1) c5) rfl); have HO2 := Lib.hid (own_lowset (i := 3) (x := .slice (some ⟨b5, 0, none⟩) (k + 1) c5) HT5.out (Nat.lt_succ_self rb))
         go_wp2
         exact ⟨undef, rfl, rfl, ⟨fun h => (by rw [putL_ne (by decide), h3] at h; cases h), fun _ h => (by simp [putL] at h), fun h => (by rw [putL_ne (by decide), HDL.out 5 (by kernel_rfl)] at h; cases h), fun _ => ⟨_, HR2.out, HO2.out⟩, by simpa using hzz⟩, .inr (.inr ⟨_, _, HR1.out.rule, rfl⟩), fun h => absurd rfl h⟩
       refine wpRel_end [54, 55, 56, 57, 58, 59, 60] (by kernel_rfl) (fun L w9 vals hl hw hT => ?_)
       obtain ⟨tv', hS9, hO9⟩ := hw.2.2.2.1 (hl 7 (by decide))
       have hZ9 := hw.2.2.2.2
       rw [← tsR_snocC] at hO9
       have HS9 := Lib.hid hS9; have HO9 := Lib.hid hO9
       clear hl hw hT hS9 hO9
       simp only [fillR, Act.put, List.setIfInBounds_toArray, List.set_cons_succ, List.set_cons_zero]
       go_wp2
       go_roundg (rr.length)
       case measure => have := HGK.out; have h34 : 0 < (testText t).length := by simp [testText]
                       simp at this; omega
       case rel => exact ⟨k + 1, ts ++ [t], tv', rr, rfl, by simp; have := HKL.out; omega, by omega, hZ9, Lib.hid ⟨fun x hx => by
         rcases List.mem_append.1 hx with hx | hx
         · exact HB.out.1 x hx
         · rw [List.mem_singleton.1 hx]; exact HTO.out, by rw [HB.out.2]; simp [testsText]⟩, HS9, HO9⟩
     · have HTL := HTL'
       refine wp_region_relP (fun c w' => c = faultP line ∧ w.grownBy w' (some g)) (noTC g rb) (fun _ => none) (fun L _ w' => L 3 = false ∧ L 4 = false ∧ L 5 = false ∧ RB w w' g rb line l' vd lo hi (.slice A k c)) (fun _ _ _ => True) (fun c a' w' hd _ hx => ⟨hd, congrArg Ending.panicked hx.1, hx.2⟩) (by kernel_rfl) (by kernel_rfl) ⟨rfl, rfl, rfl, HS.out.next (Below.refl _ _).drew⟩ (fun _ j _ _ _ _ _ _ _ hT => noTC_keep j hT) ?_
       refine wpRelP_step [] (by kernel_rfl) (fun L kk w9 vals hk hw hun hcl hdl hT => ?_) ?_
       · have HW := Lib.hid hw
         clear hw hun hcl hdl hT
         simp only [fillR, Act.put, List.setIfInBounds_toArray, List.set_cons_succ, List.set_cons_zero]
         go_wp2
         exact ⟨_, rfl, rfl, ⟨(putL_ne (by decide)).trans HW.out.1, (putL_ne (by decide)).trans HW.out.2.1, (putL_ne (by decide)).trans HW.out.2.2.1, HW.out.2.2.2⟩, trivial, fun _ => rfl⟩
       refine wpRelP_step [54] (by kernel_rfl) (fun L kk w9 vals hk hw hun hcl hdl hT => ?_) ?_
       · have t0 := hT 0 54 (by kernel_rfl) (.inl rfl)
         have HW := Lib.hid hw
         clear hw hun hcl hdl hT
         simp only [fillR, Act.put, List.setIfInBounds_toArray, List.set_cons_succ, List.set_cons_zero]
         rw [show vals 54 = Value.pointer (some ⟨rb, 3, none⟩) from t0]
         clear t0
         have y3 := (show _ = some (Value.slice A k c) from HW.out.2.2.2.rule.cell 3)
         go_wp2
         exact ⟨_, rfl, rfl, ⟨(putL_ne (by decide)).trans HW.out.1, (putL_ne (by decide)).trans HW.out.2.1, (putL_ne (by decide)).trans HW.out.2.2.1, HW.out.2.2.2⟩, trivial, fun _ => trivial⟩
       refine wpRelP_step [] (by kernel_rfl) (fun L kk w9 vals hk hw hun hcl hdl hT => ?_) ?_
       · have HW := Lib.hid hw
         clear hw hun hcl hdl hT
         simp only [fillR, Act.put, List.setIfInBounds_toArray, List.set_cons_succ, List.set_cons_zero]
         go_wp2
         exact ⟨_, rfl, rfl, ⟨(putL_ne (by decide)).trans HW.out.1, (putL_ne (by decide)).trans HW.out.2.1, (putL_ne (by decide)).trans HW.out.2.2.1, HW.out.2.2.2⟩, trivial, fun _ => rfl⟩
       refine wpRelP_step [56] (by kernel_rfl) (fun L kk w9 vals hk hw hun hcl hdl hT => ?_) ?_
       · have t0 := hT 2 56 (by kernel_rfl) (.inl rfl)
         have HW := Lib.hid hw
         clear hw hun hcl hdl hT
         simp only [fillR, Act.put, List.setIfInBounds_toArray, List.set_cons_succ, List.set_cons_zero]
         rw [show vals 56 = Value.pointer (some ⟨g, 0, none⟩) from t0]
         clear t0
         go_wp2_with fail
         refine (test_no g line l' w9 HW.out.2.2.2.cur.blk HTL.out hfine).mono ?_; rintro e w10 ⟨rfl, hg10⟩
         have HG := Lib.hid (HW.out.2.2.2.cur.grown.trans hg10)
         clear hg10
         go_wp2
         exact ⟨rfl, HG.out⟩
       refine wpRelP_step [57] (by kernel_rfl) (fun L kk w9 vals hk hw hun hcl hdl hT => ?_) ?_
       · exact absurd (hdl 3 (by kernel_rfl)) (by simp [hw.1, hw.2.1, hw.2.2.1])
       refine wpRelP_step [55, 58] (by kernel_rfl) (fun L kk w9 vals hk hw hun hcl hdl hT => ?_) ?_
       · exact absurd (hdl 4 (by kernel_rfl)) (by simp [hw.1, hw.2.1, hw.2.2.1])
       refine wpRelP_step [] (by kernel_rfl) (fun L kk w9 vals hk hw hun hcl hdl hT => ?_) ?_
       · have HW := Lib.hid hw
         clear hw hun hcl hdl hT
         simp only [fillR, Act.put, List.setIfInBounds_toArray, List.set_cons_succ, List.set_cons_zero]
         go_wp2
         exact ⟨_, rfl, rfl, ⟨(putL_ne (by decide)).trans HW.out.1, (putL_ne (by decide)).trans HW.out.2.1, (putL_ne (by decide)).trans HW.out.2.2.1, HW.out.2.2.2⟩, trivial, fun _ => trivial⟩
       refine wpRelP_step [60, 59] (by kernel_rfl) (fun L kk w9 vals hk hw hun hcl hdl hT => ?_) ?_
       · exact absurd (hdl 5 (by kernel_rfl)) (by simp [hw.1, hw.2.1, hw.2.2.1])
       refine wpRelP_end [54, 55, 56, 57, 58, 59, 60] (by kernel_rfl) (fun L w9 vals hl hw hT => ?_)
       exact absurd (hl 3 (by decide)) (by simp [hw.1])
 · refine (skip_no ⟨t1.toArray⟩ ⟨#[45]⟩ g 0 W5 x5 z5 hm).mono ?_; rintro e w6 ⟨rfl, rfl⟩
   obtain ⟨hi, hhi⟩ : ∃ hi, hi = lo := ⟨_, rfl⟩
   obtain ⟨base, hbase⟩ : ∃ base, base = t1 := ⟨_, rfl⟩
   have HBL : Hid (base.length ≤ 2000) := Lib.hid (by rw [hbase]; exact HLL3.out)
   have HHL : Hid (l = verdNm vd ++ ([32] ++ (Lib.itoa lo ++ (highText lo hi ++ base)))) := Lib.hid (by
     rw [HL1.out, HSP.out, HN1.out.2.1, hhi, hbase]
     unfold highText
     rw [if_pos rfl]
     simp)
   have HHI : Hid ((0 ≤ lo ∧ lo ≤ hi) ∧ hi ≤ 4294967295) := Lib.hid ⟨⟨HN1.out.1.1, by omega⟩, by rw [hhi]; exact HN1.out.1.2⟩
   have S6 : Hid (RB w (W5.setCell ⟨g, 0, none⟩ (.string ⟨t1.toArray⟩)) g rb line base vd lo hi (.slice none 0 0)) := Lib.hid (by have h6 := S5.out.to (t' := t1); rw [hhi, hbase]; exact h6)
   obtain ⟨W6, hW6⟩ : ∃ W, W = W5.setCell ⟨g, 0, none⟩ (.string ⟨t1.toArray⟩) := ⟨_, rfl⟩
   have hZ6 : rb + 1 ≤ W6.heap.size := by rw [hW6]; simpa using hZ5
   rw [← hW6] at S6 ⊢
   clear hW6 x5 z5 S5 hm hhi hbase
   go_wp2_with fail
   clear HN1 hZ5
   go_loopg [] (base.length) (fun gk wr => ∃ (k : Nat) (ts : List Ts) (tv : Value) (l' : List UInt8), gk = l'.length ∧ ts.length = k ∧ k ≤ 4 ∧ rb + 1 ≤ wr.heap.size ∧ Hid ((∀ t ∈ ts, testOkB t = true) ∧ base = testsText ts ++ l') ∧ Hid (RB w wr g rb line l' vd lo hi tv) ∧ Hid (wr.ownsRow (rb + 1) TTest 4 tv k (tsR ts).flatten))
   case atStart => exact ⟨0, [], _, base, rfl, rfl, by omega, hZ6, Lib.hid ⟨fun t h => (by cases h), rfl⟩, S6, Lib.hid (World.ownsRow_nil W6 (rb + 1) TTest 4)⟩
   case round =>
     obtain ⟨k, ts, tv, l', hgk, hkl, hk, hZ, HB, HS, HO⟩ := hrel
     have HGK := Lib.hid hgk
     clear hgk S6 hZ6
     have y0 := (show _ = some (Value.string ⟨l'.toArray⟩) from HS.out.cur.blk.cell 0)
     go_wp2_with fail
     refine (doneC_any ⟨l'.toArray⟩ g 0 wr y0).mono ?_; rintro e w8 ⟨rfl, rfl⟩
     obtain ⟨A, c, rfl⟩ : ∃ A c, tv = .slice A k c := by
       rcases HO.out.2 with ⟨rfl, h0⟩ | ⟨g', cap, cur, rfl, _⟩
       · exact ⟨none, 0, by rw [h0]⟩
       · exact ⟨_, _, rfl⟩
     have hle : l' ≠ [] := fun e => HN.out (rule_made HHL.out (by rw [HB.out.2, e]) HV.out HHI.out.1 HHI.out.2 HB.out.1 (by omega))
     rw [show (⟨l'.toArray⟩ : ByteArray).data.toList.isEmpty = false by cases l' with | nil => exact absurd rfl hle | cons a b => rfl]
     have HTL' := Lib.hid (show l'.length ≤ 2000 by have := HBL.out; rw [HB.out.2] at this; simp at this; omega)
     clear y0 hle
     have y3 := (show _ = some (Value.slice A k c) from HS.out.rule.cell 3)
     have HKL := Lib.hid hkl
     clear hkl
     by_cases hk4 : k < 4
     case neg =>
       have hk4d : decide ((k : Int) < 4) = false := decide_eq_false (by omega)
       go_wp2_with (go_at_call 42; refine (need_no g line _ _ HS.out.cur.blk).mono ?_; rintro e w7 ⟨rfl, hb⟩; have HG := Lib.hid (HS.out.throws hb); clear hb)
       exact ⟨rfl, rfl, HG.out⟩
     have hk4i : (k : Int) < 4 := by omega
     go_wp2_with fail
     refine (need_yes _ _).mono ?_; rintro e w8 ⟨rfl, rfl⟩
     go_wp2_with fail
     clear y3
     by_cases hfine : ∃ (t : Ts) (r : List UInt8), testOkB t = true ∧ l' = testText t ++ r ∧ noDig r
     · obtain ⟨t, rr, hto, hlt, hrd⟩ := hfine
       have HTO := Lib.hid hto; have HRD := Lib.hid hrd
       subst hlt
       have HTL := HTL'
       clear hto hrd
       refine wp_region_rel (appTC g rb k (.slice A k c) t ((tsR ts).flatten)) (fun j => if j = 4 then some 5 else none) (fun L _ w' => (L 3 = false → RB w w' g rb line (testText t ++ rr) vd lo hi (.slice A k c)) ∧ (L 3 = true → L 7 = false → RB w w' g rb line (rr) vd lo hi (.slice A k c)) ∧ (L 5 = false → w'.ownsRow (rb + 1) TTest 4 (.slice A k c) k ((tsR ts).flatten)) ∧ (L 7 = true → ∃ tv', RB w w' g rb line (rr) vd lo hi tv' ∧ w'.ownsRow (rb + 1) TTest 4 tv' (k + 1) ((tsR ts).flatten ++ tcells t)) ∧ rb + 1 ≤ w'.heap.size) (fun i w w' => appRC rb i w w') (by kernel_rfl) (by kernel_rfl) ⟨fun _ => HS.out.next (Below.refl _ _).drew, fun h => (by cases h), fun _ => HO.out, fun h => (by cases h), hZ⟩ ?_ ?_
       · intro i j wa wb u hji hcj hwj hR hT
         match j, hji, hcj, hwj, hT with
         | 0, _, _, _, h => exact h
         | 1, _, _, _, h => exact h
         | 2, _, _, _, h => exact h
         | 3, _, _, _, h => exact h
         | 4, h1, h2, h3, h =>
           obtain ⟨b, e, hb⟩ := h
           rcases hR with (rfl | rfl) | hR | ⟨x, cs, hcs, rfl⟩
           · exact (Bool.false_ne_true (h3.symm.trans (by kernel_rfl))).elim
           · exact absurd rfl h2
           · exact ⟨b, e, hb.below hR hb.lt⟩
           · exact ⟨b, e, hb.far (show b ≠ rb by intro e2; subst e2; have := hb.symm.trans hcs; injection this with e3; injection e3 with e4 e5; exact absurd e5 (by decide)) _⟩
         | 5, h1, h2, h3, h =>
           rcases hR with (rfl | rfl) | hR | ⟨x, cs, hcs, rfl⟩
           · exact (Bool.false_ne_true (h3.symm.trans (by kernel_rfl))).elim
           · exact absurd rfl h1
           · exact own_below h hR
           · exact own_lowset h (Nat.lt_succ_self rb)
         | 6, _, _, _, h => exact h
         | (m + 7), _, _, _, h => exact trivial
       refine wpRel_step [] (by kernel_rfl) (fun L kk w9 vals hk hw hun hcl hdl hT => ?_) ?_
       · have HW := Lib.hid hw; have HUN := Lib.hid hun; have HCL := Lib.hid hcl; have HDL := Lib.hid hdl
         clear hw hun hcl hdl hT
         simp only [fillR, Act.put, List.setIfInBounds_toArray, List.set_cons_succ, List.set_cons_zero]
         go_wp2
         exact ⟨_, rfl, rfl, ⟨fun h => HW.out.1 ((putL_ne (by decide)).symm.trans h), fun h h' => HW.out.2.1 ((putL_ne (by decide)).symm.trans h) ((putL_ne (by decide)).symm.trans h'), fun h => HW.out.2.2.1 ((putL_ne (by decide)).symm.trans h), fun h => HW.out.2.2.2.1 ((putL_ne (by decide)).symm.trans h), HW.out.2.2.2.2⟩, .inr (.inl (Below.refl _ _)), fun _ => rfl⟩
       refine wpRel_step [54] (by kernel_rfl) (fun L kk w9 vals hk hw hun hcl hdl hT => ?_) ?_
       · have t0 := hT 0 54 (by kernel_rfl) (.inl rfl)
         have HW := Lib.hid hw; have HUN := Lib.hid hun; have HCL := Lib.hid hcl; have HDL := Lib.hid hdl
         clear hw hun hcl hdl hT
         simp only [fillR, Act.put, List.setIfInBounds_toArray, List.set_cons_succ, List.set_cons_zero]
         rw [show vals 54 = Value.pointer (some ⟨rb, 3, none⟩) from t0]
         clear t0
         have hrule : Blk w9 rb TRulC #[.int .i64 vd, .int .i64 lo, .int .i64 hi, .slice A k c] := by
           have h7 : L 7 = false := HCL.out 7 (by kernel_rfl)
           cases h3 : L 3 with
           | false => exact (HW.out.1 h3).rule
           | true => exact (HW.out.2.1 h3 h7).rule
         have y3 := (show _ = some (Value.slice A k c) from hrule.cell 3)
         clear hrule
         go_wp2
         exact ⟨_, rfl, rfl, ⟨fun h => HW.out.1 ((putL_ne (by decide)).symm.trans h), fun h h' => HW.out.2.1 ((putL_ne (by decide)).symm.trans h) ((putL_ne (by decide)).symm.trans h'), fun h => HW.out.2.2.1 ((putL_ne (by decide)).symm.trans h), fun h => HW.out.2.2.2.1 ((putL_ne (by decide)).symm.trans h), HW.out.2.2.2.2⟩, .inr (.inl (Below.refl _ _)), fun _ => rfl⟩
       refine wpRel_step [] (by kernel_rfl) (fun L kk w9 vals hk hw hun hcl hdl hT => ?_) ?_
       · have HW := Lib.hid hw; have HUN := Lib.hid hun; have HCL := Lib.hid hcl; have HDL := Lib.hid hdl
         clear hw hun hcl hdl hT
         simp only [fillR, Act.put, List.setIfInBounds_toArray, List.set_cons_succ, List.set_cons_zero]
         go_wp2
         exact ⟨_, rfl, rfl, ⟨fun h => HW.out.1 ((putL_ne (by decide)).symm.trans h), fun h h' => HW.out.2.1 ((putL_ne (by decide)).symm.trans h) ((putL_ne (by decide)).symm.trans h'), fun h => HW.out.2.2.1 ((putL_ne (by decide)).symm.trans h), fun h => HW.out.2.2.2.1 ((putL_ne (by decide)).symm.trans h), HW.out.2.2.2.2⟩, .inr (.inl (Below.refl _ _)), fun _ => rfl⟩
       refine wpRel_step [56] (by kernel_rfl) (fun L kk w9 vals hk hw hun hcl hdl hT => ?_) ?_
       · have t0 := hT 2 56 (by kernel_rfl) (.inl rfl)
         have HW := Lib.hid hw; have HUN := Lib.hid hun; have HCL := Lib.hid hcl; have HDL := Lib.hid hdl
         clear hw hun hcl hdl hT
         simp only [fillR, Act.put, List.setIfInBounds_toArray, List.set_cons_succ, List.set_cons_zero]
         rw [show vals 56 = Value.pointer (some ⟨g, 0, none⟩) from t0]
         clear t0
         have HR0 := Lib.hid (HW.out.1 HUN.out)
         have h5 : L 5 = false := HCL.out 5 (by kernel_rfl)
         have h7 : L 7 = false := HCL.out 7 (by kernel_rfl)
         have HO0 := Lib.hid (HW.out.2.2.1 h5)
         go_wp2_with fail
         refine (test_yes g line t (rr) w9 HR0.out.cur.blk HTO.out HRD.out HTL.out).mono ?_; rintro e w10 ⟨rfl, hc10⟩
         have HR1 := Lib.hid (HR0.out.call hc10); have HO1 := Lib.hid (own_cur HO0.out hc10.grown (by have := HR0.out.lt; have := HR0.out.after; omega))
         have hz10 := hc10.grown.size
         have hzz := HW.out.2.2.2.2
         clear hc10
         go_wp2
         exact ⟨_, rfl, rfl, ⟨fun h => (by simp [putL] at h), fun _ _ => HR1.out, fun _ => HO1.out, fun h => (by rw [putL_ne (by decide), h7] at h; cases h), by omega⟩, .inl (.inl rfl), fun _ => rfl⟩
       refine wpRel_step [57] (by kernel_rfl) (fun L kk w9 vals hk hw hun hcl hdl hT => ?_) ?_
       · have t0 := hT 3 57 (by kernel_rfl) (.inl rfl)
         have HW := Lib.hid hw; have HUN := Lib.hid hun; have HCL := Lib.hid hcl; have HDL := Lib.hid hdl
         clear hw hun hcl hdl hT
         simp only [fillR, Act.put, List.setIfInBounds_toArray, List.set_cons_succ, List.set_cons_zero]
         rw [show vals 57 = Value.agg #[.int .i64 t.field, .int .i64 t.mask, .int .i64 t.op, .int .i64 t.value] from t0]
         clear t0
         have h3 : L 3 = true := HDL.out 3 (by kernel_rfl)
         have h5 : L 5 = false := HCL.out 5 (by kernel_rfl)
         have h7 : L 7 = false := HCL.out 7 (by kernel_rfl)
         have HR1 := Lib.hid (HW.out.2.1 h3 h7); have HO1 := Lib.hid (HW.out.2.2.1 h5)
         have hzz := HW.out.2.2.2.2
         go_wp2
         have hb : Below w9.heap.size w9 (w9.alloc (.cells (tcells t).toArray TTest)) := by go_grown
         exact ⟨_, rfl, rfl, ⟨fun h => (by rw [putL_ne (by decide), h3] at h; cases h), fun _ _ => HR1.out.next hb, fun _ => HO1.out.alloc _, fun h => (by rw [putL_ne (by decide), h7] at h; cases h), Nat.le_trans hzz (by simp)⟩, .inr (.inl hb), fun _ => ⟨w9.heap.size, rfl, Blk.new _ _ _⟩⟩
       refine wpRel_step [55, 58] (by kernel_rfl) (fun L kk w9 vals hk hw hun hcl hdl hT => ?_) ?_
       · have t0 := hT 1 55 (by kernel_rfl) (.inl rfl)
         have t1 := hT 4 58 (by kernel_rfl) (.inr rfl)
         have HW := Lib.hid hw; have HUN := Lib.hid hun; have HCL := Lib.hid hcl; have HDL := Lib.hid hdl
         clear hw hun hcl hdl hT
         simp only [fillR, Act.put, List.setIfInBounds_toArray, List.set_cons_succ, List.set_cons_zero]
         obtain ⟨b4, e4, hb4⟩ := t1
         have HB4 := Lib.hid hb4
         clear hb4
         rw [e4]
         rw [show vals 55 = Value.slice A k c from t0]
         clear t0
         have h3 : L 3 = true := HDL.out 3 (by kernel_rfl)
         have h7 : L 7 = false := HCL.out 7 (by kernel_rfl)
         have HR1 := Lib.hid (HW.out.2.1 h3 h7); have HO1 := Lib.hid (HW.out.2.2.1 HUN.out)
         have hzz := HW.out.2.2.2.2
         obtain ⟨i0, hi0, hz0, hz1, hz2⟩ := info_parts info_TestM
         go_wp2_with (at_builtin; go_must (refine wpList_append_own _ rfl (.tmp 55) (.tmp 58) _ rfl (rb + 1) TTest i0 _ 4 32 Tryz.underlying56 hi0 hz0 hz1 hz2 rfl (by omega) (.slice A k c) k ((tsR ts).flatten) rfl HO1.out ⟨b4, 0, none⟩ 1 1 (tcells t) rfl rfl (blk_flatC HB4.out) (tcells_one t) (by unfold maxLen; omega) (by omega) (by omega) ?_); intro v7 w7 hown7 hg7 _; have HO7 := Lib.hid hown7; have HG7 := Lib.hid hg7; clear hown7 hg7)
         have hb7 := own_gbC HO1.out HG7.out hzz
         exact ⟨_, rfl, rfl, ⟨fun h => (by rw [putL_ne (by decide), h3] at h; cases h), fun _ _ => HR1.out.below hb7 (by omega), fun h => (by simp [putL] at h), fun h => (by rw [putL_ne (by decide), h7] at h; cases h), by have := HG7.out.size; omega⟩, .inl (.inr rfl), fun _ => HO7.out⟩
       refine wpRel_step [] (by kernel_rfl) (fun L kk w9 vals hk hw hun hcl hdl hT => ?_) ?_
       · have HW := Lib.hid hw; have HUN := Lib.hid hun; have HCL := Lib.hid hcl; have HDL := Lib.hid hdl
         clear hw hun hcl hdl hT
         simp only [fillR, Act.put, List.setIfInBounds_toArray, List.set_cons_succ, List.set_cons_zero]
         go_wp2
         exact ⟨_, rfl, rfl, ⟨fun h => HW.out.1 ((putL_ne (by decide)).symm.trans h), fun h h' => HW.out.2.1 ((putL_ne (by decide)).symm.trans h) ((putL_ne (by decide)).symm.trans h'), fun h => HW.out.2.2.1 ((putL_ne (by decide)).symm.trans h), fun h => HW.out.2.2.2.1 ((putL_ne (by decide)).symm.trans h), HW.out.2.2.2.2⟩, .inr (.inl (Below.refl _ _)), fun _ => rfl⟩
       refine wpRel_step [60, 59] (by kernel_rfl) (fun L kk w9 vals hk hw hun hcl hdl hT => ?_) ?_
       · have t0 := hT 6 60 (by kernel_rfl) (.inl rfl)
         have t1 := hT 5 59 (by kernel_rfl) (.inl rfl)
         have HW := Lib.hid hw; have HUN := Lib.hid hun; have HCL := Lib.hid hcl; have HDL := Lib.hid hdl
         clear hw hun hcl hdl hT
         simp only [fillR, Act.put, List.setIfInBounds_toArray, List.set_cons_succ, List.set_cons_zero]
         have HT5 := Lib.hid (show w9.ownsRow (rb + 1) TTest 4 (vals 59) (k + 1) ((tsR ts).flatten ++ tcells t) from t1)
         obtain ⟨u5, hu5⟩ : ∃ u, u = vals 59 := ⟨_, rfl⟩
         rw [← hu5] at HT5 ⊢
         clear hu5 t1
         obtain ⟨b5, c5, rfl, hb5, hb5'⟩ := HT5.out.form (by omega)
         rw [show vals 60 = Value.pointer (some ⟨rb, 3, none⟩) from t0]
         clear t0
         have h3 : L 3 = true := HDL.out 3 (by kernel_rfl)
         have HR1 := Lib.hid (HW.out.2.1 h3 HUN.out)
         have hzz := HW.out.2.2.2.2
         have y3 := (show _ = some (Value.slice A k c) from HR1.out.rule.cell 3); have q3 := HR1.out.rule.frozen 3
         have HR2 := Lib.hid (HR1.out.set (a' := vd) (b' := lo) (c' := hi) (tv' := .slice (some ⟨b5, 0, none⟩) (k + 1) c5) 3 (.slice (some ⟨b5, 0, none⟩) (k + 1) c5) rfl); have HO2 := Lib.hid (own_lowset (i := 3) (x := .slice (some ⟨b5, 0, none⟩) (k + 1) c5) HT5.out (Nat.lt_succ_self rb))
         go_wp2
         exact ⟨undef, rfl, rfl, ⟨fun h => (by rw [putL_ne (by decide), h3] at h; cases h), fun _ h => (by simp [putL] at h), fun h => (by rw [putL_ne (by decide), HDL.out 5 (by kernel_rfl)] at h; cases h), fun _ => ⟨_, HR2.out, HO2.out⟩, by simpa using hzz⟩, .inr (.inr ⟨_, _, HR1.out.rule, rfl⟩), fun h => absurd rfl h⟩
       refine wpRel_end [54, 55, 56, 57, 58, 59, 60] (by kernel_rfl) (fun L w9 vals hl hw hT => ?_)
       obtain ⟨tv', hS9, hO9⟩ := hw.2.2.2.1 (hl 7 (by decide))
       have hZ9 := hw.2.2.2.2
       rw [← tsR_snocC] at hO9
       have HS9 := Lib.hid hS9; have HO9 := Lib.hid hO9
       clear hl hw hT hS9 hO9
       simp only [fillR, Act.put, List.setIfInBounds_toArray, List.set_cons_succ, List.set_cons_zero]
       go_wp2
       go_roundg (rr.length)
       case measure => have := HGK.out; have h34 : 0 < (testText t).length := by simp [testText]
                       simp at this; omega
       case rel => exact ⟨k + 1, ts ++ [t], tv', rr, rfl, by simp; have := HKL.out; omega, by omega, hZ9, Lib.hid ⟨fun x hx => by
         rcases List.mem_append.1 hx with hx | hx
         · exact HB.out.1 x hx
         · rw [List.mem_singleton.1 hx]; exact HTO.out, by rw [HB.out.2]; simp [testsText]⟩, HS9, HO9⟩
     · have HTL := HTL'
       refine wp_region_relP (fun c w' => c = faultP line ∧ w.grownBy w' (some g)) (noTC g rb) (fun _ => none) (fun L _ w' => L 3 = false ∧ L 4 = false ∧ L 5 = false ∧ RB w w' g rb line l' vd lo hi (.slice A k c)) (fun _ _ _ => True) (fun c a' w' hd _ hx => ⟨hd, congrArg Ending.panicked hx.1, hx.2⟩) (by kernel_rfl) (by kernel_rfl) ⟨rfl, rfl, rfl, HS.out.next (Below.refl _ _).drew⟩ (fun _ j _ _ _ _ _ _ _ hT => noTC_keep j hT) ?_
       refine wpRelP_step [] (by kernel_rfl) (fun L kk w9 vals hk hw hun hcl hdl hT => ?_) ?_
       · have HW := Lib.hid hw
         clear hw hun hcl hdl hT
         simp only [fillR, Act.put, List.setIfInBounds_toArray, List.set_cons_succ, List.set_cons_zero]
         go_wp2
         exact ⟨_, rfl, rfl, ⟨(putL_ne (by decide)).trans HW.out.1, (putL_ne (by decide)).trans HW.out.2.1, (putL_ne (by decide)).trans HW.out.2.2.1, HW.out.2.2.2⟩, trivial, fun _ => rfl⟩
       refine wpRelP_step [54] (by kernel_rfl) (fun L kk w9 vals hk hw hun hcl hdl hT => ?_) ?_
       · have t0 := hT 0 54 (by kernel_rfl) (.inl rfl)
         have HW := Lib.hid hw
         clear hw hun hcl hdl hT
         simp only [fillR, Act.put, List.setIfInBounds_toArray, List.set_cons_succ, List.set_cons_zero]
         rw [show vals 54 = Value.pointer (some ⟨rb, 3, none⟩) from t0]
         clear t0
         have y3 := (show _ = some (Value.slice A k c) from HW.out.2.2.2.rule.cell 3)
         go_wp2
         exact ⟨_, rfl, rfl, ⟨(putL_ne (by decide)).trans HW.out.1, (putL_ne (by decide)).trans HW.out.2.1, (putL_ne (by decide)).trans HW.out.2.2.1, HW.out.2.2.2⟩, trivial, fun _ => trivial⟩
       refine wpRelP_step [] (by kernel_rfl) (fun L kk w9 vals hk hw hun hcl hdl hT => ?_) ?_
       · have HW := Lib.hid hw
         clear hw hun hcl hdl hT
         simp only [fillR, Act.put, List.setIfInBounds_toArray, List.set_cons_succ, List.set_cons_zero]
         go_wp2
         exact ⟨_, rfl, rfl, ⟨(putL_ne (by decide)).trans HW.out.1, (putL_ne (by decide)).trans HW.out.2.1, (putL_ne (by decide)).trans HW.out.2.2.1, HW.out.2.2.2⟩, trivial, fun _ => rfl⟩
       refine wpRelP_step [56] (by kernel_rfl) (fun L kk w9 vals hk hw hun hcl hdl hT => ?_) ?_
       · have t0 := hT 2 56 (by kernel_rfl) (.inl rfl)
         have HW := Lib.hid hw
         clear hw hun hcl hdl hT
         simp only [fillR, Act.put, List.setIfInBounds_toArray, List.set_cons_succ, List.set_cons_zero]
         rw [show vals 56 = Value.pointer (some ⟨g, 0, none⟩) from t0]
         clear t0
         go_wp2_with fail
         refine (test_no g line l' w9 HW.out.2.2.2.cur.blk HTL.out hfine).mono ?_; rintro e w10 ⟨rfl, hg10⟩
         have HG := Lib.hid (HW.out.2.2.2.cur.grown.trans hg10)
         clear hg10
         go_wp2
         exact ⟨rfl, HG.out⟩
       refine wpRelP_step [57] (by kernel_rfl) (fun L kk w9 vals hk hw hun hcl hdl hT => ?_) ?_
       · exact absurd (hdl 3 (by kernel_rfl)) (by simp [hw.1, hw.2.1, hw.2.2.1])
       refine wpRelP_step [55, 58] (by kernel_rfl) (fun L kk w9 vals hk hw hun hcl hdl hT => ?_) ?_
       · exact absurd (hdl 4 (by kernel_rfl)) (by simp [hw.1, hw.2.1, hw.2.2.1])
       refine wpRelP_step [] (by kernel_rfl) (fun L kk w9 vals hk hw hun hcl hdl hT => ?_) ?_
       · have HW := Lib.hid hw
         clear hw hun hcl hdl hT
         simp only [fillR, Act.put, List.setIfInBounds_toArray, List.set_cons_succ, List.set_cons_zero]
         go_wp2
         exact ⟨_, rfl, rfl, ⟨(putL_ne (by decide)).trans HW.out.1, (putL_ne (by decide)).trans HW.out.2.1, (putL_ne (by decide)).trans HW.out.2.2.1, HW.out.2.2.2⟩, trivial, fun _ => trivial⟩
       refine wpRelP_step [60, 59] (by kernel_rfl) (fun L kk w9 vals hk hw hun hcl hdl hT => ?_) ?_
       · exact absurd (hdl 5 (by kernel_rfl)) (by simp [hw.1, hw.2.1, hw.2.2.1])
       refine wpRelP_end [54, 55, 56, 57, 58, 59, 60] (by kernel_rfl) (fun L w9 vals hl hw hT => ?_)
       exact absurd (hl 3 (by decide)) (by simp [hw.1])
end Go.Proofs.YtdjgicapbpoigaaGreatDoor

-- impl.PolicyRead: its deferred closure where a line has been thrown.
namespace Go.Proofs.YtdjgicapbpoigaaGreatDoor
open Go.RowKit
set_option linter.unusedSimpArgs false
set_option linter.unusedVariables false

set_option maxHeartbeats 1000000 in
theorem catch_fault (pb : Nat) (line x0 : Int) (a b : Value) (w : World) (hP : Blk w pb TPolC #[a, b]) (hF : Blk w (pb + 1) 3 #[.int .i64 x0]) (hl : 1 ≤ line) :
   CallsD Tryz.prog 39 #[.pointer (some ⟨pb, 0, none⟩), .pointer (some ⟨pb + 1, 0, none⟩)] (.panicking (faultP line)) w fun e u' w' => e = .returned (.tuple #[]) ∧ u' = .panicking [{ v := .iface TFault (.agg #[.int .i64 line]), recovered := true }] ∧ Blk w' pb TPolC #[.slice none 0 0, .int .i64 0] ∧ Blk w' (pb + 1) 3 #[.int .i64 line] ∧ Below pb w w' := by
 have y0 := (show w.cell? ⟨pb, 0, none⟩ = some a from hP.cell 0); have y1 := (show w.cell? ⟨pb, 1, none⟩ = some b from hP.cell 1); have q0 := hP.frozen 0; have q1 := hP.frozen 1
 have y2 := (show w.cell? ⟨pb + 1, 0, none⟩ = some (Value.int .i64 x0) from hF.cell 0); have q2 := hF.frozen 0
 refine callsD_of_wpS Tryz.func39 rfl fun c₀ cs hu => ?_
 unfold faultP at hu
 apply wpS_seq
 apply wpS_region
 simp [wpOpsS, go_sem, recoverD, hu, Tryz.ntmps39, Exit.thenS]
 apply wpS_seq
 apply wpS_region
 simp [wpOpsS, go_sem, recoverD, hu, Tryz.ntmps39, Exit.thenS]
 refine wpS_cond (t := true) (by simp [Act.eval, Array.replicate]) ?_
 simp only [if_true]
 refine wpS_of_wp ?_
 have hmx : ¬ line < 1 := by omega
 rw [show #[Value.pointer (some ⟨pb, 0, none⟩), Value.pointer (some ⟨pb + 1, 0, none⟩)] ++ ((((Array.replicate 15 undef).setIfInBounds 3 (Value.iface TFault (Value.agg #[Value.int .i64 line]))).setIfInBounds 0 (Value.iface TFault (Value.agg #[Value.int .i64 line]))).setIfInBounds 4 (Value.iface TFault (Value.agg #[Value.int .i64 line]))).setIfInBounds 5 (Value.bool true) = #[Value.pointer (some ⟨pb, 0, none⟩), Value.pointer (some ⟨pb + 1, 0, none⟩), Value.iface TFault (Value.agg #[Value.int .i64 line]), undef, undef, Value.iface TFault (Value.agg #[Value.int .i64 line]), Value.iface TFault (Value.agg #[Value.int .i64 line]), Value.bool true, undef, undef, undef, undef, undef, undef, undef, undef, undef] from rfl]
 have HP := Lib.hid hP; have HF := Lib.hid hF; have HU := Lib.hid hu
 clear hu hP hF
 have hta : ∀ w : World, (Instr.typeAssert (.iface TFault (.agg #[.int .i64 line])) 20 TFault true).run Tryz.prog w = .ok (.tuple #[.agg #[.int .i64 line], .bool true]) w := fun w => by kernel_rfl
 have hzz : pb + 1 < w.heap.size := HF.out.lt
 have hne1 : ¬ w.heap.size = pb := by omega
 have hne2 : ¬ w.heap.size = pb + 1 := by omega
 have hmx2 : max line 1 = line := by omega
 clear y0 y1 y2 q0 q1 q2
 obtain ⟨W1, hW1⟩ : ∃ W, W = w.alloc (.cells #[.int .i64 line] TFault) := ⟨_, rfl⟩
 have b1 : Below w.heap.size w W1 := by rw [hW1]; go_grown
 have KT : Hid (Blk W1 w.heap.size TFault #[.int .i64 line]) := by rw [hW1]; exact Lib.hid (Blk.new _ _ _)
 have KP := Lib.hid (HP.out.below b1 HP.out.lt); have KF := Lib.hid (HF.out.below b1 HF.out.lt); have B1 := Lib.hid b1
 have HW1 := Lib.hid hW1
 clear hW1 b1
 go_wp2_with fail
 rw [← HW1.out]
 have y0 := (show W1.cell? ⟨pb, 0, none⟩ = some a from KP.out.cell 0); have y1 := (show W1.cell? ⟨pb, 1, none⟩ = some b from KP.out.cell 1); have q0 := KP.out.frozen 0; have q1 := KP.out.frozen 1
 have y2 := (show W1.cell? ⟨pb + 1, 0, none⟩ = some (Value.int .i64 x0) from KF.out.cell 0); have q2 := KF.out.frozen 0
 have y3 := (show W1.cell? ⟨w.heap.size, 0, none⟩ = some (Value.int .i64 line) from KT.out.cell 0)
 go_region
 all_goals go_wp2
 have B1p := B1.out.mono (show pb ≤ w.heap.size by omega)
 have E1 : Blk ((((W1.setCell ⟨pb, 0, none⟩ (.slice none 0 0)).setCell ⟨pb, 1, none⟩ (.int .i64 0)).setCell ⟨pb + 1, 0, none⟩ (.int .i64 line)).drew) pb TPolC #[.slice none 0 0, .int .i64 0] := by
   have h := ((KP.out.set_ 0 (.slice none 0 0)).set_ 1 (.int .i64 0)).far (p := ⟨pb + 1, 0, none⟩) (show pb ≠ pb + 1 by omega) (.int .i64 line)
   exact h.below (Below.refl _ _).drew h.lt
 have E2 : Blk ((((W1.setCell ⟨pb, 0, none⟩ (.slice none 0 0)).setCell ⟨pb, 1, none⟩ (.int .i64 0)).setCell ⟨pb + 1, 0, none⟩ (.int .i64 line)).drew) (pb + 1) 3 #[.int .i64 line] := by
   have h := ((KF.out.far (p := ⟨pb, 0, none⟩) (show pb + 1 ≠ pb by omega) (.slice none 0 0)).far (p := ⟨pb, 1, none⟩) (show pb + 1 ≠ pb by omega) (.int .i64 0)).set_ 0 (.int .i64 line)
   exact h.below (Below.refl _ _).drew h.lt
 have E3 : Below pb w ((((W1.setCell ⟨pb, 0, none⟩ (.slice none 0 0)).setCell ⟨pb, 1, none⟩ (.int .i64 0)).setCell ⟨pb + 1, 0, none⟩ (.int .i64 line)).drew) :=
   (((B1p.setCell (p := ⟨pb, 0, none⟩) (Nat.le_refl _) _).setCell (p := ⟨pb, 1, none⟩) (Nat.le_refl _) _).setCell (p := ⟨pb + 1, 0, none⟩) (Nat.le_succ _) _).drew
 generalize ((((W1.setCell ⟨pb, 0, none⟩ (.slice none 0 0)).setCell ⟨pb, 1, none⟩ (.int .i64 0)).setCell ⟨pb + 1, 0, none⟩ (.int .i64 line)).drew) = W9 at E1 E2 E3 ⊢
 simp [bodyPostS, results, Tryz.results39]
 exact ⟨E1, E2, E3⟩
end Go.Proofs.YtdjgicapbpoigaaGreatDoor

-- Any text cut by strings.Split: its lines, in plain Lean.
namespace Go.Proofs.YtdjgicapbpoigaaGreatDoor
open Go.RowKit
set_option linter.unusedSimpArgs false
set_option linter.unusedVariables false

theorem first_nl : ∀ (l : List UInt8), (10 : UInt8) ∉ l ∨ ∃ a b, l = a ++ 10 :: b ∧ (10 : UInt8) ∉ a
 | [] => .inl (by simp)
 | x :: l => by
   by_cases hx : x = 10
   · exact .inr ⟨[], l, by rw [hx]; rfl, by simp⟩
   · rcases first_nl l with h | ⟨a, b, rfl, h⟩
     · exact .inl fun hm => by
         rcases List.mem_cons.1 hm with e | hm
         · exact hx e.symm
         · exact h hm
     · exact .inr ⟨x :: a, b, rfl, fun hm => by
         rcases List.mem_cons.1 hm with e | hm
         · exact hx e.symm
         · exact h hm⟩
theorem splitK_any (n : Nat) : ∀ (l : List UInt8), l.length ≤ n → Lib.splitK [10] 0 (l.count 10) l = cut 10 l ∧ (cut 10 l).length = l.count 10 + 1 := by
 induction n with
 | zero =>
   intro l h
   rw [List.length_eq_zero_iff.1 (Nat.le_zero.1 h)]
   exact ⟨rfl, rfl⟩
 | succ n ih =>
   intro l hl
   rcases first_nl l with h | ⟨a, b, rfl, h⟩
   · rw [List.count_eq_zero.2 h, cut_last (fun x hx e => h (by rw [← e]; exact hx))]
     exact ⟨rfl, rfl⟩
   · obtain ⟨h1, h2⟩ := ih b (by simp at hl; omega)
     have hc : (a ++ 10 :: b).count 10 = b.count 10 + 1 := by
       rw [List.count_append, List.count_cons_self, List.count_eq_zero.2 h]
       omega
     have hw : cut 10 (a ++ 10 :: b) = a :: cut 10 b := cut_word (fun x hx e => h (by rw [← e]; exact hx))
     refine ⟨?_, by rw [hw, hc, List.length_cons, h2]⟩
     rw [hc, hw, Lib.splitK, index_line h]
     rw [if_neg (by simp <;> omega)]
     simp only [Int.toNat_natCast, Nat.add_zero, List.take_left, List.cons_append]
     congr 1
     rw [show a.length + ([10] : List UInt8).length = a.length + 1 from rfl, List.drop_append, List.drop_of_length_le (by omega)]
     simp
     exact h1
theorem split_any (l : List UInt8) : Lib.countB ⟨l.toArray⟩ ⟨#[10]⟩ + 1 = (cut 10 l).length ∧ Lib.splitB ⟨#[10]⟩ 0 (Lib.countB ⟨l.toArray⟩ ⟨#[10]⟩) ⟨l.toArray⟩ = (cut 10 l).map (fun (l : List UInt8) => (⟨l.toArray⟩ : ByteArray)) := by
 have e : Lib.countB ⟨l.toArray⟩ ⟨#[10]⟩ = l.count 10 := by
   show Lib.count l [10] = _
   rw [Lib.count_one]
 obtain ⟨h1, h2⟩ := splitK_any l.length l (Nat.le_refl _)
 rw [e]
 refine ⟨h2.symm, bytes_of ?_⟩
 rw [Lib.splitB_data]
 exact h1
theorem index_none : ∀ {l : List UInt8}, (10 : UInt8) ∉ l → Lib.indexByte l 10 = -1
 | [], _ => rfl
 | b :: l, h => by
   have hb : b ≠ 10 := fun e => h (by simp [e])
   have ih := index_none (l := l) (fun hm => h (by simp [hm]))
   unfold Lib.indexByte
   simp [hb, ih]
theorem index_mem : ∀ {l : List UInt8}, 0 ≤ Lib.indexByte l 10 → (10 : UInt8) ∈ l := fun {l} h => by
 by_cases hm : (10 : UInt8) ∈ l
 · exact hm
 · exfalso
   have := index_none hm
   omega
theorem cut_two {l : List UInt8} (h : (10 : UInt8) ∈ l) : 2 ≤ (cut 10 l).length := by
 rw [(splitK_any l.length l (Nat.le_refl _)).2]
 have := List.count_pos_iff.2 h
 omega
theorem piece_lenC {l : List UInt8} {ws : List (List UInt8)} (h : ws = cut 10 l) {x : List UInt8} (hx : x ∈ ws) : x.length ≤ l.length := piece_len 10 l x (by rw [← h]; exact hx)
theorem pol_made {l : List UInt8} {ws : List (List UInt8)} {N : Nat} {rs : List Rl} {els : Int} (hws : ws = cut 10 l) (hn : ws.length = N + 2) (h9 : l.length ≤ 900) (hr : ws.take N = rs.map ruleLine) (hok : ∀ r ∈ rs, ruleOkB r = true) (h8 : rs.length ≤ 8) (he : 1 ≤ els ∧ els ≤ 4) (h1 : ws[N]? = some (elseLine els)) (h2 : ws[N + 1]? = some []) : isPol l := by
 have ht : polText ⟨rs, els⟩ = l := by
   refine polText_of (n := N) (by rw [← hws]; exact hn) ?_ (by rw [← hws]; exact h1) (by rw [← hws]; exact h2) rfl
   rw [← hws, hr, List.map_map]
   rfl
 refine ⟨⟨rs, els⟩, ?_, ht⟩
 unfold polOkB polShapeB
 rw [ht]
 simp [inB, h8, h9]
 exact ⟨⟨by omega, by omega⟩, hok⟩
end Go.Proofs.YtdjgicapbpoigaaGreatDoor

-- impl.PolicyRead on a text that is no fine policy's: a line is told.
namespace Go.Proofs.YtdjgicapbpoigaaGreatDoor
open Go.RowKit
set_option linter.unusedSimpArgs false
set_option linter.unusedVariables false

theorem end_world {w W : World} {pb : Nat} {a b : Value} {x0 : Int} (x : Int) (hP : Blk W pb TPolC #[a, b]) (hF : Blk W (pb + 1) 3 #[.int .i64 x0]) (hB : Below pb w W) : Blk (((W.setCell ⟨pb, 0, none⟩ (.slice none 0 0)).setCell ⟨pb, 1, none⟩ (.int .i64 0)).setCell ⟨pb + 1, 0, none⟩ (.int .i64 x)) pb TPolC #[.slice none 0 0, .int .i64 0] ∧ Blk (((W.setCell ⟨pb, 0, none⟩ (.slice none 0 0)).setCell ⟨pb, 1, none⟩ (.int .i64 0)).setCell ⟨pb + 1, 0, none⟩ (.int .i64 x)) (pb + 1) 3 #[.int .i64 x] ∧ Below pb w (((W.setCell ⟨pb, 0, none⟩ (.slice none 0 0)).setCell ⟨pb, 1, none⟩ (.int .i64 0)).setCell ⟨pb + 1, 0, none⟩ (.int .i64 x)) :=
 ⟨((hP.set_ 0 _).set_ 1 _).far (p := ⟨pb + 1, 0, none⟩) (show pb ≠ pb + 1 by omega) _,
  ((hF.far (p := ⟨pb, 0, none⟩) (show pb + 1 ≠ pb by omega) _).far (p := ⟨pb, 1, none⟩) (show pb + 1 ≠ pb by omega) _).set_ 0 _,
  ((hB.setCell (p := ⟨pb, 0, none⟩) (Nat.le_refl _) _).setCell (p := ⟨pb, 1, none⟩) (Nat.le_refl _) _).setCell (p := ⟨pb + 1, 0, none⟩) (Nat.le_succ _) _⟩
theorem KeepP.grown {pb B g : Nat} {w w' : World} {cs0 : Array Value} (h : w.grownBy w' (some g)) (hc : Blk w g TCur cs0) (hB : B ≤ g) : KeepP pb B w w' :=
 ⟨h.os, h.tape, h.output, h.size, fun j hj _ => h.block j (by have := hc.lt; omega) (by intro e; cases e; omega), fun j cs hb => hb.grown h (fun e2 => by cases e2; have := hb.symm.trans hc; injection this with e1; injection e1 with e3 e4; exact absurd e4 (by decide))⟩
def NoPol (w : World) (e : Ending) (w' : World) : Prop := ∃ at_ : Int, e = .returned (.tuple #[.agg #[.slice none 0 0, .int .i64 0], .int .i64 at_]) ∧ at_ ≠ 0 ∧ Below w.heap.size w w'
def noRU (pb cg : Nat) : Nat → World → Value → Prop
 | 0, _, u => u = .pointer (some ⟨pb, 0, none⟩)
 | 2, _, u => u = .pointer (some ⟨cg, 0, none⟩)
 | _, _, _ => True
theorem noRU_keep {pb cg : Nat} (j : Nat) {w w' : World} {u : Value} (h : noRU pb cg j w u) : noRU pb cg j w' u := by
 unfold noRU at *
 split <;> simp_all
set_option maxHeartbeats 16000000 in
theorem PolicyRead_no (tx : List UInt8) (w : World) (hsz : tx.length ≤ 1048576) (hno : ¬ isPol tx) (hm : ∃ m : Int, w.cell? ⟨1, 0, none⟩ = some (.int .i64 m)) :
   Calls Tryz.prog 21 #[.string ⟨tx.toArray⟩] w (NoPol w) := by
 obtain ⟨m, hm⟩ := hm
 have h0w : 1 < w.heap.size := World.block_lt_of_cell? w ⟨1, 0, none⟩ hm
 have HN := Lib.hid hno
 have hmf : ∀ (fn : Fn) (first cap : Array Value) (w : World), (Instr.makeFunc fn first cap).run Tryz.prog w = .ok (.func fn first cap) w := fun _ _ _ _ => rfl
 obtain ⟨W2, hW2⟩ : ∃ W, W = (w.alloc (.cells #[.slice none 0 0, .int .i64 0] TPolC)).alloc (.cells #[.int .i64 0] 3) := ⟨_, rfl⟩
 have bW : Hid (Below w.heap.size w W2) := by rw [hW2]; exact Lib.hid (by go_grown)
 have KP : Hid (Blk W2 w.heap.size TPolC #[.slice none 0 0, .int .i64 0]) := by rw [hW2]; exact Lib.hid ((Blk.new _ _ _).alloc _)
 have KF : Hid (Blk W2 (w.heap.size + 1) 3 #[.int .i64 0]) := by
   rw [hW2]
   have := Blk.new (w.alloc (.cells #[.slice none 0 0, .int .i64 0] TPolC)) 3 #[.int .i64 0]
   simpa using Lib.hid this
 have hm2 : W2.cell? ⟨1, 0, none⟩ = some (.int .i64 m) := (bW.out.cell (p := ⟨1, 0, none⟩) h0w).trans hm
 have HW2 := Lib.hid hW2
 clear hW2 hno hm
 go_enter_defers Tryz.func21, Tryz.ntmps21
 by_cases h9 : 900 < tx.length
 case pos =>
   have h9i : ¬ (tx.length : Int) ≤ 900 := by omega
   go_wp2
   refine leaves_cons (f := 39) (args := #[.pointer (some ⟨w.heap.size, 0, none⟩), .pointer (some ⟨w.heap.size + 1, 0, none⟩)]) (by simp) (by simp [go_sem]) ?_
   refine (catch_idle _ _ _).mono ?_
   rintro e u' w'' ⟨rfl, rfl, rfl⟩
   simp [Leaves, settle, results, Tryz.results21, go_sem]
   exact ⟨1, rfl, by omega, by go_grown⟩
 have h9i : (tx.length : Int) ≤ 900 := by omega
 go_wp2_with fail
 rw [← HW2.out]
 refine (Go.Proofs.Tryz.strings_Contains_one _ 10 _).mono ?_; rintro e w3 ⟨rfl, rfl⟩
 by_cases hidx : 0 ≤ Lib.indexByte tx 10
 case neg =>
   rw [show decide (0 ≤ Lib.indexByte (⟨tx.toArray⟩ : ByteArray).data.toList 10) = false from decide_eq_false hidx]
   have y0 := (show w3.cell? ⟨w.heap.size, 0, none⟩ = some _ from KP.out.cell 0); have y1 := (show w3.cell? ⟨w.heap.size, 1, none⟩ = some _ from KP.out.cell 1); have q0 := KP.out.frozen 0; have q1 := KP.out.frozen 1
   have y2 := (show w3.cell? ⟨w.heap.size + 1, 0, none⟩ = some _ from KF.out.cell 0); have q2 := KF.out.frozen 0
   obtain ⟨KP8, KF8, HB8⟩ := end_world 1 KP.out KF.out bW.out
   have HP8 := Lib.hid KP8; have HF8 := Lib.hid KF8; have HBB := Lib.hid HB8
   clear KP8 KF8 HB8
   go_wp2
   refine leaves_cons (f := 39) (args := #[.pointer (some ⟨w.heap.size, 0, none⟩), .pointer (some ⟨w.heap.size + 1, 0, none⟩)]) (by simp) (by simp [go_sem]) ?_
   refine (catch_idle _ _ _).mono ?_
   rintro e u' w'' ⟨rfl, rfl, rfl⟩
   clear y0 y1 y2 q0 q1 q2
   have y0 := (show World.cell? _ ⟨w.heap.size, 0, none⟩ = some (Value.slice none 0 0) from HP8.out.cell 0); have y1 := (show World.cell? _ ⟨w.heap.size, 1, none⟩ = some (Value.int .i64 0) from HP8.out.cell 1); have y2 := (show World.cell? _ ⟨w.heap.size + 1, 0, none⟩ = some (Value.int .i64 1) from HF8.out.cell 0)
   simp [Leaves, settle, results, Tryz.results21, go_sem, y0, y1, y2]
   exact ⟨1, rfl, by omega, HBB.out⟩
 rw [show decide (0 ≤ Lib.indexByte (⟨tx.toArray⟩ : ByteArray).data.toList 10) = true from decide_eq_true hidx]
 obtain ⟨hsp1, hsp2⟩ := split_any tx
 obtain ⟨ws, hws⟩ : ∃ ws, ws = cut 10 tx := ⟨_, rfl⟩
 rw [← hws] at hsp1 hsp2
 have HWS := Lib.hid hws
 have hmem := index_mem hidx
 have hlen2 : 2 ≤ ws.length := by rw [hws]; exact cut_two hmem
 obtain ⟨N, hN⟩ : ∃ N, ws.length = N + 2 := ⟨ws.length - 2, by omega⟩
 have HN2 := Lib.hid hN
 have HRW := Lib.hid (show ∀ x ∈ ws, x.length ≤ 900 from fun x hx => by have := piece_lenC hws hx; omega)
 have hcnt : Lib.countB ⟨tx.toArray⟩ ⟨#[10]⟩ = N + 1 := by omega
 rw [hcnt] at hsp2
 have HSP := Lib.hid hsp2; have HCN := Lib.hid hcnt
 have hN9 : N ≤ 899 := by have := cut_len 10 tx; rw [← hws] at this; omega
 clear hsp1 hsp2 hws hmem hlen2 hN hcnt hidx
 go_wp2_with fail
 refine (Go.Proofs.Tryz.strings_Split _ ⟨#[10]⟩ m _ (by show tx.toArray.size < _; simp; omega) hm2 (by decide)).mono ?_; rintro e w4 ⟨rfl, hw4⟩
 rw [HCN.out, HSP.out] at hw4
 rw [HCN.out]
 obtain ⟨sb, hsb⟩ : ∃ sb, sb = w3.heap.size := ⟨_, rfl⟩
 have KS : Hid (Blk w4 sb TStr (ws.map fun (l : List UInt8) => Value.string ⟨l.toArray⟩).toArray) := by
   rw [hw4, hsb, List.map_map]
   exact Lib.hid (Blk.new _ _ _)
 have b4 : Below w3.heap.size w3 w4 := by rw [hw4]; go_grown
 have KP4 := Lib.hid (KP.out.below b4 KP.out.lt); have KF4 := Lib.hid (KF.out.below b4 KF.out.lt); have B4 := Lib.hid (below_then bW.out b4)
 have hz4 : sb + 1 ≤ w4.heap.size := KS.out.lt
 have hfs : w.heap.size + 1 < sb := by rw [hsb]; exact KF.out.lt
 rw [← hsb]
 have HPB : Hid (PB w w4 w.heap.size (w.heap.size + 1) sb (sb + 1) ws [] []) := Lib.hid ⟨KF4.out, KS.out, RulesOwn.nil _ _, B4.out, hz4, Nat.le_refl _, Nat.lt_succ_self _, hfs, Nat.lt_succ_self _⟩
 have hlast : (N : Int) + 1 + 1 - 2 = N := by omega
 clear hw4 hsb b4 hm2 KS KF KP KF4 B4 bW HW2 HSP HCN
 go_wp2_with fail
 go_loopw [30] (fun i wr => ∃ (k : Nat) (rv : Value) (css : List (List Value)) (rs : List Rl), k ≤ N ∧ k ≤ 8 ∧ i = .int .i64 k ∧ Hid ((∀ r ∈ rs, ruleOkB r = true) ∧ rs.length = k ∧ ws.take k = rs.map ruleLine) ∧ Hid (PB w wr w.heap.size (w.heap.size + 1) sb (sb + 1) ws rs css) ∧ Hid (Blk wr w.heap.size TPolC #[rv, .int .i64 0]) ∧ Hid (wr.ownsRow (sb + 1) TRulC 4 rv k css.flatten)) (fun i _ => N - (intOf i).toNat)
 case atStart => exact ⟨0, _, [], [], by omega, by omega, rfl, Lib.hid ⟨fun r h => (by cases h), rfl, rfl⟩, HPB, KP4, Lib.hid (by have := World.ownsRow_nil w4 (sb + 1) TRulC 4; simpa using this)⟩
 case round =>
   obtain ⟨k, rv, css, rs, hk, hk8, rfl, HRS, HP, HPO, HOW⟩ := hrel
   clear HPB KP4
   by_cases hlt : k < N
   · have hki : (k : Int) < N := by omega
     obtain ⟨lk, hlk⟩ : ∃ lk, ws[k]? = some lk := ⟨_, List.getElem?_eq_getElem (by have := HN2.out; omega)⟩
     have HLK := Lib.hid hlk
     have c0 := rows_cell HP.out.rows hlk
     obtain ⟨cg, hcg⟩ : ∃ cg, cg = wr.heap.size := ⟨_, rfl⟩
     obtain ⟨W1, hW1⟩ : ∃ W, W = wr.alloc (.cells #[.string ⟨lk.toArray⟩, .int .i64 ((k : Int) + 1)] TCur) := ⟨_, rfl⟩
     have b1 : Below wr.heap.size wr W1 := by rw [hW1]; go_grown
     have KC := Lib.hid (show Blk W1 cg TCur #[.string ⟨lk.toArray⟩, .int .i64 ((k : Int) + 1)] by rw [hW1, hcg]; exact Blk.new _ _ _)
     have HP1 := Lib.hid (HP.out.keep (KeepP.below (pb := w.heap.size) b1 HP.out.size)); have HPO1 := Lib.hid (HPO.out.below b1 HPO.out.lt); have HOW1 := Lib.hid (own_below HOW.out b1)
     have hcgB : sb + 1 ≤ cg := by rw [hcg]; exact HP.out.size
     have HW1 := Lib.hid hW1
     have HCG := Lib.hid hcg
     have HRL := Lib.hid (show lk.length ≤ 2000 by have := HRW.out lk (List.mem_of_getElem? hlk); omega)
     obtain ⟨A, c, rfl⟩ : ∃ A c, rv = .slice A k c := by
       rcases HOW.out.2 with ⟨rfl, h0⟩ | ⟨g', cap, cur, rfl, _⟩
       · exact ⟨none, 0, by rw [h0]⟩
       · exact ⟨_, _, rfl⟩
     clear hlk b1 hcg hW1 HP HPO HOW
     by_cases hk8' : k < 8
     case neg =>
       have hk8d : decide ((k : Int) < 8) = false := decide_eq_false (by omega)
       go_wp2_with (first | rw [← HW1.out, ← HCG.out] | (go_at_call 42; refine (need_no cg _ _ _ KC.out).mono ?_; rintro e w7 ⟨rfl, hb⟩; have HP7 := Lib.hid (HP1.out.keep (KeepP.below (pb := w.heap.size) hb HP1.out.size)); have HPO7 := Lib.hid (HPO1.out.below hb HPO1.out.lt); clear hb))
       refine leaves_cons (f := 39) (args := #[.pointer (some ⟨w.heap.size, 0, none⟩), .pointer (some ⟨w.heap.size + 1, 0, none⟩)]) (by simp) (by simp [go_sem]) ?_
       refine (catch_fault w.heap.size ((k : Int) + 1) _ _ _ _ HPO7.out HP7.out.fault (by omega)).mono ?_
       rintro e u' w'' ⟨rfl, rfl, KP8, KF8, hk8⟩
       have HB8 := Lib.hid (HP7.out.below.trans hk8)
       have y0 := (show w''.cell? ⟨w.heap.size, 0, none⟩ = some (Value.slice none 0 0) from KP8.cell 0); have y1 := (show w''.cell? ⟨w.heap.size, 1, none⟩ = some (Value.int .i64 0) from KP8.cell 1); have y2 := (show w''.cell? ⟨w.heap.size + 1, 0, none⟩ = some (Value.int .i64 ((k : Int) + 1)) from KF8.cell 0)
       clear KP8 KF8 hk8
       simp [Leaves, settle, results, Tryz.results21, go_sem, y0, y1, y2]
       exact ⟨_, rfl, by omega, HB8.out⟩
     have hk8i : (k : Int) < 8 := by omega
     go_wp2_with (rw [← HW1.out, ← HCG.out])
     refine (need_yes _ _).mono ?_; rintro e wn ⟨rfl, rfl⟩
     go_wp2_with fail
     clear c0
     by_cases hfine : ∃ r : Rl, ruleOkB r = true ∧ lk = ruleLine r
     · obtain ⟨r, hro, hlr⟩ := hfine
       have HRO := Lib.hid hro
       subst hlr
       clear hro
       refine wp_region_rel (ruT w.heap.size cg k (sb + 1) (.slice A k c) r css.flatten) (fun j => if j = 4 then some 5 else none) (fun L _ w' => PB w w' w.heap.size (w.heap.size + 1) sb (sb + 1) ws rs css ∧ (L 7 = false → Blk w' w.heap.size TPolC #[.slice A k c, .int .i64 0]) ∧ (L 5 = false → w'.ownsRow (sb + 1) TRulC 4 (.slice A k c) k css.flatten) ∧ (L 3 = false → Blk w' cg TCur #[.string ⟨(ruleLine r).toArray⟩, .int .i64 ((k : Int) + 1)]) ∧ (L 7 = true → ∃ rv' tv, Blk w' w.heap.size TPolC #[rv', .int .i64 0] ∧ w'.ownsRow (sb + 1) TRulC 4 rv' (k + 1) (css.flatten ++ rcells r tv) ∧ w'.ownsRow (sb + 1) TTest 4 tv r.tests.length (tsR r.tests).flatten)) (fun i w w' => ruR i w w') (by kernel_rfl) (by kernel_rfl) ⟨HP1.out.keep (KeepP.below (Below.refl _ _).drew HP1.out.size), fun _ => HPO1.out, fun _ => HOW1.out, fun _ => KC.out, fun h => (by cases h)⟩ ?_ ?_
       · intro i j wa wb u hji hcj hwj hR hT
         match j, hji, hcj, hwj, hT with
         | 0, _, _, _, h => exact h
         | 1, _, _, _, h => exact h
         | 2, _, _, _, h => exact h
         | 3, _, _, _, h =>
           obtain ⟨tv, e, ho⟩ := h
           exact ⟨tv, e, own_kind ho hR.1⟩
         | 4, _, h2, _, h =>
           obtain ⟨b, tv, e, hb, ho⟩ := h
           exact ⟨b, tv, e, hR.2 (fun e5 => h2 (by rw [e5]; rfl)) _ _ hb, own_kind ho hR.1⟩
         | 5, h1, _, _, h =>
           obtain ⟨tv, ho, ht⟩ := h
           exact ⟨tv, own_kind ho (hR.2 (fun e5 => h1 e5.symm)), own_kind ht hR.1⟩
         | 6, _, _, _, h => exact h
         | (m + 7), _, _, _, h => exact trivial
       refine wpRel_step [] (by kernel_rfl) (fun L kk w9 vals hk' hw hun hcl hdl hT => ?_) ?_
       · have HW := Lib.hid hw; have HUN := Lib.hid hun; have HCL := Lib.hid hcl; have HDL := Lib.hid hdl
         clear hw hun hcl hdl hT
         simp only [fillR, Act.put, List.setIfInBounds_toArray, List.set_cons_succ, List.set_cons_zero]
         go_wp2
         exact ⟨_, rfl, rfl, ⟨HW.out.1, fun h => HW.out.2.1 ((putL_ne (by decide)).symm.trans h), fun h => HW.out.2.2.1 ((putL_ne (by decide)).symm.trans h), fun h => HW.out.2.2.2.1 ((putL_ne (by decide)).symm.trans h), fun h => HW.out.2.2.2.2 ((putL_ne (by decide)).symm.trans h)⟩, ruR.below (Below.refl _ _), fun _ => rfl⟩
       refine wpRel_step [45] (by kernel_rfl) (fun L kk w9 vals hk' hw hun hcl hdl hT => ?_) ?_
       · have t0 := hT 0 45 (by kernel_rfl) (.inl rfl)
         have HW := Lib.hid hw; have HUN := Lib.hid hun; have HCL := Lib.hid hcl; have HDL := Lib.hid hdl
         clear hw hun hcl hdl hT
         simp only [fillR, Act.put, List.setIfInBounds_toArray, List.set_cons_succ, List.set_cons_zero]
         rw [show vals 45 = Value.pointer (some ⟨w.heap.size, 0, none⟩) from t0]
         clear t0
         have y0 := (show _ = some (Value.slice A k c) from (HW.out.2.1 (HCL.out 7 (by kernel_rfl))).cell 0)
         go_wp2
         exact ⟨_, rfl, rfl, ⟨HW.out.1, fun h => HW.out.2.1 ((putL_ne (by decide)).symm.trans h), fun h => HW.out.2.2.1 ((putL_ne (by decide)).symm.trans h), fun h => HW.out.2.2.2.1 ((putL_ne (by decide)).symm.trans h), fun h => HW.out.2.2.2.2 ((putL_ne (by decide)).symm.trans h)⟩, ruR.below (Below.refl _ _), fun _ => rfl⟩
       refine wpRel_step [] (by kernel_rfl) (fun L kk w9 vals hk' hw hun hcl hdl hT => ?_) ?_
       · have HW := Lib.hid hw; have HUN := Lib.hid hun; have HCL := Lib.hid hcl; have HDL := Lib.hid hdl
         clear hw hun hcl hdl hT
         simp only [fillR, Act.put, List.setIfInBounds_toArray, List.set_cons_succ, List.set_cons_zero]
         go_wp2
         exact ⟨_, rfl, rfl, ⟨HW.out.1, fun h => HW.out.2.1 ((putL_ne (by decide)).symm.trans h), fun h => HW.out.2.2.1 ((putL_ne (by decide)).symm.trans h), fun h => HW.out.2.2.2.1 ((putL_ne (by decide)).symm.trans h), fun h => HW.out.2.2.2.2 ((putL_ne (by decide)).symm.trans h)⟩, ruR.below (Below.refl _ _), fun _ => rfl⟩
       refine wpRel_step [47] (by kernel_rfl) (fun L kk w9 vals hk' hw hun hcl hdl hT => ?_) ?_
       · have t0 := hT 2 47 (by kernel_rfl) (.inl rfl)
         have HW := Lib.hid hw; have HUN := Lib.hid hun; have HCL := Lib.hid hcl; have HDL := Lib.hid hdl
         clear hw hun hcl hdl hT
         simp only [fillR, Act.put, List.setIfInBounds_toArray, List.set_cons_succ, List.set_cons_zero]
         rw [show vals 47 = Value.pointer (some ⟨cg, 0, none⟩) from t0]
         clear t0
         have h5 : L 5 = false := HCL.out 5 (by kernel_rfl)
         have h7 : L 7 = false := HCL.out 7 (by kernel_rfl)
         have KC9 := Lib.hid (HW.out.2.2.2.1 HUN.out); have PO9 := Lib.hid (HW.out.2.1 h7); have OW9 := Lib.hid (HW.out.2.2.1 h5)
         go_wp2_with fail
         refine (rule_yes cg ((k : Int) + 1) r w9 KC9.out HRO.out HRL.out).mono ?_; rintro e w10 ⟨tv, rfl, hc10, ho10⟩
         have HC10 := Lib.hid hc10; have HO10 := Lib.hid (own_base ho10 HW.out.1.size)
         clear hc10 ho10
         go_wp2
         exact ⟨_, rfl, rfl, ⟨HW.out.1.keep (KeepP.call HC10.out KC9.out hcgB), fun _ => cur_tests HC10.out KC9.out (by decide) _ _ PO9.out, fun _ => own_kind OW9.out (cur_tests HC10.out KC9.out (by decide)), fun h => (by simp [putL] at h), fun h => (by rw [putL_ne (by decide), h7] at h; cases h)⟩, ⟨cur_tests HC10.out KC9.out (by decide), fun _ => cur_tests HC10.out KC9.out (by decide)⟩, fun _ => ⟨tv, rfl, HO10.out⟩⟩
       refine wpRel_step [48] (by kernel_rfl) (fun L kk w9 vals hk' hw hun hcl hdl hT => ?_) ?_
       · have t0 := hT 3 48 (by kernel_rfl) (.inl rfl)
         have HW := Lib.hid hw; have HUN := Lib.hid hun; have HCL := Lib.hid hcl; have HDL := Lib.hid hdl
         clear hw hun hcl hdl hT
         simp only [fillR, Act.put, List.setIfInBounds_toArray, List.set_cons_succ, List.set_cons_zero]
         obtain ⟨tv, e3, ho3⟩ := t0
         have HO3 := Lib.hid ho3
         rw [e3]
         clear e3 ho3
         have h3 : L 3 = true := HDL.out 3 (by kernel_rfl)
         have h5 : L 5 = false := HCL.out 5 (by kernel_rfl)
         have h7 : L 7 = false := HCL.out 7 (by kernel_rfl)
         have PO9 := Lib.hid (HW.out.2.1 h7); have OW9 := Lib.hid (HW.out.2.2.1 h5)
         have hb : Below w9.heap.size w9 (w9.alloc (.cells (rcells r tv).toArray TRulC)) := by go_grown
         go_wp2
         exact ⟨_, rfl, rfl, ⟨HW.out.1.keep (KeepP.below hb HW.out.1.size), fun _ => PO9.out.below hb PO9.out.lt, fun _ => OW9.out.alloc _, fun h => (by rw [putL_ne (by decide), h3] at h; cases h), fun h => (by rw [putL_ne (by decide), h7] at h; cases h)⟩, ruR.below hb, fun _ => ⟨w9.heap.size, tv, rfl, Blk.new _ _ _, HO3.out.alloc _⟩⟩
       refine wpRel_step [46, 49] (by kernel_rfl) (fun L kk w9 vals hk' hw hun hcl hdl hT => ?_) ?_
       · have t0 := hT 1 46 (by kernel_rfl) (.inl rfl)
         have t1 := hT 4 49 (by kernel_rfl) (.inr rfl)
         have HW := Lib.hid hw; have HUN := Lib.hid hun; have HCL := Lib.hid hcl; have HDL := Lib.hid hdl
         clear hw hun hcl hdl hT
         simp only [fillR, Act.put, List.setIfInBounds_toArray, List.set_cons_succ, List.set_cons_zero]
         obtain ⟨b4, tv, e4, hb4, ho4⟩ := t1
         have HB4 := Lib.hid hb4; have HO4 := Lib.hid ho4
         clear hb4 ho4
         rw [e4]
         rw [show vals 46 = Value.slice A k c from t0]
         clear t0
         have h3 : L 3 = true := HDL.out 3 (by kernel_rfl)
         have h7 : L 7 = false := HCL.out 7 (by kernel_rfl)
         have PO9 := Lib.hid (HW.out.2.1 h7); have OW9 := Lib.hid (HW.out.2.2.1 HUN.out)
         have hzz := HW.out.1.size
         obtain ⟨i0, hi0, hz0, hz1, hz2⟩ := info_parts info_RuleM
         go_wp2_with (at_builtin; go_must (refine wpList_append_own _ rfl (.tmp 46) (.tmp 49) _ rfl (sb + 1) TRulC i0 _ 4 48 Tryz.underlying33 hi0 hz0 hz1 hz2 rfl (by omega) (.slice A k c) k css.flatten rfl OW9.out ⟨b4, 0, none⟩ 1 1 (rcells r tv) rfl rfl (blk_flatC HB4.out) (rcells_one HO4.out) (by unfold maxLen; omega) (by omega) (by omega) ?_); intro v7 w7 hown7 hg7 _; have HO7 := Lib.hid hown7; have HG7 := Lib.hid hg7; clear hown7 hg7)
         have hkp : KeepP w.heap.size (sb + 1) w9 w7 := KeepP.app OW9.out HG7.out hzz
         exact ⟨_, rfl, rfl, ⟨HW.out.1.keep hkp, fun _ => PO9.out.grown HG7.out (fun e => own_blk_ne OW9.out PO9.out (by decide) e.symm), fun h => (by simp [putL] at h), fun h => (by rw [putL_ne (by decide), h3] at h; cases h), fun h => (by rw [putL_ne (by decide), h7] at h; cases h)⟩, ⟨hkp.tests, fun h => absurd rfl h⟩, fun _ => ⟨tv, HO7.out, own_kind HO4.out hkp.tests⟩⟩
       refine wpRel_step [] (by kernel_rfl) (fun L kk w9 vals hk' hw hun hcl hdl hT => ?_) ?_
       · have HW := Lib.hid hw; have HUN := Lib.hid hun; have HCL := Lib.hid hcl; have HDL := Lib.hid hdl
         clear hw hun hcl hdl hT
         simp only [fillR, Act.put, List.setIfInBounds_toArray, List.set_cons_succ, List.set_cons_zero]
         go_wp2
         exact ⟨_, rfl, rfl, ⟨HW.out.1, fun h => HW.out.2.1 ((putL_ne (by decide)).symm.trans h), fun h => HW.out.2.2.1 ((putL_ne (by decide)).symm.trans h), fun h => HW.out.2.2.2.1 ((putL_ne (by decide)).symm.trans h), fun h => HW.out.2.2.2.2 ((putL_ne (by decide)).symm.trans h)⟩, ruR.below (Below.refl _ _), fun _ => rfl⟩
       refine wpRel_step [51, 50] (by kernel_rfl) (fun L kk w9 vals hk' hw hun hcl hdl hT => ?_) ?_
       · have t0 := hT 6 51 (by kernel_rfl) (.inl rfl)
         have t1 := hT 5 50 (by kernel_rfl) (.inl rfl)
         have HW := Lib.hid hw; have HUN := Lib.hid hun; have HCL := Lib.hid hcl; have HDL := Lib.hid hdl
         clear hw hun hcl hdl hT
         simp only [fillR, Act.put, List.setIfInBounds_toArray, List.set_cons_succ, List.set_cons_zero]
         obtain ⟨tv, ho5, ht5⟩ := t1
         have HT5 := Lib.hid ho5; have HTT := Lib.hid ht5
         clear ho5 ht5
         obtain ⟨u5, hu5⟩ : ∃ u, u = vals 50 := ⟨_, rfl⟩
         rw [← hu5] at HT5 ⊢
         clear hu5
         obtain ⟨b5, c5, rfl, hb5, hb5'⟩ := HT5.out.form (by omega)
         rw [show vals 51 = Value.pointer (some ⟨w.heap.size, 0, none⟩) from t0]
         clear t0
         have h3 : L 3 = true := HDL.out 3 (by kernel_rfl)
         have h5 : L 5 = true := HDL.out 5 (by kernel_rfl)
         have PO9 := Lib.hid (HW.out.2.1 HUN.out)
         have y0 := (show _ = some (Value.slice A k c) from PO9.out.cell 0); have q0 := PO9.out.frozen 0
         have hkp : KeepP w.heap.size (sb + 1) w9 (w9.setCell ⟨w.heap.size, 0, none⟩ (.slice (some ⟨b5, 0, none⟩) (k + 1) c5)) := KeepP.set PO9.out
         have hrul : ∀ j cs, Blk w9 j TRulC cs → Blk (w9.setCell ⟨w.heap.size, 0, none⟩ (.slice (some ⟨b5, 0, none⟩) (k + 1) c5)) j TRulC cs := fun j cs h => h.far (show j ≠ w.heap.size by intro e; subst e; have := h.symm.trans PO9.out; injection this with e1; injection e1 with e2 e3; exact absurd e3 (by decide)) _
         have PO10 := Lib.hid (PO9.out.set_ 0 (.slice (some ⟨b5, 0, none⟩) (k + 1) c5))
         go_wp2
         exact ⟨undef, rfl, rfl, ⟨HW.out.1.keep hkp, fun h => (by simp [putL] at h), fun h => (by rw [putL_ne (by decide), h5] at h; cases h), fun h => (by rw [putL_ne (by decide), h3] at h; cases h), fun _ => ⟨_, tv, PO10.out, own_kind HT5.out hrul, own_kind HTT.out hkp.tests⟩⟩, ⟨hkp.tests, fun _ => hrul⟩, fun h => absurd rfl h⟩
       refine wpRel_end [45, 46, 47, 48, 49, 50, 51] (by kernel_rfl) (fun L w9 vals hl hw hT => ?_)
       obtain ⟨rv', tv, hp9, ho9, ht9⟩ := hw.2.2.2.2 (hl 7 (by decide))
       have HP9 := Lib.hid (show PB w w9 w.heap.size (w.heap.size + 1) sb (sb + 1) ws (rs ++ [r]) (css ++ [rcells r tv]) from
         { hw.1 with rules := hw.1.rules.snoc ⟨tv, rfl, ht9⟩ })
       have HPO9 := Lib.hid hp9; have HOW9 := Lib.hid (show w9.ownsRow (sb + 1) TRulC 4 rv' (k + 1) (css ++ [rcells r tv]).flatten by simpa using ho9)
       clear hl hw hT hp9 ho9 ht9
       simp only [fillR, Act.put, List.setIfInBounds_toArray, List.set_cons_succ, List.set_cons_zero]
       go_wp2
       exact ⟨⟨k + 1, rv', css ++ [rcells r tv], rs ++ [r], by omega, by omega, by go_num, Lib.hid ⟨fun x hx => by
         rcases List.mem_append.1 hx with hx | hx
         · exact HRS.out.1 x hx
         · rw [List.mem_singleton.1 hx]; exact HRO.out, by simp [HRS.out.2.1], by rw [List.take_add_one, HRS.out.2.2, HLK.out]; simp⟩, HP9, HPO9, HOW9⟩, by simp [intOf]; omega⟩
     · refine wp_region_relP (fun c' w' => c' = faultP ((k : Int) + 1) ∧ PB w w' w.heap.size (w.heap.size + 1) sb (sb + 1) ws rs css ∧ Blk w' w.heap.size TPolC #[.slice A k c, .int .i64 0]) (noRU w.heap.size cg) (fun _ => none) (fun L _ w' => L 3 = false ∧ L 4 = false ∧ L 5 = false ∧ PB w w' w.heap.size (w.heap.size + 1) sb (sb + 1) ws rs css ∧ Blk w' w.heap.size TPolC #[.slice A k c, .int .i64 0] ∧ Blk w' cg TCur #[.string ⟨lk.toArray⟩, .int .i64 ((k : Int) + 1)]) (fun _ _ _ => True) ?hX (by kernel_rfl) (by kernel_rfl) ⟨rfl, rfl, rfl, HP1.out.keep (KeepP.below (Below.refl _ _).drew HP1.out.size), HPO1.out, KC.out⟩ (fun _ j _ _ _ _ _ _ _ hT => noRU_keep j hT) ?_
       case hX =>
         rintro c' ⟨tm', df'⟩ w' hd hev ⟨rfl, hp, hpo⟩
         have hv2 := hev 2 (by kernel_rfl); have hv3 := hev 3 (by kernel_rfl)
         clear hev
         have hv2' : tm'[2]?.getD undef = Value.pointer (some ⟨w.heap.size, 0, none⟩) := (Array.getD_eq_getD_getElem? ..).symm.trans hv2
         have hv3' : tm'[3]?.getD undef = Value.pointer (some ⟨w.heap.size + 1, 0, none⟩) := (Array.getD_eq_getD_getElem? ..).symm.trans hv3
         clear hv2 hv3
         have HP7 := Lib.hid hp; have HPO7 := Lib.hid hpo
         clear hp hpo
         simp only at hd
         subst hd
         show bodyPostD Tryz.prog Tryz.f21 (NoPol w) (.panic (faultP ((k : Int) + 1))) _ w'
         refine leaves_cons (f := 39) (args := #[.pointer (some ⟨w.heap.size, 0, none⟩), .pointer (some ⟨w.heap.size + 1, 0, none⟩)]) (by simp) (by simp [go_sem]) ?_
         refine (catch_fault w.heap.size ((k : Int) + 1) _ _ _ _ HPO7.out HP7.out.fault (by omega)).mono ?_
         rintro e u' w'' ⟨rfl, rfl, KP8, KF8, hk8⟩
         have HB8 := Lib.hid (HP7.out.below.trans hk8)
         have y0 := (show w''.cell? ⟨w.heap.size, 0, none⟩ = some (Value.slice none 0 0) from KP8.cell 0); have y1 := (show w''.cell? ⟨w.heap.size, 1, none⟩ = some (Value.int .i64 0) from KP8.cell 1); have y2 := (show w''.cell? ⟨w.heap.size + 1, 0, none⟩ = some (Value.int .i64 ((k : Int) + 1)) from KF8.cell 0)
         clear KP8 KF8 hk8
         simp [Leaves, settle, results, Tryz.results21, go_sem, y0, y1, y2, hv2', hv3']
         exact ⟨_, rfl, by omega, HB8.out⟩
       refine wpRelP_step [] (by kernel_rfl) (fun L kk w9 vals hk' hw hun hcl hdl hT => ?_) ?_
       · have HW := Lib.hid hw
         clear hw hun hcl hdl hT
         simp only [fillR, Act.put, List.setIfInBounds_toArray, List.set_cons_succ, List.set_cons_zero]
         go_wp2
         exact ⟨_, rfl, rfl, ⟨(putL_ne (by decide)).trans HW.out.1, (putL_ne (by decide)).trans HW.out.2.1, (putL_ne (by decide)).trans HW.out.2.2.1, HW.out.2.2.2⟩, trivial, fun _ => rfl⟩
       refine wpRelP_step [45] (by kernel_rfl) (fun L kk w9 vals hk' hw hun hcl hdl hT => ?_) ?_
       · have t0 := hT 0 45 (by kernel_rfl) (.inl rfl)
         have HW := Lib.hid hw
         clear hw hun hcl hdl hT
         simp only [fillR, Act.put, List.setIfInBounds_toArray, List.set_cons_succ, List.set_cons_zero]
         rw [show vals 45 = Value.pointer (some ⟨w.heap.size, 0, none⟩) from t0]
         clear t0
         have y0 := (show _ = some (Value.slice A k c) from HW.out.2.2.2.2.1.cell 0)
         go_wp2
         exact ⟨_, rfl, rfl, ⟨(putL_ne (by decide)).trans HW.out.1, (putL_ne (by decide)).trans HW.out.2.1, (putL_ne (by decide)).trans HW.out.2.2.1, HW.out.2.2.2⟩, trivial, fun _ => trivial⟩
       refine wpRelP_step [] (by kernel_rfl) (fun L kk w9 vals hk' hw hun hcl hdl hT => ?_) ?_
       · have HW := Lib.hid hw
         clear hw hun hcl hdl hT
         simp only [fillR, Act.put, List.setIfInBounds_toArray, List.set_cons_succ, List.set_cons_zero]
         go_wp2
         exact ⟨_, rfl, rfl, ⟨(putL_ne (by decide)).trans HW.out.1, (putL_ne (by decide)).trans HW.out.2.1, (putL_ne (by decide)).trans HW.out.2.2.1, HW.out.2.2.2⟩, trivial, fun _ => rfl⟩
       refine wpRelP_step [47] (by kernel_rfl) (fun L kk w9 vals hk' hw hun hcl hdl hT => ?_) ?_
       · have t0 := hT 2 47 (by kernel_rfl) (.inl rfl)
         have HW := Lib.hid hw
         clear hw hun hcl hdl hT
         simp only [fillR, Act.put, List.setIfInBounds_toArray, List.set_cons_succ, List.set_cons_zero]
         rw [show vals 47 = Value.pointer (some ⟨cg, 0, none⟩) from t0]
         clear t0
         go_wp2_with fail
         refine (rule_throws cg ((k : Int) + 1) lk w9 HW.out.2.2.2.2.2 HRL.out hfine).mono ?_; rintro e w10 ⟨rfl, hg10⟩
         have HPX := Lib.hid (HW.out.2.2.2.1.keep (KeepP.grown hg10 HW.out.2.2.2.2.2 hcgB)); have HPY := Lib.hid (HW.out.2.2.2.2.1.grown hg10 (by intro e; cases e; have := HW.out.2.2.2.1.o2; have := HW.out.2.2.2.1.o3; omega))
         clear hg10
         go_wp2
         exact ⟨rfl, HPX.out, HPY.out⟩
       refine wpRelP_step [48] (by kernel_rfl) (fun L kk w9 vals hk' hw hun hcl hdl hT => ?_) ?_
       · exact absurd (hdl 3 (by kernel_rfl)) (by simp [hw.1, hw.2.1, hw.2.2.1])
       refine wpRelP_step [46, 49] (by kernel_rfl) (fun L kk w9 vals hk' hw hun hcl hdl hT => ?_) ?_
       · exact absurd (hdl 4 (by kernel_rfl)) (by simp [hw.1, hw.2.1, hw.2.2.1])
       refine wpRelP_step [] (by kernel_rfl) (fun L kk w9 vals hk' hw hun hcl hdl hT => ?_) ?_
       · have HW := Lib.hid hw
         clear hw hun hcl hdl hT
         simp only [fillR, Act.put, List.setIfInBounds_toArray, List.set_cons_succ, List.set_cons_zero]
         go_wp2
         exact ⟨_, rfl, rfl, ⟨(putL_ne (by decide)).trans HW.out.1, (putL_ne (by decide)).trans HW.out.2.1, (putL_ne (by decide)).trans HW.out.2.2.1, HW.out.2.2.2⟩, trivial, fun _ => trivial⟩
       refine wpRelP_step [51, 50] (by kernel_rfl) (fun L kk w9 vals hk' hw hun hcl hdl hT => ?_) ?_
       · exact absurd (hdl 5 (by kernel_rfl)) (by simp [hw.1, hw.2.1, hw.2.2.1])
       refine wpRelP_end [45, 46, 47, 48, 49, 50, 51] (by kernel_rfl) (fun L w9 vals hl hw hT => ?_)
       exact absurd (hl 3 (by decide)) (by simp [hw.1])
   · obtain rfl : k = N := by omega
     have hki : ¬ (k : Int) < k := by omega
     obtain ⟨last, hlk⟩ : ∃ lk, ws[k]? = some lk := ⟨_, List.getElem?_eq_getElem (by have := HN2.out; omega)⟩
     obtain ⟨past, hpk⟩ : ∃ lk, ws[k + 1]? = some lk := ⟨_, List.getElem?_eq_getElem (by have := HN2.out; omega)⟩
     have HLK := Lib.hid hlk; have HPK := Lib.hid hpk
     have c0 := rows_cell HP.out.rows hlk
     obtain ⟨cg, hcg⟩ : ∃ cg, cg = wr.heap.size := ⟨_, rfl⟩
     obtain ⟨W1, hW1⟩ : ∃ W, W = wr.alloc (.cells #[.string ⟨last.toArray⟩, .int .i64 ((k : Int) + 1)] TCur) := ⟨_, rfl⟩
     have b1 : Below wr.heap.size wr W1 := by rw [hW1]; go_grown
     have KC := Lib.hid (show Blk W1 cg TCur #[.string ⟨last.toArray⟩, .int .i64 ((k : Int) + 1)] by rw [hW1, hcg]; exact Blk.new _ _ _)
     have HP1 := Lib.hid (HP.out.keep (KeepP.below (pb := w.heap.size) b1 HP.out.size)); have HPO1 := Lib.hid (HPO.out.below b1 HPO.out.lt)
     have hcgB : sb + 1 ≤ cg := by rw [hcg]; exact HP.out.size
     have HW1 := Lib.hid hW1
     have HCG := Lib.hid hcg
     clear hlk hpk b1 hcg hW1 HP HPO HOW
     go_wp2_with (rw [← HW1.out, ← HCG.out])
     clear c0
     by_cases hel : ∃ els : Int, (1 ≤ els ∧ els ≤ 4) ∧ last = elseLine els
     case neg =>
       refine (other_no cg _ last W1 KC.out hel).mono ?_; rintro e w5 ⟨rfl, hg5⟩
       have HP7 := Lib.hid (HP1.out.keep (KeepP.grown hg5 KC.out hcgB)); have HPO7 := Lib.hid (HPO1.out.grown hg5 (by intro e; cases e; have := HP1.out.o2; have := HP1.out.o3; omega))
       clear hg5
       go_wp2
       refine leaves_cons (f := 39) (args := #[.pointer (some ⟨w.heap.size, 0, none⟩), .pointer (some ⟨w.heap.size + 1, 0, none⟩)]) (by simp) (by simp [go_sem]) ?_
       refine (catch_fault w.heap.size ((k : Int) + 1) _ _ _ _ HPO7.out HP7.out.fault (by omega)).mono ?_
       rintro e u' w'' ⟨rfl, rfl, KP8, KF8, hk8⟩
       have HB8 := Lib.hid (HP7.out.below.trans hk8)
       have y0 := (show w''.cell? ⟨w.heap.size, 0, none⟩ = some (Value.slice none 0 0) from KP8.cell 0); have y1 := (show w''.cell? ⟨w.heap.size, 1, none⟩ = some (Value.int .i64 0) from KP8.cell 1); have y2 := (show w''.cell? ⟨w.heap.size + 1, 0, none⟩ = some (Value.int .i64 ((k : Int) + 1)) from KF8.cell 0)
       clear KP8 KF8 hk8
       simp [Leaves, settle, results, Tryz.results21, go_sem, y0, y1, y2]
       exact ⟨_, rfl, by omega, HB8.out⟩
     obtain ⟨els, he, hle⟩ := hel
     have HE := Lib.hid he
     subst hle
     refine (other_yes cg _ els W1 KC.out he).mono ?_; rintro e w5 ⟨rfl, hc5⟩
     have HP5 := Lib.hid (HP1.out.keep (KeepP.call hc5 KC.out hcgB)); have HPO5 := Lib.hid (cur_tests hc5 KC.out (by decide) _ _ HPO1.out)
     clear hc5 he
     have y1 := (show w5.cell? ⟨w.heap.size, 1, none⟩ = some (Value.int .i64 0) from HPO5.out.cell 1); have q1 := HPO5.out.frozen 1
     obtain ⟨W6, hW6⟩ : ∃ W, W = w5.setCell ⟨w.heap.size, 1, none⟩ (.int .i64 els) := ⟨_, rfl⟩
     have HP6 : Hid (PB w W6 w.heap.size (w.heap.size + 1) sb (sb + 1) ws rs css) := by rw [hW6]; exact Lib.hid (HP5.out.keep (KeepP.set HPO5.out))
     have HPO6 : Hid (Blk W6 w.heap.size TPolC #[rv, .int .i64 els]) := by rw [hW6]; exact Lib.hid (HPO5.out.set_ 1 _)
     have c1w : (w5.setCell ⟨w.heap.size, 1, none⟩ (.int .i64 els)).cell? ⟨sb, k + 1, none⟩ = some (.string ⟨past.toArray⟩) := by rw [← hW6]; exact rows_cell HP6.out.rows HPK.out
     have c1v : w5.cell? ⟨sb, k + 1, none⟩ = some (.string ⟨past.toArray⟩) := rows_cell HP5.out.rows HPK.out
     have HW6 := Lib.hid hW6
     obtain ⟨W7, hW7⟩ : ∃ W, W = W6.alloc (.cells #[.string ⟨past.toArray⟩, .int .i64 ((k : Int) + 2)] TCur) := ⟨_, rfl⟩
     have b7 : Below W6.heap.size W6 W7 := by rw [hW7]; go_grown
     have hs6 : W6.heap.size = w5.heap.size := by rw [hW6]; simp
     have KC7 : Hid (Blk W7 w5.heap.size TCur #[.string ⟨past.toArray⟩, .int .i64 ((k : Int) + 2)]) := by
       rw [← hs6, hW7]
       exact Lib.hid (Blk.new W6 TCur #[.string ⟨past.toArray⟩, .int .i64 ((k : Int) + 2)])
     have x7 := (show W7.cell? ⟨w5.heap.size, 0, none⟩ = some (Value.string ⟨past.toArray⟩) from KC7.out.cell 0)
     have HP7 := Lib.hid (HP6.out.keep (KeepP.below (pb := w.heap.size) b7 HP6.out.size)); have HPO7 := Lib.hid (HPO6.out.below b7 HPO6.out.lt)
     have HW7 := Lib.hid hW7
     have hpe : past ≠ [] := fun e => HN.out (pol_made HWS.out HN2.out (by omega) HRS.out.2.2 HRS.out.1 (by have := HRS.out.2.1; omega) HE.out HLK.out (by rw [← e]; exact HPK.out))
     have hpb : (⟨past.toArray⟩ : ByteArray).data.toList.isEmpty = false := by
       cases past with
       | nil => exact absurd rfl hpe
       | cons a b => rfl
     clear hW6 hW7 b7 hs6 hpe
     go_wp2_with (rw [← HW6.out, ← HW7.out])
     clear c1w c1v y1 q1
     refine (doneC_any ⟨past.toArray⟩ w5.heap.size 0 W7 x7).mono ?_; rintro e w8 ⟨rfl, rfl⟩
     rw [hpb]
     go_wp2_with fail
     refine (need_no w5.heap.size _ _ _ KC7.out).mono ?_; rintro e w9 ⟨rfl, hb9⟩
     have HP9 := Lib.hid (HP7.out.keep (KeepP.below (pb := w.heap.size) hb9 HP7.out.size)); have HPO9 := Lib.hid (HPO7.out.below hb9 HPO7.out.lt)
     clear hb9 x7 hpb
     go_wp2
     refine leaves_cons (f := 39) (args := #[.pointer (some ⟨w.heap.size, 0, none⟩), .pointer (some ⟨w.heap.size + 1, 0, none⟩)]) (by simp) (by simp [go_sem]) ?_
     refine (catch_fault w.heap.size ((k : Int) + 2) _ _ _ _ HPO9.out HP9.out.fault (by omega)).mono ?_
     rintro e u' w'' ⟨rfl, rfl, KP8, KF8, hk8⟩
     have HB8 := Lib.hid (HP9.out.below.trans hk8)
     have y0 := (show w''.cell? ⟨w.heap.size, 0, none⟩ = some (Value.slice none 0 0) from KP8.cell 0); have y1 := (show w''.cell? ⟨w.heap.size, 1, none⟩ = some (Value.int .i64 0) from KP8.cell 1); have y2 := (show w''.cell? ⟨w.heap.size + 1, 0, none⟩ = some (Value.int .i64 ((k : Int) + 2)) from KF8.cell 0)
     clear KP8 KF8 hk8
     simp [Leaves, settle, results, Tryz.results21, go_sem, y0, y1, y2]
     exact ⟨_, rfl, by omega, HB8.out⟩
end Go.Proofs.YtdjgicapbpoigaaGreatDoor
