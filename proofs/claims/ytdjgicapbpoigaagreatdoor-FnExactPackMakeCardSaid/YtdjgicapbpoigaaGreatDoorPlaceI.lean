/- impl's reader reads one place of a program: the walk. -/
import Derived.Test.YtdjgicapbpoigaaGreatDoorPlace
namespace Go.Proofs.YtdjgicapbpoigaaGreatDoor
open Go.RowKit
set_option linter.unusedSimpArgs false
set_option linter.unusedVariables false

theorem Blk.next2 (w : World) (o : Obj) (t : TypeId) (cs : Array Value) : Blk ((w.alloc o).alloc (.cells cs t)) (w.heap.size + 1) t cs := by
 have := Blk.new (w.alloc o) t cs
 rwa [show (w.alloc o).heap.size = w.heap.size + 1 by simp] at this
structure Pl (w wr : World) (gr : Nat) (rest : List UInt8) (x : In4) : Prop where
 r : Blk wr gr 91 #[.string ⟨rest.toArray⟩]
 t2 : Blk wr w.heap.size 63 #[.int .i64 0, .int .i64 0, .int .i64 0, .int .i64 0]
 t4 : Blk wr (w.heap.size + 1) 63 #[.int .i64 x.op, .int .i64 x.k, .int .i64 x.yes, .int .i64 x.no]
 grown : w.grownBy wr (some gr)
 lt : gr < w.heap.size
 few : rest.length ≤ 1048576

theorem Pl.set_ {w wr : World} {gr : Nat} {rest : List UInt8} {x : In4} (h : Pl w wr gr rest x) (q : List UInt8) (hq : q.length ≤ 1048576) : Pl w (wr.setCell ⟨gr, 0, none⟩ (.string ⟨q.toArray⟩)) gr q x :=
 ⟨h.r.set_ 0 _, h.t2.far (by have := h.lt; simp; omega) _, h.t4.far (by have := h.lt; simp; omega) _, h.grown.trans (grown_set _ _ _ _), h.lt, hq⟩
theorem Pl.op {w wr : World} {gr : Nat} {rest : List UInt8} {x : In4} (h : Pl w wr gr rest x) (v : Int) : Pl w (wr.setCell ⟨w.heap.size + 1, 0, none⟩ (.int .i64 v)) gr rest ⟨v, x.k, x.yes, x.no⟩ :=
 ⟨h.r.far (by have := h.lt; simp; omega) _, h.t2.far (by simp) _, h.t4.set_ 0 _, grown_new h.grown (by omega) _, h.lt, h.few⟩
theorem Pl.k {w wr : World} {gr : Nat} {rest : List UInt8} {x : In4} (h : Pl w wr gr rest x) (v : Int) : Pl w (wr.setCell ⟨w.heap.size + 1, 1, none⟩ (.int .i64 v)) gr rest ⟨x.op, v, x.yes, x.no⟩ :=
 ⟨h.r.far (by have := h.lt; simp; omega) _, h.t2.far (by simp) _, h.t4.set_ 1 _, grown_new h.grown (by omega) _, h.lt, h.few⟩
theorem Pl.yes {w wr : World} {gr : Nat} {rest : List UInt8} {x : In4} (h : Pl w wr gr rest x) (v : Int) : Pl w (wr.setCell ⟨w.heap.size + 1, 2, none⟩ (.int .i64 v)) gr rest ⟨x.op, x.k, v, x.no⟩ :=
 ⟨h.r.far (by have := h.lt; simp; omega) _, h.t2.far (by simp) _, h.t4.set_ 2 _, grown_new h.grown (by omega) _, h.lt, h.few⟩
theorem Pl.no {w wr : World} {gr : Nat} {rest : List UInt8} {x : In4} (h : Pl w wr gr rest x) (v : Int) : Pl w (wr.setCell ⟨w.heap.size + 1, 3, none⟩ (.int .i64 v)) gr rest ⟨x.op, x.k, x.yes, v⟩ :=
 ⟨h.r.far (by have := h.lt; simp; omega) _, h.t2.far (by simp) _, h.t4.set_ 3 _, grown_new h.grown (by omega) _, h.lt, h.few⟩
theorem Pl.below {w wr w2 : World} {gr B : Nat} {rest : List UInt8} {x : In4} (h : Pl w wr gr rest x) (hb : Below B wr w2) (hB : w.heap.size + 2 ≤ B) : Pl w w2 gr rest x :=
 ⟨h.r.below hb (by have := h.lt; omega), h.t2.below hb (by omega), h.t4.below hb (by omega), grown_then h.grown hb (by omega), h.lt, h.few⟩
theorem Pl.room {w wr : World} {gr : Nat} {rest : List UInt8} {x : In4} (h : Pl w wr gr rest x) : w.heap.size + 2 ≤ wr.heap.size := by have := h.t4.lt; omega

theorem Pl.skip {w wr : World} {gr : Nat} {rest : List UInt8} {x : In4} (h : Pl w wr gr rest x) (p : ByteArray) :
   Calls Tryz.prog 75 #[.pointer (some ⟨gr, 0, none⟩), .string p] wr fun e w1 =>
     (∃ t, rest = p.data.toList ++ t ∧ e = .returned (.bool true) ∧ Pl w w1 gr t x ∧ wr.grownBy w1 (some gr)) ∨ ((¬ ∃ t, rest = p.data.toList ++ t) ∧ e = .returned (.bool false) ∧ Pl w w1 gr rest x ∧ wr.grownBy w1 (some gr)) := by
 have hf := h.few
 by_cases hp : ∃ t, rest = p.data.toList ++ t
 · obtain ⟨t, ht⟩ := hp
   refine (skip_yes ⟨rest.toArray⟩ p t gr 0 wr (h.r.cell 0) (h.r.frozen 0) (by simpa using ht)).mono ?_
   rintro e w1 ⟨rfl, rfl⟩
   exact .inl ⟨t, ht, rfl, h.set_ t (by have := congrArg List.length ht; simp at this; omega), grown_set _ _ _ _⟩
 · refine (skip_no ⟨rest.toArray⟩ p gr 0 wr (h.r.cell 0) (h.r.frozen 0) (by simpa using hp)).mono ?_
   rintro e w1 ⟨rfl, rfl⟩
   exact .inr ⟨hp, rfl, h.set_ rest hf, grown_set _ _ _ _⟩
theorem Pl.skipY {w wr : World} {gr : Nat} {rest : List UInt8} {x : In4} (h : Pl w wr gr rest x) (p : ByteArray) (t : List UInt8) (ht : rest = p.data.toList ++ t) :
   Calls Tryz.prog 75 #[.pointer (some ⟨gr, 0, none⟩), .string p] wr fun e w1 => e = .returned (.bool true) ∧ Pl w w1 gr t x := by
 refine (h.skip p).mono ?_
 rintro e w1 (⟨t', ht', rfl, h1, _⟩ | ⟨hn, _⟩)
 · obtain rfl : t = t' := by rw [ht] at ht'; exact List.append_cancel_left ht'
   exact ⟨rfl, h1⟩
 · exact absurd ⟨t, ht⟩ hn
theorem Pl.skipN {w wr : World} {gr : Nat} {rest : List UInt8} {x : In4} (h : Pl w wr gr rest x) (p : ByteArray) (hn : ¬ ∃ t, rest = p.data.toList ++ t) :
   Calls Tryz.prog 75 #[.pointer (some ⟨gr, 0, none⟩), .string p] wr fun e w1 => e = .returned (.bool false) ∧ Pl w w1 gr rest x := by
 refine (h.skip p).mono ?_
 rintro e w1 (⟨t', ht', _⟩ | ⟨_, rfl, h1, _⟩)
 · exact absurd ⟨t', ht'⟩ hn
 · exact ⟨rfl, h1⟩
theorem Pl.drew {w wr : World} {gr : Nat} {rest : List UInt8} {x : In4} (h : Pl w wr gr rest x) : Pl w wr.drew gr rest x := h.below ((Below.refl _ _).drew) h.room
theorem Pl.number {w wr : World} {gr : Nat} {rest : List UInt8} {x : In4} (h : Pl w wr gr rest x) (most : Int) (h0 : 0 ≤ most) (h1 : most ≤ 4294967295) :
   Calls Tryz.prog 94 #[.pointer (some ⟨gr, 0, none⟩), .int .i64 most] wr fun e w1 =>
     (∃ v t, NumAt most rest v t ∧ e = .returned (.tuple #[.int .i64 v, .bool true]) ∧ Pl w w1 gr t x ∧ wr.grownBy w1 (some gr)) ∨ ((¬ ∃ v t, NumAt most rest v t) ∧ e = .returned (.tuple #[.int .i64 0, .bool false]) ∧ Pl w w1 gr rest x ∧ wr.grownBy w1 (some gr)) := by
 have hf := h.few
 refine (number_any most ⟨rest.toArray⟩ gr 0 wr (h.r.cell 0) (h.r.frozen 0) (by simp [ByteArray.size]; omega) h0 h1).mono ?_
 rintro e w1 (⟨v, t, hn, rfl, rfl⟩ | ⟨hn, rfl, rfl | rfl⟩)
 · have hn' : NumAt most rest v t := by simpa using hn
   exact .inl ⟨v, t, hn', rfl, h.set_ t (by have := congrArg List.length hn'.2.1; simp at this; omega), grown_set _ _ _ _⟩
 · exact .inr ⟨by simpa using hn, rfl, h, World.grownBy.refl _ _⟩
 · exact .inr ⟨by simpa using hn, rfl, h.set_ rest hf, grown_set _ _ _ _⟩
theorem Pl.cells {w wr : World} {gr : Nat} {rest : List UInt8} {x : In4} (h : Pl w wr gr rest x) :
   (wr.cell? ⟨w.heap.size + 1, 0, none⟩ = some (.int .i64 x.op) ∧ wr.cell? ⟨w.heap.size + 1, 1, none⟩ = some (.int .i64 x.k) ∧ wr.cell? ⟨w.heap.size + 1, 2, none⟩ = some (.int .i64 x.yes) ∧ wr.cell? ⟨w.heap.size + 1, 3, none⟩ = some (.int .i64 x.no)) ∧
   (wr.frozen? ⟨w.heap.size + 1, 0, none⟩ = false ∧ wr.frozen? ⟨w.heap.size + 1, 1, none⟩ = false ∧ wr.frozen? ⟨w.heap.size + 1, 2, none⟩ = false ∧ wr.frozen? ⟨w.heap.size + 1, 3, none⟩ = false) ∧
   (wr.cell? ⟨w.heap.size, 0, none⟩ = some (.int .i64 0) ∧ wr.cell? ⟨w.heap.size, 1, none⟩ = some (.int .i64 0) ∧ wr.cell? ⟨w.heap.size, 2, none⟩ = some (.int .i64 0) ∧ wr.cell? ⟨w.heap.size, 3, none⟩ = some (.int .i64 0)) ∧
   (wr.frozen? ⟨w.heap.size, 0, none⟩ = false ∧ wr.frozen? ⟨w.heap.size, 1, none⟩ = false ∧ wr.frozen? ⟨w.heap.size, 2, none⟩ = false ∧ wr.frozen? ⟨w.heap.size, 3, none⟩ = false) :=
 ⟨⟨h.t4.cell 0, h.t4.cell 1, h.t4.cell 2, h.t4.cell 3⟩, ⟨h.t4.frozen 0, h.t4.frozen 1, h.t4.frozen 2, h.t4.frozen 3⟩, ⟨h.t2.cell 0, h.t2.cell 1, h.t2.cell 2, h.t2.cell 3⟩, ⟨h.t2.frozen 0, h.t2.frozen 1, h.t2.frozen 2, h.t2.frozen 3⟩⟩

def PlacePost (rest : List UInt8) (gr : Nat) (w : World) (en : Ending) (w' : World) : Prop :=
 (∃ x r, PlaceAt rest x r ∧ en = .returned (.tuple #[.agg #[.int .i64 x.op, .int .i64 x.k, .int .i64 x.yes, .int .i64 x.no], .bool true]) ∧ Blk w' gr 91 #[.string ⟨r.toArray⟩] ∧ w.grownBy w' (some gr)) ∨
 ((¬ ∃ x r, PlaceAt rest x r) ∧ ∃ a b c d, en = .returned (.tuple #[.agg #[.int .i64 a, .int .i64 b, .int .i64 c, .int .i64 d], .bool false]) ∧ w.grownBy w' (some gr))

set_option maxHeartbeats 8000000 in
theorem insPlace_any (rest : List UInt8) (gr : Nat) (w : World) (hg : Blk w gr 91 #[.string ⟨rest.toArray⟩]) (hf : rest.length ≤ 1048576) :
   Calls Tryz.prog 60 #[.pointer (some ⟨gr, 0, none⟩)] w (PlacePost rest gr w) := by
 have hlt := hg.lt
 go_enter Tryz.func60, Tryz.ntmps60
 go_wp2
 go_loopw [5] (fun v wr => ∃ i : Nat, 1 ≤ i ∧ i ≤ 7 ∧ v = .int .i64 i ∧ Hid (∀ j : Nat, 1 ≤ j → j < i → ¬ ∃ t, rest = opNm (j : Int) ++ 32 :: t) ∧ Pl w wr gr rest ⟨0, 0, 0, 0⟩) (fun v _ => 7 - (intOf v).toNat)
 case atStart => exact ⟨1, by omega, by omega, rfl, fun j h1 h2 => absurd h1 (by omega), ⟨(hg.alloc _).alloc _, (Blk.new w _ _).alloc _, Blk.next2 w _ _ _, (World.grownBy_alloc w _ _).trans (World.grownBy_alloc _ _ _), hlt, hf⟩⟩
 case round =>
   obtain ⟨i, h1, h7, rfl, hno, hst⟩ := hrel
   by_cases hi : i < 7
   · have hi6 : (i : Int) ≤ 6 := by omega
     have hnl := opNm_len (i : Int)
     have hi0 : ((i : Int) == 0) = false := by simp; omega
     go_wp2_with (first
       | (go_at_call 88; refine (opName_any _ _).mono ?_; rintro e w0 ⟨rfl, rfl⟩)
       | fail)
     refine (hst.skip _).mono ?_
     rintro e w1 (⟨t, ht, rfl, hs1, -⟩ | ⟨hnt, rfl, hs1, -⟩)
     · have ht' : rest = opNm (i : Int) ++ 32 :: t := by rw [ht]; simp
       have HT := Lib.hid ht'; clear ht ht'
       obtain ⟨⟨p0, p1, p2, p3⟩, ⟨f0, f1, f2, f3⟩, ⟨q0, q1, q2, q3⟩, ⟨g0, g1, g2, g3⟩⟩ := hs1.cells
       simp only at p0 p1 p2 p3
       have hs2 := hs1.op (i : Int)
       go_wp2_with fail
       refine (hs2.number 4294967295 (by omega) (by omega)).mono ?_
       rintro e w3 (⟨k, m, hk, rfl, hs3, -⟩ | ⟨hnk, rfl, hs3, -⟩)
       · obtain ⟨⟨p0, p1, p2, p3⟩, ⟨f0, f1, f2, f3⟩, ⟨q0, q1, q2, q3⟩, ⟨g0, g1, g2, g3⟩⟩ := hs3.cells
         simp only at p0 p1 p2 p3
         have hs4 := hs3.k k
         have HK := Lib.hid hk; clear hk
         by_cases h34 : i = 3 ∨ i = 4
         · have hd3 : (((i : Int) == 3) = true ∧ ((i : Int) == 4) = false) ∨ (((i : Int) == 3) = false ∧ ((i : Int) == 4) = true) := by simp; omega
           have hi4 : (i : Int) = 3 ∨ (i : Int) = 4 := by omega
           have HI := Lib.hid hi4; clear hi4 h34
           have hr9 := hs4.room
           have hz4 : (w3.setCell ⟨w.heap.size + 1, 1, none⟩ (.int .i64 k)).heap.size = w3.heap.size := by simp
           have hs5 := hs4.below (show Below (w3.setCell ⟨w.heap.size + 1, 1, none⟩ (.int .i64 k)).heap.size (w3.setCell ⟨w.heap.size + 1, 1, none⟩ (.int .i64 k)) ((w3.setCell ⟨w.heap.size + 1, 1, none⟩ (.int .i64 k)).alloc (.cells #[.pointer (some ⟨w.heap.size + 1, 2, none⟩), .pointer (some ⟨w.heap.size + 1, 3, none⟩)] 171)) by go_grown) hs4.room
           have hB9 := Blk.new (w3.setCell ⟨w.heap.size + 1, 1, none⟩ (.int .i64 k)) 171 #[.pointer (some ⟨w.heap.size + 1, 2, none⟩), .pointer (some ⟨w.heap.size + 1, 3, none⟩)]
           rw [hz4] at hB9 hr9
           have h9lt : w.heap.size + 1 < w3.heap.size := by omega
           have hgr : ¬ gr = w3.heap.size := by omega
           have HGR := Lib.hid hgr; clear hgr hz4
           have HB9 := Lib.hid hB9; have HS5 := Lib.hid hs5; clear hB9 hs5 hr9
           obtain ⟨e3, e4⟩ | ⟨e3, e4⟩ := hd3
           all_goals
             go_wp2
             go_loopw [48] (fun v wr => ∃ q : Nat, q ≤ 2 ∧ v = .int .i64 q ∧ ∃ rst yes no, Hid (Two m rst yes no q) ∧ Pl w wr gr rst ⟨(i : Int), k, yes, no⟩ ∧ Blk wr w3.heap.size 171 #[.pointer (some ⟨w.heap.size + 1, 2, none⟩), .pointer (some ⟨w.heap.size + 1, 3, none⟩)]) (fun v _ => 2 - (intOf v).toNat)
             case atStart => exact ⟨0, by omega, rfl, m, 0, 0, ⟨rfl, rfl, rfl⟩, HS5.out, HB9.out⟩
             case round =>
               obtain ⟨q, hq, rfl, rst, yes, no, htw, hsq, hb9⟩ := hrel
               have d0 := hb9.cell 0; have d1 := hb9.cell 1
               simp at d0 d1
               have HB := Lib.hid hb9; clear hb9
               by_cases hq2 : q < 2
               · obtain rfl | rfl : q = 0 ∨ q = 1 := by omega
                 · go_wp2_with fail
                   refine (hsq.skip ⟨#[32]⟩).mono ?_
                   rintro e w6 (⟨t2, ht2, rfl, hs6, g6⟩ | ⟨hnt, rfl, hs6, g6⟩)
                   · have HT2 := Lib.hid (show rst = [32] ++ t2 from ht2); clear ht2
                     have hb6 := HB.out.grown g6 (by intro e; exact HGR.out (by cases e; omega))
                     have HB6 := Lib.hid hb6; clear hb6
                     go_wp2_with fail
                     refine (hs6.number 6 (by omega) (by omega)).mono ?_
                     rintro e w7 (⟨v, s, hn, rfl, hs7, g7⟩ | ⟨hnn, rfl, hs7, g7⟩)
                     · have HTW := Lib.hid (show Two m s v no 1 by rw [two_no0 htw.out]; exact two_zero htw.out HT2.out hn); clear hn
                       have hb7 := HB6.out.grown g7 (by intro e; exact HGR.out (by cases e; omega))
                       have HB7 := Lib.hid hb7; clear hb7
                       obtain ⟨⟨p0, p1, p2, p3⟩, ⟨f0, f1, f2, f3⟩, ⟨q0, q1, q2, q3⟩, ⟨g0, g1, g2, g3⟩⟩ := hs7.cells
                       simp only at p0 p1 p2 p3
                       go_wp2
                       exact ⟨⟨1, by omega, by go_num, s, _, _, HTW.out, hs7.yes v, HB7.out.far (by simp; omega) _⟩, by simp [intOf]⟩
                     · have hn : ¬ ∃ x r, PlaceAt rest x r := by rw [HT.out]; exact place_no_way HI.out HK.out htw.out (by omega) (fun ⟨t3, v, s, h1, h2⟩ => hnn ⟨v, s, by rw [show t2 = t3 from List.append_cancel_left (HT2.out.symm.trans h1)]; exact h2⟩)
                       have HN := Lib.hid hn; clear hn hnn
                       obtain ⟨⟨p0, p1, p2, p3⟩, ⟨f0, f1, f2, f3⟩, ⟨q0, q1, q2, q3⟩, ⟨g0, g1, g2, g3⟩⟩ := hs7.cells
                       simp only at p0 p1 p2 p3
                       go_wp2
                       have hs8 := hs7.yes 0
                       all_goals
                         refine bodyPost_ret (v := .tuple #[.agg #[.int .i64 0, .int .i64 0, .int .i64 0, .int .i64 0], .bool false]) (by simp [results, Tryz.results60, go_sem, q0, q1, q2, q3]) rfl (.inr ⟨HN.out, 0, 0, 0, 0, rfl, ?_⟩)
                         exact grown_new (grown_new (grown_new (grown_new hs8.grown (Nat.le_refl _) _) (Nat.le_refl _) _) (Nat.le_refl _) _) (Nat.le_refl _) _
                   · have hn : ¬ ∃ x r, PlaceAt rest x r := by rw [HT.out]; exact place_no_way HI.out HK.out htw.out (by omega) (fun ⟨t3, v, s, h1, h2⟩ => hnt ⟨t3, h1⟩)
                     have HN := Lib.hid hn; clear hn hnt
                     obtain ⟨⟨p0, p1, p2, p3⟩, ⟨f0, f1, f2, f3⟩, ⟨q0, q1, q2, q3⟩, ⟨g0, g1, g2, g3⟩⟩ := hs6.cells
                     simp only at p0 p1 p2 p3
                     go_wp2
                     all_goals
                       refine bodyPost_ret (v := .tuple #[.agg #[.int .i64 0, .int .i64 0, .int .i64 0, .int .i64 0], .bool false]) (by simp [results, Tryz.results60, go_sem, q0, q1, q2, q3]) rfl (.inr ⟨HN.out, 0, 0, 0, 0, rfl, ?_⟩)
                       exact grown_new (grown_new (grown_new (grown_new hs6.grown (Nat.le_refl _) _) (Nat.le_refl _) _) (Nat.le_refl _) _) (Nat.le_refl _) _
                 · go_wp2_with fail
                   refine (hsq.skip ⟨#[32]⟩).mono ?_
                   rintro e w6 (⟨t2, ht2, rfl, hs6, g6⟩ | ⟨hnt, rfl, hs6, g6⟩)
                   · have HT2 := Lib.hid (show rst = [32] ++ t2 from ht2); clear ht2
                     have hb6 := HB.out.grown g6 (by intro e; exact HGR.out (by cases e; omega))
                     have HB6 := Lib.hid hb6; clear hb6
                     go_wp2_with fail
                     refine (hs6.number 6 (by omega) (by omega)).mono ?_
                     rintro e w7 (⟨v, s, hn, rfl, hs7, g7⟩ | ⟨hnn, rfl, hs7, g7⟩)
                     · have HTW := Lib.hid (two_one htw.out HT2.out hn); clear hn
                       have hb7 := HB6.out.grown g7 (by intro e; exact HGR.out (by cases e; omega))
                       have HB7 := Lib.hid hb7; clear hb7
                       obtain ⟨⟨p0, p1, p2, p3⟩, ⟨f0, f1, f2, f3⟩, ⟨q0, q1, q2, q3⟩, ⟨g0, g1, g2, g3⟩⟩ := hs7.cells
                       simp only at p0 p1 p2 p3
                       go_wp2
                       exact ⟨⟨2, by omega, by go_num, s, _, _, HTW.out, hs7.no v, HB7.out.far (by simp; omega) _⟩, by simp [intOf]⟩
                     · have hn : ¬ ∃ x r, PlaceAt rest x r := by rw [HT.out]; exact place_no_way HI.out HK.out htw.out (by omega) (fun ⟨t3, v, s, h1, h2⟩ => hnn ⟨v, s, by rw [show t2 = t3 from List.append_cancel_left (HT2.out.symm.trans h1)]; exact h2⟩)
                       have HN := Lib.hid hn; clear hn hnn
                       obtain ⟨⟨p0, p1, p2, p3⟩, ⟨f0, f1, f2, f3⟩, ⟨q0, q1, q2, q3⟩, ⟨g0, g1, g2, g3⟩⟩ := hs7.cells
                       simp only at p0 p1 p2 p3
                       go_wp2
                       have hs8 := hs7.no 0
                       all_goals
                         refine bodyPost_ret (v := .tuple #[.agg #[.int .i64 0, .int .i64 0, .int .i64 0, .int .i64 0], .bool false]) (by simp [results, Tryz.results60, go_sem, q0, q1, q2, q3]) rfl (.inr ⟨HN.out, 0, 0, 0, 0, rfl, ?_⟩)
                         exact grown_new (grown_new (grown_new (grown_new hs8.grown (Nat.le_refl _) _) (Nat.le_refl _) _) (Nat.le_refl _) _) (Nat.le_refl _) _
                   · have hn : ¬ ∃ x r, PlaceAt rest x r := by rw [HT.out]; exact place_no_way HI.out HK.out htw.out (by omega) (fun ⟨t3, v, s, h1, h2⟩ => hnt ⟨t3, h1⟩)
                     have HN := Lib.hid hn; clear hn hnt
                     obtain ⟨⟨p0, p1, p2, p3⟩, ⟨f0, f1, f2, f3⟩, ⟨q0, q1, q2, q3⟩, ⟨g0, g1, g2, g3⟩⟩ := hs6.cells
                     simp only at p0 p1 p2 p3
                     go_wp2
                     all_goals
                       refine bodyPost_ret (v := .tuple #[.agg #[.int .i64 0, .int .i64 0, .int .i64 0, .int .i64 0], .bool false]) (by simp [results, Tryz.results60, go_sem, q0, q1, q2, q3]) rfl (.inr ⟨HN.out, 0, 0, 0, 0, rfl, ?_⟩)
                       exact grown_new (grown_new (grown_new (grown_new hs6.grown (Nat.le_refl _) _) (Nat.le_refl _) _) (Nat.le_refl _) _) (Nat.le_refl _) _
               · obtain rfl : q = 2 := by omega
                 obtain ⟨⟨p0, p1, p2, p3⟩, ⟨f0, f1, f2, f3⟩, ⟨q0, q1, q2, q3⟩, ⟨g0, g1, g2, g3⟩⟩ := hsq.cells
                 simp only at p0 p1 p2 p3
                 by_cases hp : ∃ r, rst = [10] ++ r
                 · obtain ⟨r, hr⟩ := hp
                   have hpl : PlaceAt rest ⟨(i : Int), k, yes, no⟩ r := by rw [HT.out]; exact place_yes_two HI.out HK.out htw.out hr
                   have HPL := Lib.hid hpl; have HR := Lib.hid hr; clear hpl hr
                   go_wp2
                   go_region_law (go_simp; go_at_call 75; refine (hsq.drew.skipY ⟨#[10]⟩ r HR.out).mono ?_; rintro e w6 ⟨rfl, hs6⟩; obtain ⟨⟨p0, p1, p2, p3⟩, ⟨f0, f1, f2, f3⟩, ⟨q0, q1, q2, q3⟩, ⟨g0, g1, g2, g3⟩⟩ := hs6.cells; simp only at p0 p1 p2 p3)
                   all_goals go_wp2
                   all_goals
                     refine bodyPost_ret (v := .tuple #[.agg #[.int .i64 (i : Int), .int .i64 k, .int .i64 yes, .int .i64 no], .bool true]) (by simp [results, Tryz.results60, go_sem, q0, q1, q2, q3]) rfl (.inl ⟨⟨(i : Int), k, yes, no⟩, r, HPL.out, rfl, ?_, ?_⟩)
                     · exact (((hs6.r.far (by simp; omega) _).far (by simp; omega) _).far (by simp; omega) _).far (by simp; omega) _
                     · exact grown_new (grown_new (grown_new (grown_new hs6.grown (Nat.le_refl _) _) (Nat.le_refl _) _) (Nat.le_refl _) _) (Nat.le_refl _) _
                 · have hn : ¬ ∃ x r, PlaceAt rest x r := by rw [HT.out]; exact place_no_two HI.out HK.out htw.out hp
                   have HN := Lib.hid hn; have HP := Lib.hid hp; clear hn hp
                   go_wp2
                   go_region_law (go_simp; go_at_call 75; refine (hsq.drew.skipN ⟨#[10]⟩ HP.out).mono ?_; rintro e w6 ⟨rfl, hs6⟩; obtain ⟨⟨p0, p1, p2, p3⟩, ⟨f0, f1, f2, f3⟩, ⟨q0, q1, q2, q3⟩, ⟨g0, g1, g2, g3⟩⟩ := hs6.cells; simp only at p0 p1 p2 p3)
                   all_goals go_wp2
                   all_goals
                     refine bodyPost_ret (v := .tuple #[.agg #[.int .i64 (i : Int), .int .i64 k, .int .i64 yes, .int .i64 no], .bool false]) (by simp [results, Tryz.results60, go_sem, q0, q1, q2, q3]) rfl (.inr ⟨HN.out, (i : Int), k, yes, no, rfl, ?_⟩)
                     exact grown_new (grown_new (grown_new (grown_new hs6.grown (Nat.le_refl _) _) (Nat.le_refl _) _) (Nat.le_refl _) _) (Nat.le_refl _) _
         · have e3 : ((i : Int) == 3) = false := by simp; omega
           have e4 : ((i : Int) == 4) = false := by simp; omega
           have hi4 : (i : Int) = 1 ∨ (i : Int) = 2 ∨ (i : Int) = 5 ∨ (i : Int) = 6 := by omega
           have HI := Lib.hid hi4; clear hi4 h34
           by_cases hp : ∃ r, m = [10] ++ r
           · obtain ⟨r, hr⟩ := hp
             have hpl : PlaceAt rest ⟨(i : Int), k, 0, 0⟩ r := by rw [HT.out]; exact place_yes_one HI.out HK.out hr
             have HPL := Lib.hid hpl; have HR := Lib.hid hr; clear hpl hr
             go_wp2
             go_region_law (go_simp; go_at_call 75; refine (hs4.drew.skipY ⟨#[10]⟩ r HR.out).mono ?_; rintro e w6 ⟨rfl, hs6⟩; obtain ⟨⟨p0, p1, p2, p3⟩, ⟨f0, f1, f2, f3⟩, ⟨q0, q1, q2, q3⟩, ⟨g0, g1, g2, g3⟩⟩ := hs6.cells; simp only at p0 p1 p2 p3)
             all_goals go_wp2
             all_goals
               refine bodyPost_ret (v := .tuple #[.agg #[.int .i64 (i : Int), .int .i64 k, .int .i64 0, .int .i64 0], .bool true]) (by simp [results, Tryz.results60, go_sem, q0, q1, q2, q3]) rfl (.inl ⟨⟨(i : Int), k, 0, 0⟩, r, HPL.out, rfl, ?_, ?_⟩)
               · exact (((hs6.r.far (by simp; omega) _).far (by simp; omega) _).far (by simp; omega) _).far (by simp; omega) _
               · exact grown_new (grown_new (grown_new (grown_new hs6.grown (Nat.le_refl _) _) (Nat.le_refl _) _) (Nat.le_refl _) _) (Nat.le_refl _) _
           · have hn : ¬ ∃ x r, PlaceAt rest x r := by rw [HT.out]; exact place_no_one HI.out HK.out hp
             have HN := Lib.hid hn; have HP := Lib.hid hp; clear hn hp
             go_wp2
             go_region_law (go_simp; go_at_call 75; refine (hs4.drew.skipN ⟨#[10]⟩ HP.out).mono ?_; rintro e w6 ⟨rfl, hs6⟩; obtain ⟨⟨p0, p1, p2, p3⟩, ⟨f0, f1, f2, f3⟩, ⟨q0, q1, q2, q3⟩, ⟨g0, g1, g2, g3⟩⟩ := hs6.cells; simp only at p0 p1 p2 p3)
             all_goals go_wp2
             all_goals
               refine bodyPost_ret (v := .tuple #[.agg #[.int .i64 (i : Int), .int .i64 k, .int .i64 0, .int .i64 0], .bool false]) (by simp [results, Tryz.results60, go_sem, q0, q1, q2, q3]) rfl (.inr ⟨HN.out, (i : Int), k, 0, 0, rfl, ?_⟩)
               exact grown_new (grown_new (grown_new (grown_new hs6.grown (Nat.le_refl _) _) (Nat.le_refl _) _) (Nat.le_refl _) _) (Nat.le_refl _) _
       · have hn := place_no_k (j := (i : Int)) (by omega) hnk
         rw [← HT.out] at hn
         have HN := Lib.hid hn; clear hn hnk
         obtain ⟨⟨p0, p1, p2, p3⟩, ⟨f0, f1, f2, f3⟩, ⟨q0, q1, q2, q3⟩, ⟨g0, g1, g2, g3⟩⟩ := hs3.cells
         simp only at p0 p1 p2 p3
         go_wp2
         all_goals
           refine bodyPost_ret (v := .tuple #[.agg #[.int .i64 0, .int .i64 0, .int .i64 0, .int .i64 0], .bool false]) (by simp [results, Tryz.results60, go_sem, q0, q1, q2, q3]) rfl (.inr ⟨HN.out, 0, 0, 0, 0, rfl, ?_⟩)
           exact grown_new (grown_new (grown_new (grown_new hs3.grown (Nat.le_refl _) _) (Nat.le_refl _) _) (Nat.le_refl _) _) (Nat.le_refl _) _
     · have hnt' : ¬ ∃ t, rest = opNm (i : Int) ++ 32 :: t := fun ⟨t, ht⟩ => hnt ⟨t, by rw [ht]; simp⟩
       have HNT := Lib.hid hnt'; clear hnt hnt'
       go_wp2
       exact ⟨⟨i + 1, by omega, by omega, by go_num, fun j h1 h2 => by
         by_cases e : j = i
         · subst e; exact HNT.out
         · exact hno.out j h1 (by omega), hs1⟩, by simp [intOf]; omega⟩
   · obtain rfl : i = 7 := by omega
     have hn := place_none (rest := rest) (fun j h1 h6 => hno.out j h1 (by omega))
     have HN := Lib.hid hn; clear hn
     go_wp2_with fail
     refine (hst.number 4294967295 (by omega) (by omega)).mono ?_
     rintro e w3 (⟨k, m, hk, rfl, hs3, -⟩ | ⟨hnk, rfl, hs3, -⟩)
     all_goals
       obtain ⟨⟨p0, p1, p2, p3⟩, ⟨f0, f1, f2, f3⟩, ⟨q0, q1, q2, q3⟩, ⟨g0, g1, g2, g3⟩⟩ := hs3.cells
       simp only at p0 p1 p2 p3
       go_wp2
       all_goals
         refine bodyPost_ret (v := .tuple #[.agg #[.int .i64 0, .int .i64 0, .int .i64 0, .int .i64 0], .bool false]) (by simp [results, Tryz.results60, go_sem, q0, q1, q2, q3]) rfl (.inr ⟨HN.out, 0, 0, 0, 0, rfl, ?_⟩)
         exact grown_new (grown_new (grown_new (grown_new hs3.grown (Nat.le_refl _) _) (Nat.le_refl _) _) (Nat.le_refl _) _) (Nat.le_refl _) _
end Go.Proofs.YtdjgicapbpoigaaGreatDoor
