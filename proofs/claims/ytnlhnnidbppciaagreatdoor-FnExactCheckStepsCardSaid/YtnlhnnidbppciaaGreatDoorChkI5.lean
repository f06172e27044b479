/- impl's check: both ways of a look of a program. -/
import Derived.Test.YtnlhnnidbppciaaGreatDoorChkI4
import Derived.Test.YtnlhnnidbppciaaGreatDoorChkS7
namespace Go.Proofs.YtnlhnnidbppciaaGreatDoor
open Go.RowKit
set_option linter.unusedSimpArgs false
set_option linter.unusedVariables false

theorem iHolds_eq (a b : Int) (w : World) : Calls Tryz.prog 198 #[.int .i64 1, .int .i64 a, .int .i64 b] w fun e w' => e = .returned (.bool (a == b)) ∧ w = w' := by
  go_enter Tryz.func198, Tryz.ntmps198
  go_wp2
  go_ret
  exact ⟨rfl, rfl⟩
theorem iHolds_gt (a b : Int) (w : World) : Calls Tryz.prog 198 #[.int .i64 3, .int .i64 a, .int .i64 b] w fun e w' => e = .returned (.bool (decide (b < a))) ∧ w = w' := by
  go_enter Tryz.func198, Tryz.ntmps198
  go_wp2
  all_goals
    go_ret
    exact ⟨ret_bool (by first | rfl | simp; omega), rfl⟩

section
variable (cg : Nat) (cv rv : Value) (last : Int) (rs : List Rl) (g : List In4)
theorem iPlace_off (s : Nat) (a f m : Int) (kv : Value) (ov : Bool) (w : World) (h : Blk w cg 91 #[cv, rv, .int .i64 last, .int .i64 (s : Int), .bool ov]) (hs : s ≤ 20000) (ho : 6000 ≤ s ∨ ov = true) :
    Calls Tryz.prog 116 #[.pointer (some ⟨cg, 0, none⟩), .agg #[.int .i64 a, .int .i64 f, .int .i64 m], kv] w (IPost cg cv rv last (fun s' b => s' = s + 1 ∧ b = false) w) := by
  obtain ⟨X, hX⟩ : ∃ X, X = w.alloc (.cells #[.int .i64 a, .int .i64 f, .int .i64 m] 157) := ⟨_, rfl⟩
  have hbX : Below w.heap.size w X := by rw [hX]; go_grown
  have H := Lib.hid (h.same hbX); have HO := Lib.hid ho; have HX := Lib.hid hX; clear h ho hX
  go_enter Tryz.func116, Tryz.ntmps116
  go_wp2_with fail
  rw [← HX.out]
  go_loopg [] 1 (fun gk wr => wr = X ∧ gk = 1)
  case atStart => exact ⟨rfl, rfl⟩
  case round =>
    obtain ⟨rfl, -⟩ := hrel
    go_wp2_with fail
    refine (iStep_off cg cv rv last s ov _ H.out hs HO.out).mono ?_; rintro e w1 ⟨rfl, hb, hg⟩
    have HB := Lib.hid hb; clear hb
    go_wp2
    go_end0
    exact ⟨rfl, s + 1, false, ⟨rfl, rfl⟩, HB.out, (grown_of_below hbX _).trans hg⟩

set_option maxHeartbeats 2000000 in
/-- Behind a look of the program: the closure goes on where it leads. -/
theorem iWayOn_of (a yn nn : Nat) (op kn f m : Int) (kv : Value) (h : Bool) (ib cb : Nat) (w : World) (R : Nat → Bool → Prop) (ha : a ≤ 100000) (hy : yn ≤ 100000) (hn : nn ≤ 100000)
    (hI : Blk w ib 72 #[.int .i64 op, .int .i64 kn, .int .i64 (yn : Int), .int .i64 (nn : Int)]) (hC : Blk w cb 92 #[.pointer (some ⟨cg, 0, none⟩)])
    (H : ∀ W, Below w.heap.size w W → Calls Tryz.prog 116 #[.pointer (some ⟨cg, 0, none⟩), .agg #[.int .i64 ((a + (1 + (if h then yn else nn)) : Nat) : Int), .int .i64 f, .int .i64 m], kv] W (IPost cg cv rv last R W)) :
    Calls Tryz.prog 209 #[.agg #[.int .i64 (a : Int), .int .i64 f, .int .i64 m], kv, .bool h, .pointer (some ⟨ib, 0, none⟩), .pointer (some ⟨cb, 0, none⟩)] w (IPost cg cv rv last R w) := by
  have x2 := (show _ = some (Value.int .i64 (yn : Int)) from hI.cell 2); have x3 := (show _ = some (Value.int .i64 (nn : Int)) from hI.cell 3)
  have x0 := (show _ = some (Value.pointer (some ⟨cg, 0, none⟩)) from hC.cell 0)
  have l1 := hI.lt; have l2 := hC.lt
  have HH := Lib.hid H
  clear H hI hC
  cases h
  · have h9 : Calls Tryz.prog 116 #[.pointer (some ⟨cg, 0, none⟩), .agg #[.int .i64 ((a : Int) + (1 + (nn : Int))), .int .i64 f, .int .i64 m], kv] (w.alloc (.cells #[.int .i64 ((a : Int) + (1 + (nn : Int))), .int .i64 f, .int .i64 m] 157)) (IPost cg cv rv last R (w.alloc (.cells #[.int .i64 ((a : Int) + (1 + (nn : Int))), .int .i64 f, .int .i64 m] 157))) := HH.out (w.alloc (.cells #[.int .i64 ((a : Int) + (1 + (nn : Int))), .int .i64 f, .int .i64 m] 157)) (by go_grown)
    have H9 := Lib.hid h9
    clear h9 HH
    go_enter Tryz.func209, Tryz.ntmps209
    go_wp2_with fail
    refine H9.out.mono ?_; rintro e w3 ⟨rfl, s', b', hrun, hb3, hg3⟩
    have HF := Lib.hid (show IPost cg cv rv last R w (.returned (.tuple #[])) w3 from ⟨rfl, s', b', hrun, hb3, (grown_of_below (by go_grown) _).trans hg3⟩)
    clear hrun hb3 hg3
    go_wp2
    go_end0
    exact HF.out
  · have h9 : Calls Tryz.prog 116 #[.pointer (some ⟨cg, 0, none⟩), .agg #[.int .i64 ((a : Int) + (1 + (yn : Int))), .int .i64 f, .int .i64 m], kv] (w.alloc (.cells #[.int .i64 ((a : Int) + (1 + (yn : Int))), .int .i64 f, .int .i64 m] 157)) (IPost cg cv rv last R (w.alloc (.cells #[.int .i64 ((a : Int) + (1 + (yn : Int))), .int .i64 f, .int .i64 m] 157))) := HH.out (w.alloc (.cells #[.int .i64 ((a : Int) + (1 + (yn : Int))), .int .i64 f, .int .i64 m] 157)) (by go_grown)
    have H9 := Lib.hid h9
    clear h9 HH
    go_enter Tryz.func209, Tryz.ntmps209
    go_wp2_with fail
    refine H9.out.mono ?_; rintro e w3 ⟨rfl, s', b', hrun, hb3, hg3⟩
    have HF := Lib.hid (show IPost cg cv rv last R w (.returned (.tuple #[])) w3 from ⟨rfl, s', b', hrun, hb3, (grown_of_below (by go_grown) _).trans hg3⟩)
    clear hrun hb3 hg3
    go_wp2
    go_end0
    exact HF.out

/-- What is shown of impl's check in a program, up to so many steps. -/
def PlaceIH (n : Nat) : Prop := ∀ (s a : Nat) (f m : Int) (l : List (Lk × Bool)) (kv : Value) (w : World), 6000 ≤ s + n → s ≤ 6000 → a < g.length →
    Blk w cg 91 #[cv, rv, .int .i64 last, .int .i64 (s : Int), .bool false] → SlN cg w 4 cv (insR g) → CkN cg w rv rs → KnI cg w kv l.reverse → KnW l → Once l →
    Calls Tryz.prog 116 #[.pointer (some ⟨cg, 0, none⟩), .agg #[.int .i64 (a : Int), .int .i64 f, .int .i64 m], kv] w (IPost cg cv rv last (fun s' b => WayRun g rs last a f m l s s' b) w)
set_option maxRecDepth 100000 in
set_option maxHeartbeats 8000000 in
theorem iBothWay_of (n : Nat) (ih : PlaceIH cg cv rv last rs g n) (s a kn yn nn : Nat) (op f m : Int) (l : List (Lk × Bool)) (kv : Value) (w : World) (q : Lk) (ib cb : Nat) (hn : 6000 ≤ s + 1 + n) (hs : s < 6000) (hr : g[a]? = some ⟨op, (kn : Int), (yn : Int), (nn : Int)⟩) (hop : op = 3 ∨ op = 4) (hm0 : m ≠ 0) (hql : q = ⟨f, m, lookOp ⟨op, (kn : Int), (yn : Int), (nn : Int)⟩, (kn : Int)⟩) (ha : a ≤ 1000) (hyl : a + 1 + yn < g.length) (hnl : a + 1 + nn < g.length) (hgl : g.length ≤ 1000)
    (hqw : 0 ≤ q.value ∧ q.value ≤ 4294967295) (hqo : q.op = 1 ∨ q.op = 3)
    (hC : Blk w cg 91 #[cv, rv, .int .i64 last, .int .i64 ((s + 1 : Nat) : Int), .bool false]) (hV : SlN cg w 4 cv (insR g)) (hR : CkN cg w rv rs) (hK : KnI cg w kv l.reverse) (hKW : KnW l) (hO : Once l)
    (hI : Blk w ib 72 #[.int .i64 op, .int .i64 (kn : Int), .int .i64 (yn : Int), .int .i64 (nn : Int)]) (hB : Blk w cb 92 #[.pointer (some ⟨cg, 0, none⟩)]) (hwc : ib ≠ cg) (hcc : cb ≠ cg) :
    Calls Tryz.prog 210 #[kv, .agg #[.int .i64 q.field, .int .i64 q.mask, .int .i64 q.op, .int .i64 q.value], .agg #[.int .i64 (a : Int), .int .i64 f, .int .i64 m], .func (.func 209) #[] #[.pointer (some ⟨ib, 0, none⟩), .pointer (some ⟨cb, 0, none⟩)]] w (IPost cg cv rv last (fun s' b => WayRun g rs last a f m l s s' b) w) := by
  have hcl := hC.lt
  obtain ⟨po, rfl⟩ := hK.ptr
  have HI := Lib.hid ih; have HC := Lib.hid hC; have HV := Lib.hid hV; have HR := Lib.hid hR; have HK := Lib.hid hK; have HKW := Lib.hid hKW; have HO := Lib.hid hO; have HW := Lib.hid hI; have HB := Lib.hid hB
  have HRR := Lib.hid hr; have HQL := Lib.hid hql; have HQW := Lib.hid hqw; have HQO := Lib.hid hqo; have HOP := Lib.hid hop
  clear ih hC hV hR hK hKW hO hI hB hr hql hqw hqo hop
  have hgo : ∀ (W : World) (s1 : Nat) (l1 : List (Lk × Bool)) (kv1 : Value) (h : Bool), 6000 ≤ s1 + n → s1 ≤ 6000 → w.grownBy W (some cg) → Blk W cg 91 #[cv, rv, .int .i64 last, .int .i64 (s1 : Int), .bool false] → KnI cg W kv1 l1.reverse → KnW l1 → Once l1 →
      Calls Tryz.prog 209 #[.agg #[.int .i64 (a : Int), .int .i64 f, .int .i64 m], kv1, .bool h, .pointer (some ⟨ib, 0, none⟩), .pointer (some ⟨cb, 0, none⟩)] W (IPost cg cv rv last (fun s' b => WayRun g rs last (a + 1 + wayOf ⟨op, (kn : Int), (yn : Int), (nn : Int)⟩ h) f m l1 s1 s' b) W) := fun W s1 l1 kv1 h h1 h2 h3 h4 h5 h6 h7 =>
    iWayOn_of cg cv rv last a yn nn op (kn : Int) f m kv1 h ib cb W _ (by omega) (by omega) (by omega) (HW.out.grown h3 (by simp; omega)) (HB.out.grown h3 (by simp; omega)) (fun W2 hb2 => by
      have e : a + 1 + wayOf ⟨op, (kn : Int), (yn : Int), (nn : Int)⟩ h = a + (1 + (if h then yn else nn)) := by cases h <;> simp [wayOf] <;> omega
      rw [e]
      exact HI.out s1 (a + (1 + (if h then yn else nn))) f m l1 kv1 W2 h1 h2 (by cases h <;> simp <;> omega) (h4.same hb2) (HV.out.grown (h3.trans (grown_of_below hb2 _))) (HR.out.grown (h3.trans (grown_of_below hb2 _))) (h5.below hb2) h6 h7)
  have hoff : ∀ (W : World) (s1 : Nat) (kv1 : Value) (h : Bool), s1 ≤ 20000 → w.grownBy W (some cg) → Blk W cg 91 #[cv, rv, .int .i64 last, .int .i64 (s1 : Int), .bool true] →
      Calls Tryz.prog 209 #[.agg #[.int .i64 (a : Int), .int .i64 f, .int .i64 m], kv1, .bool h, .pointer (some ⟨ib, 0, none⟩), .pointer (some ⟨cb, 0, none⟩)] W (IPost cg cv rv last (fun s' b => s' = s1 + 1 ∧ b = false) W) := fun W s1 kv1 h h1 h3 h4 =>
    iWayOn_of cg cv rv last a yn nn op (kn : Int) f m kv1 h ib cb W _ (by omega) (by omega) (by omega) (HW.out.grown h3 (by simp; omega)) (HB.out.grown h3 (by simp; omega)) (fun W2 hb2 => iPlace_off cg cv rv last s1 _ f m kv1 true W2 (h4.same hb2) h1 (.inr rfl))
  have HGO := Lib.hid hgo; have HOFF := Lib.hid hoff
  clear hgo hoff
  obtain ⟨qf, qm, qo, qv⟩ := q
  simp only at HQW HQO ⊢
  obtain ⟨X, hX⟩ : ∃ X, X = (w.alloc (.cells #[.int .i64 qf, .int .i64 qm, .int .i64 qo, .int .i64 qv] 211)).alloc (.cells #[.int .i64 (a : Int), .int .i64 f, .int .i64 m] 157) := ⟨_, rfl⟩
  have hbX : Below w.heap.size w X := by rw [hX]; go_grown
  have hzX : X.heap.size = w.heap.size + 1 + 1 := by rw [hX]; simp
  have bL : Blk X w.heap.size 211 #[.int .i64 qf, .int .i64 qm, .int .i64 qo, .int .i64 qv] := by rw [hX]; exact (Blk.new w _ _).alloc _
  have bS : Blk X (w.heap.size + 1) 157 #[.int .i64 (a : Int), .int .i64 f, .int .i64 m] := by
    rw [hX]
    have := Blk.new (w.alloc (.cells #[.int .i64 qf, .int .i64 qm, .int .i64 qo, .int .i64 qv] 211)) 157 #[.int .i64 (a : Int), .int .i64 f, .int .i64 m]
    simpa using this
  have HX := Lib.hid hX; have HBL := Lib.hid bL; have HBS := Lib.hid bS
  have hl0 : w.heap.size < X.heap.size := by omega
  have hl1 : w.heap.size + 1 < X.heap.size := by omega
  have x0 := (show _ = some (Value.int .i64 qf) from bL.cell 0); have x1 := (show _ = some (Value.int .i64 qm) from bL.cell 1); have x2 := (show _ = some (Value.int .i64 qo) from bL.cell 2); have x3 := (show _ = some (Value.int .i64 qv) from bL.cell 3); have x4 := (show _ = some (Value.int .i64 (a : Int)) from bS.cell 0); have x5 := (show _ = some (Value.int .i64 f) from bS.cell 1); have x6 := (show _ = some (Value.int .i64 m) from bS.cell 2)
  have HZX := Lib.hid hzX
  clear hX bL bS hzX
  go_enter Tryz.func210, Tryz.ntmps210
  go_wp2_with fail
  rw [← HX.out]
  refine (tell_any cg (.pointer po) l ⟨qf, qm, qo, qv⟩ X (HK.out.below hbX) HKW.out HO.out HQO.out).mono ?_; rintro e w1 ⟨hb, tb, rfl, htell, hb1⟩
  have hbw1 := below_then hbX hb1
  have hz1 := hb1.size
  have bL1 := HBL.out.below hb1 hl0; have bS1 := HBS.out.below hb1 hl1
  have y0 := (show _ = some (Value.int .i64 qf) from bL1.cell 0); have y1 := (show _ = some (Value.int .i64 qm) from bL1.cell 1); have y2 := (show _ = some (Value.int .i64 qo) from bL1.cell 2); have y3 := (show _ = some (Value.int .i64 qv) from bL1.cell 3); have y4 := (show _ = some (Value.int .i64 (a : Int)) from bS1.cell 0); have y5 := (show _ = some (Value.int .i64 f) from bS1.cell 1); have y6 := (show _ = some (Value.int .i64 m) from bS1.cell 2)
  have HL1 := Lib.hid bL1; have HS1 := Lib.hid bS1
  have HG1 := Lib.hid (grown_of_below hbw1 (some cg))
  have HC1 := Lib.hid (HC.out.same hbw1)
  have HK1 := Lib.hid (HK.out.below hbw1)
  clear bL1 bS1 hb1 x0 x1 x2 x3 x4 x5 x6
  have HT := Lib.hid htell
  clear htell
  cases tb
  · have HN : Hid (tellO l ⟨qf, qm, qo, qv⟩ = none) := Lib.hid (by rcases HT.out with h | h; exact h.1; exact absurd h.2 (by simp))
    have hcg1 : cg < w1.heap.size := by omega
    have hbK : Below w1.heap.size w1 (w1.alloc (.cells #[.int .i64 qf, .int .i64 qm, .int .i64 qo, .int .i64 qv, .bool true, (.pointer po)] 287)) := by go_grown
    have hkk : KnI cg (w1.alloc (.cells #[.int .i64 qf, .int .i64 qm, .int .i64 qo, .int .i64 qv, .bool true, (.pointer po)] 287)) (.pointer (some ⟨w1.heap.size, 0, none⟩)) (l ++ [((⟨qf, qm, qo, qv⟩ : Lk), true)]).reverse := KnI.snoc cg (HK1.out.below hbK) (by omega) (Blk.new _ _ _)
    have HN2 := Lib.hid (show tellO l ⟨f, m, lookOp ⟨op, (kn : Int), (yn : Int), (nn : Int)⟩, (kn : Int)⟩ = none by rw [← HQL.out]; exact HN.out)
    have h9 := HGO.out (w1.alloc (.cells #[.int .i64 qf, .int .i64 qm, .int .i64 qo, .int .i64 qv, .bool true, (.pointer po)] 287)) (s + 1) (l ++ [((⟨qf, qm, qo, qv⟩ : Lk), true)]) (.pointer (some ⟨w1.heap.size, 0, none⟩)) true (by omega) (by omega) (HG1.out.trans (grown_of_below hbK _)) (HC1.out.same hbK) hkk (HKW.out.snoc HQW.out) (HO.out.snoc HN.out true)
    have H9 := Lib.hid h9; have HBK := Lib.hid hbK
    clear h9 hkk hbK
    go_wp2_with fail
    refine H9.out.mono ?_; rintro e w2 ⟨rfl, s1, b1, hrun1, hb2, hg2⟩
    have hg12 := (grown_of_below HBK.out (some cg)).trans hg2
    have bL2 := HL1.out.grown hg12 (by simp; omega); have bS2 := HS1.out.grown hg12 (by simp; omega)
    have z0 := (show _ = some (Value.int .i64 qf) from bL2.cell 0); have z1 := (show _ = some (Value.int .i64 qm) from bL2.cell 1); have z2 := (show _ = some (Value.int .i64 qo) from bL2.cell 2); have z3 := (show _ = some (Value.int .i64 qv) from bL2.cell 3); have z4 := (show _ = some (Value.int .i64 (a : Int)) from bS2.cell 0); have z5 := (show _ = some (Value.int .i64 f) from bS2.cell 1); have z6 := (show _ = some (Value.int .i64 m) from bS2.cell 2)
    have HK2 := Lib.hid (HK1.out.grown hg12)
    have HG2 := Lib.hid (HG1.out.trans hg12)
    have HB2 := Lib.hid hb2; have HRUN1 := Lib.hid hrun1; have HRUNQ := Lib.hid (by have := hrun1; rw [HQL.out] at this; exact this)
    have hz2 := hg12.size
    have hbd := hrun1.bound (by omega)
    have hcg2 : cg < w2.heap.size := by omega
    clear bL2 bS2 hb2 hrun1 hg2 hg12 y0 y1 y2 y3 y4 y5 y6
    have hbK2 : Below w2.heap.size w2 (w2.alloc (.cells #[.int .i64 qf, .int .i64 qm, .int .i64 qo, .int .i64 qv, .bool false, (.pointer po)] 287)) := by go_grown
    have hkk2 : KnI cg (w2.alloc (.cells #[.int .i64 qf, .int .i64 qm, .int .i64 qo, .int .i64 qv, .bool false, (.pointer po)] 287)) (.pointer (some ⟨w2.heap.size, 0, none⟩)) (l ++ [((⟨qf, qm, qo, qv⟩ : Lk), false)]).reverse := KnI.snoc cg (HK2.out.below hbK2) (by omega) (Blk.new _ _ _)
    cases b1
    · have h9 := HOFF.out (w2.alloc (.cells #[.int .i64 qf, .int .i64 qm, .int .i64 qo, .int .i64 qv, .bool false, (.pointer po)] 287)) s1 (.pointer (some ⟨w2.heap.size, 0, none⟩)) false (by omega) (HG2.out.trans (grown_of_below hbK2 _)) (HB2.out.same hbK2)
      have H9 := Lib.hid h9; have HBK2 := Lib.hid hbK2
      clear h9 hkk2 hbK2 hbd
      go_wp2_with fail
      refine H9.out.mono ?_; rintro e w3 ⟨rfl, s', b', ⟨rfl, rfl⟩, hb3, hg3⟩
      have HF := Lib.hid (show IPost cg cv rv last (fun s' b => WayRun g rs last a f m l s s' b) w (.returned (.tuple #[])) w3 from ⟨rfl, s1 + 1, false, .stop hs HRR.out HOP.out hm0 HN2.out HRUNQ.out, hb3, (HG2.out.trans (grown_of_below HBK2.out _)).trans hg3⟩)
      clear hb3 hg3
      go_wp2
      go_end0
      exact HF.out
    · have h9 := HGO.out (w2.alloc (.cells #[.int .i64 qf, .int .i64 qm, .int .i64 qo, .int .i64 qv, .bool false, (.pointer po)] 287)) s1 (l ++ [((⟨qf, qm, qo, qv⟩ : Lk), false)]) (.pointer (some ⟨w2.heap.size, 0, none⟩)) false (by omega) (hbd.2.2 rfl) (HG2.out.trans (grown_of_below hbK2 _)) (HB2.out.same hbK2) hkk2 (HKW.out.snoc HQW.out) (HO.out.snoc HN.out false)
      have H9 := Lib.hid h9; have HBK2 := Lib.hid hbK2
      clear h9 hkk2 hbK2 hbd
      go_wp2_with fail
      refine H9.out.mono ?_; rintro e w3 ⟨rfl, s', b', hrun, hb3, hg3⟩
      have HF := Lib.hid (show IPost cg cv rv last (fun s' b => WayRun g rs last a f m l s s' b) w (.returned (.tuple #[])) w3 from ⟨rfl, s', b', .both hs HRR.out HOP.out hm0 HN2.out HRUNQ.out (by have := hrun; rw [HQL.out] at this; exact this), hb3, (HG2.out.trans (grown_of_below HBK2.out _)).trans hg3⟩)
      clear hb3 hg3 hrun
      go_wp2
      go_end0
      exact HF.out
  · have HN : Hid (tellO l ⟨qf, qm, qo, qv⟩ = some hb) := Lib.hid (by rcases HT.out with h | h; exact absurd h.2 (by simp); exact h.1)
    have HN2 := Lib.hid (show tellO l ⟨f, m, lookOp ⟨op, (kn : Int), (yn : Int), (nn : Int)⟩, (kn : Int)⟩ = some hb by rw [← HQL.out]; exact HN.out)
    have h9 := HGO.out w1 (s + 1) l (.pointer po) hb (by omega) (by omega) HG1.out HC1.out HK1.out HKW.out HO.out
    have H9 := Lib.hid h9
    clear h9
    go_wp2_with fail
    refine H9.out.mono ?_; rintro e w2 ⟨rfl, s', b', hrun, hb2, hg2⟩
    have HF := Lib.hid (show IPost cg cv rv last (fun s' b => WayRun g rs last a f m l s s' b) w (.returned (.tuple #[])) w2 from ⟨rfl, s', b', .told hs HRR.out HOP.out hm0 HN2.out hrun, hb2, HG1.out.trans hg2⟩)
    clear hrun hb2 hg2
    go_wp2
    go_end0
    exact HF.out
end
end Go.Proofs.YtnlhnnidbppciaaGreatDoor
