/- impl's check: both ways of a look of a rule. -/
import Derived.Test.YtnlhnnidbppciaaGreatDoorChkI2
namespace Go.Proofs.YtnlhnnidbppciaaGreatDoor
open Go.RowKit
set_option linter.unusedSimpArgs false
set_option linter.unusedVariables false

section
variable (cg : Nat) (cv rv : Value) (last : Int) (rs : List Rl)
/-- What is shown of impl's check in the rules, up to so many steps. -/
def RuleIH (n : Nat) : Prop := ∀ (s a k : Nat) (v : Int) (l : List (Lk × Bool)) (kv : Value) (w : World), 6000 ≤ s + n → s ≤ 6000 → a ≤ rs.length → k ≤ 200 → (∀ r, rs[a]? = some r → k ≤ (looksOf r).length) →
    Blk w cg 91 #[cv, rv, .int .i64 last, .int .i64 (s : Int), .bool false] → CkN cg w rv rs → KnI cg w kv l.reverse → KnW l → Once l →
    Calls Tryz.prog 167 #[.pointer (some ⟨cg, 0, none⟩), .agg #[.int .i64 (a : Int), .int .i64 (k : Int), .int .i64 v], kv] w (IPost cg cv rv last (fun s' b => RuleRun rs last a k v l s s' b) w)

theorem nextA_le {a n : Nat} (h m : Bool) (ha : a < n) : nextA a h m ≤ n := by unfold nextA; split <;> omega
theorem nextK_le {k : Nat} (h m : Bool) (hk : k < 200) : nextK k h m ≤ 200 := by unfold nextK; split <;> omega
theorem nextK_len {a k : Nat} {r : Rl} {x : Lk × Bool} (h m : Bool) (hr : rs[a]? = some r) (hq : (looksOf r)[k]? = some x) : ∀ r', rs[nextA a h m]? = some r' → nextK k h m ≤ (looksOf r').length := fun r' hr' => by
  unfold nextA at hr'
  unfold nextK
  split at hr'
  · rename_i e
    rw [if_pos e]
    rw [hr] at hr'
    cases hr'
    exact (List.getElem?_eq_some_iff.1 hq).1
  · rename_i e
    rw [if_neg e]; omega
theorem KnI.ptr {w : World} {v : Value} : ∀ {l : List (Lk × Bool)}, KnI cg w v l → ∃ o, v = .pointer o
  | [], h => ⟨none, h⟩
  | x :: l, ⟨b, u, e, _⟩ => ⟨_, e⟩
theorem KnI.snoc {w : World} {kv : Value} {l : List (Lk × Bool)} {q : Lk} {h : Bool} {b : Nat} (hk : KnI cg w kv l.reverse) (hb : b ≠ cg) (hB : Blk w b 287 #[.int .i64 q.field, .int .i64 q.mask, .int .i64 q.op, .int .i64 q.value, .bool h, kv]) : KnI cg w (.pointer (some ⟨b, 0, none⟩)) (l ++ [(q, h)]).reverse := by
  rw [List.reverse_append]
  exact ⟨b, kv, rfl, hb, hB, hk⟩

set_option maxRecDepth 100000 in
set_option maxHeartbeats 8000000 in
theorem iBothRule_of (n : Nat) (ih : RuleIH cg cv rv last rs n) (s a k : Nat) (v : Int) (l : List (Lk × Bool)) (kv : Value) (w : World) (r : Rl) (q : Lk) (m : Bool) (wb cb : Nat) (hrl : rs.length ≤ 1000) (hn : 6000 ≤ s + 1 + n) (hs : s < 6000) (hr : rs[a]? = some r) (hnv : ¬ Never r) (hq : (looksOf r)[k]? = some (q, m)) (ha : a < rs.length) (hk : k < 200)
    (hqw : 0 ≤ q.value ∧ q.value ≤ 4294967295) (hqo : q.op = 1 ∨ q.op = 3)
    (hC : Blk w cg 91 #[cv, rv, .int .i64 last, .int .i64 ((s + 1 : Nat) : Int), .bool false]) (hR : CkN cg w rv rs) (hK : KnI cg w kv l.reverse) (hKW : KnW l) (hO : Once l)
    (hW : Blk w wb 213 #[.int .i64 q.field, .int .i64 q.mask, .int .i64 q.op, .int .i64 q.value, .bool m]) (hB : Blk w cb 92 #[.pointer (some ⟨cg, 0, none⟩)]) (hwc : wb ≠ cg) (hcc : cb ≠ cg) :
    Calls Tryz.prog 207 #[kv, .agg #[.int .i64 q.field, .int .i64 q.mask, .int .i64 q.op, .int .i64 q.value], .agg #[.int .i64 (a : Int), .int .i64 (k : Int), .int .i64 v], .func (.func 208) #[] #[.pointer (some ⟨wb, 0, none⟩), .pointer (some ⟨cb, 0, none⟩)]] w (IPost cg cv rv last (fun s' b => RuleRun rs last a k v l s s' b) w) := by
  have hcl := hC.lt
  obtain ⟨po, rfl⟩ := hK.ptr
  have HI := Lib.hid ih; have HC := Lib.hid hC; have HR := Lib.hid hR; have HK := Lib.hid hK; have HKW := Lib.hid hKW; have HO := Lib.hid hO; have HW := Lib.hid hW; have HB := Lib.hid hB
  have HRR := Lib.hid hr; have HNV := Lib.hid hnv; have HQ := Lib.hid hq; have HQW := Lib.hid hqw; have HQO := Lib.hid hqo
  clear ih hC hR hK hKW hO hW hB hr hnv hq hqw hqo
  have hgo : ∀ (W : World) (s1 : Nat) (l1 : List (Lk × Bool)) (kv1 : Value) (h : Bool), 6000 ≤ s1 + n → s1 ≤ 6000 → w.grownBy W (some cg) → Blk W cg 91 #[cv, rv, .int .i64 last, .int .i64 (s1 : Int), .bool false] → KnI cg W kv1 l1.reverse → KnW l1 → Once l1 →
      Calls Tryz.prog 208 #[.agg #[.int .i64 (a : Int), .int .i64 (k : Int), .int .i64 v], kv1, .bool h, .pointer (some ⟨wb, 0, none⟩), .pointer (some ⟨cb, 0, none⟩)] W (IPost cg cv rv last (fun s' b => RuleRun rs last (nextA a h m) (nextK k h m) v l1 s1 s' b) W) := fun W s1 l1 kv1 h h1 h2 h3 h4 h5 h6 h7 =>
    iRuleOn_of cg cv rv last a k v kv1 h m q wb cb W _ (by have := ha; omega) (by omega) (HW.out.grown h3 (by simp; omega)) (HB.out.grown h3 (by simp; omega)) (fun W2 hb2 => HI.out s1 (nextA a h m) (nextK k h m) v l1 kv1 W2 h1 h2 (nextA_le h m ha) (nextK_le h m hk) (nextK_len rs h m HRR.out HQ.out) (h4.same hb2) (HR.out.grown (h3.trans (grown_of_below hb2 _))) (h5.below hb2) h6 h7)
  have hoff : ∀ (W : World) (s1 : Nat) (kv1 : Value) (h : Bool), s1 ≤ 20000 → w.grownBy W (some cg) → Blk W cg 91 #[cv, rv, .int .i64 last, .int .i64 (s1 : Int), .bool true] →
      Calls Tryz.prog 208 #[.agg #[.int .i64 (a : Int), .int .i64 (k : Int), .int .i64 v], kv1, .bool h, .pointer (some ⟨wb, 0, none⟩), .pointer (some ⟨cb, 0, none⟩)] W (IPost cg cv rv last (fun s' b => s' = s1 + 1 ∧ b = false) W) := fun W s1 kv1 h h1 h3 h4 =>
    iRuleOn_of cg cv rv last a k v kv1 h m q wb cb W _ (by have := ha; omega) (by omega) (HW.out.grown h3 (by simp; omega)) (HB.out.grown h3 (by simp; omega)) (fun W2 hb2 => iRule_off cg cv rv last s1 _ _ v kv1 true W2 (h4.same hb2) h1 (.inr rfl))
  have HGO := Lib.hid hgo; have HOFF := Lib.hid hoff
  clear hgo hoff
  obtain ⟨qf, qm, qo, qv⟩ := q
  simp only at HW HQ HQW HQO ⊢
  obtain ⟨X, hX⟩ : ∃ X, X = (w.alloc (.cells #[.int .i64 qf, .int .i64 qm, .int .i64 qo, .int .i64 qv] 211)).alloc (.cells #[.int .i64 (a : Int), .int .i64 (k : Int), .int .i64 v] 218) := ⟨_, rfl⟩
  have hbX : Below w.heap.size w X := by rw [hX]; go_grown
  have hzX : X.heap.size = w.heap.size + 1 + 1 := by rw [hX]; simp
  have bL : Blk X w.heap.size 211 #[.int .i64 qf, .int .i64 qm, .int .i64 qo, .int .i64 qv] := by rw [hX]; exact (Blk.new w _ _).alloc _
  have bS : Blk X (w.heap.size + 1) 218 #[.int .i64 (a : Int), .int .i64 (k : Int), .int .i64 v] := by
    rw [hX]
    have := Blk.new (w.alloc (.cells #[.int .i64 qf, .int .i64 qm, .int .i64 qo, .int .i64 qv] 211)) 218 #[.int .i64 (a : Int), .int .i64 (k : Int), .int .i64 v]
    simpa using this
  have HX := Lib.hid hX; have HBL := Lib.hid bL; have HBS := Lib.hid bS
  have hl0 : w.heap.size < X.heap.size := by omega
  have hl1 : w.heap.size + 1 < X.heap.size := by omega
  have x0 := (show _ = some (Value.int .i64 qf) from bL.cell 0); have x1 := (show _ = some (Value.int .i64 qm) from bL.cell 1); have x2 := (show _ = some (Value.int .i64 qo) from bL.cell 2); have x3 := (show _ = some (Value.int .i64 qv) from bL.cell 3); have x4 := (show _ = some (Value.int .i64 (a : Int)) from bS.cell 0); have x5 := (show _ = some (Value.int .i64 (k : Int)) from bS.cell 1); have x6 := (show _ = some (Value.int .i64 v) from bS.cell 2)
  have HZX := Lib.hid hzX
  clear hX bL bS hzX
  go_enter Tryz.func207, Tryz.ntmps207
  go_wp2_with fail
  rw [← HX.out]
  refine (tell_any cg (.pointer po) l ⟨qf, qm, qo, qv⟩ X (HK.out.below hbX) HKW.out HO.out HQO.out).mono ?_; rintro e w1 ⟨hb, tb, rfl, htell, hb1⟩
  have hbw1 := below_then hbX hb1
  have hz1 := hb1.size
  have bL1 := HBL.out.below hb1 hl0; have bS1 := HBS.out.below hb1 hl1
  have y0 := (show _ = some (Value.int .i64 qf) from bL1.cell 0); have y1 := (show _ = some (Value.int .i64 qm) from bL1.cell 1); have y2 := (show _ = some (Value.int .i64 qo) from bL1.cell 2); have y3 := (show _ = some (Value.int .i64 qv) from bL1.cell 3); have y4 := (show _ = some (Value.int .i64 (a : Int)) from bS1.cell 0); have y5 := (show _ = some (Value.int .i64 (k : Int)) from bS1.cell 1); have y6 := (show _ = some (Value.int .i64 v) from bS1.cell 2)
  have HL1 := Lib.hid bL1; have HS1 := Lib.hid bS1
  have HG1 := Lib.hid (grown_of_below hbw1 (some cg))
  have HC1 := Lib.hid (HC.out.same hbw1)
  have HK1 := Lib.hid (HK.out.below hbw1)
  clear bL1 bS1 hb1 x0 x1 x2 x3 x4 x5 x6
  have HT := Lib.hid htell
  clear htell
  cases tb
  · have HN : Hid (tellO l ⟨qf, qm, qo, qv⟩ = none) := Lib.hid (by rcases HT.out with h | h; exact h.1; exact absurd h.2 (by simp))
    have hcg1 : cg < w1.heap.size := by omega
    have hbK : Below w1.heap.size w1 (w1.alloc (.cells #[.int .i64 qf, .int .i64 qm, .int .i64 qo, .int .i64 qv, .bool true, (.pointer po)] 287)) := by go_grown
    have hkk : KnI cg (w1.alloc (.cells #[.int .i64 qf, .int .i64 qm, .int .i64 qo, .int .i64 qv, .bool true, (.pointer po)] 287)) (.pointer (some ⟨w1.heap.size, 0, none⟩)) (l ++ [((⟨qf, qm, qo, qv⟩ : Lk), true)]).reverse := KnI.snoc cg (HK1.out.below hbK) (by omega) (Blk.new _ _ _)
    have h9 := HGO.out (w1.alloc (.cells #[.int .i64 qf, .int .i64 qm, .int .i64 qo, .int .i64 qv, .bool true, (.pointer po)] 287)) (s + 1) (l ++ [((⟨qf, qm, qo, qv⟩ : Lk), true)]) (.pointer (some ⟨w1.heap.size, 0, none⟩)) true (by omega) (by omega) (HG1.out.trans (grown_of_below hbK _)) (HC1.out.same hbK) hkk (HKW.out.snoc HQW.out) (HO.out.snoc HN.out true)
    have H9 := Lib.hid h9; have HBK := Lib.hid hbK
    clear h9 hkk hbK
    go_wp2_with fail
    refine H9.out.mono ?_; rintro e w2 ⟨rfl, s1, b1, hrun1, hb2, hg2⟩
    have hg12 := (grown_of_below HBK.out (some cg)).trans hg2
    have bL2 := HL1.out.grown hg12 (by simp; omega); have bS2 := HS1.out.grown hg12 (by simp; omega)
    have z0 := (show _ = some (Value.int .i64 qf) from bL2.cell 0); have z1 := (show _ = some (Value.int .i64 qm) from bL2.cell 1); have z2 := (show _ = some (Value.int .i64 qo) from bL2.cell 2); have z3 := (show _ = some (Value.int .i64 qv) from bL2.cell 3); have z4 := (show _ = some (Value.int .i64 (a : Int)) from bS2.cell 0); have z5 := (show _ = some (Value.int .i64 (k : Int)) from bS2.cell 1); have z6 := (show _ = some (Value.int .i64 v) from bS2.cell 2)
    have HK2 := Lib.hid (HK1.out.grown hg12)
    have HG2 := Lib.hid (HG1.out.trans hg12)
    have HB2 := Lib.hid hb2; have HRUN1 := Lib.hid hrun1
    have hz2 := hg12.size
    have hbd := hrun1.bound (by omega)
    have hcg2 : cg < w2.heap.size := by omega
    clear bL2 bS2 hb2 hrun1 hg2 hg12 y0 y1 y2 y3 y4 y5 y6
    have hbK2 : Below w2.heap.size w2 (w2.alloc (.cells #[.int .i64 qf, .int .i64 qm, .int .i64 qo, .int .i64 qv, .bool false, (.pointer po)] 287)) := by go_grown
    have hkk2 : KnI cg (w2.alloc (.cells #[.int .i64 qf, .int .i64 qm, .int .i64 qo, .int .i64 qv, .bool false, (.pointer po)] 287)) (.pointer (some ⟨w2.heap.size, 0, none⟩)) (l ++ [((⟨qf, qm, qo, qv⟩ : Lk), false)]).reverse := KnI.snoc cg (HK2.out.below hbK2) (by omega) (Blk.new _ _ _)
    cases b1
    · have h9 := HOFF.out (w2.alloc (.cells #[.int .i64 qf, .int .i64 qm, .int .i64 qo, .int .i64 qv, .bool false, (.pointer po)] 287)) s1 (.pointer (some ⟨w2.heap.size, 0, none⟩)) false (by omega) (HG2.out.trans (grown_of_below hbK2 _)) (HB2.out.same hbK2)
      have H9 := Lib.hid h9; have HBK2 := Lib.hid hbK2
      clear h9 hkk2 hbK2 hbd
      go_wp2_with fail
      refine H9.out.mono ?_; rintro e w3 ⟨rfl, s', b', ⟨rfl, rfl⟩, hb3, hg3⟩
      have HF := Lib.hid (show IPost cg cv rv last (fun s' b => RuleRun rs last a k v l s s' b) w (.returned (.tuple #[])) w3 from ⟨rfl, s1 + 1, false, .stop hs HRR.out HNV.out HQ.out HN.out HRUN1.out, hb3, (HG2.out.trans (grown_of_below HBK2.out _)).trans hg3⟩)
      clear hb3 hg3
      go_wp2
      go_end0
      exact HF.out
    · have h9 := HGO.out (w2.alloc (.cells #[.int .i64 qf, .int .i64 qm, .int .i64 qo, .int .i64 qv, .bool false, (.pointer po)] 287)) s1 (l ++ [((⟨qf, qm, qo, qv⟩ : Lk), false)]) (.pointer (some ⟨w2.heap.size, 0, none⟩)) false (by omega) (hbd.2.2 rfl) (HG2.out.trans (grown_of_below hbK2 _)) (HB2.out.same hbK2) hkk2 (HKW.out.snoc HQW.out) (HO.out.snoc HN.out false)
      have H9 := Lib.hid h9; have HBK2 := Lib.hid hbK2
      clear h9 hkk2 hbK2 hbd
      go_wp2_with fail
      refine H9.out.mono ?_; rintro e w3 ⟨rfl, s', b', hrun, hb3, hg3⟩
      have HF := Lib.hid (show IPost cg cv rv last (fun s' b => RuleRun rs last a k v l s s' b) w (.returned (.tuple #[])) w3 from ⟨rfl, s', b', .both hs HRR.out HNV.out HQ.out HN.out HRUN1.out hrun, hb3, (HG2.out.trans (grown_of_below HBK2.out _)).trans hg3⟩)
      clear hb3 hg3 hrun
      go_wp2
      go_end0
      exact HF.out
  · have HN : Hid (tellO l ⟨qf, qm, qo, qv⟩ = some hb) := Lib.hid (by rcases HT.out with h | h; exact absurd h.2 (by simp); exact h.1)
    have h9 := HGO.out w1 (s + 1) l (.pointer po) hb (by omega) (by omega) HG1.out HC1.out HK1.out HKW.out HO.out
    have H9 := Lib.hid h9
    clear h9
    go_wp2_with fail
    refine H9.out.mono ?_; rintro e w2 ⟨rfl, s', b', hrun, hb2, hg2⟩
    have HF := Lib.hid (show IPost cg cv rv last (fun s' b => RuleRun rs last a k v l s s' b) w (.returned (.tuple #[])) w2 from ⟨rfl, s', b', .told hs HRR.out HNV.out HQ.out HN.out hrun, hb2, HG1.out.trans hg2⟩)
    clear hrun hb2 hg2
    go_wp2
    go_end0
    exact HF.out
end
end Go.Proofs.YtnlhnnidbppciaaGreatDoor
