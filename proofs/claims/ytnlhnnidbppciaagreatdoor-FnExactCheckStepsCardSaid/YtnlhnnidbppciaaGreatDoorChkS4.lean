/- spec's check: what a rule looks at. -/
import Derived.Test.YtnlhnnidbppciaaGreatDoorChkS3

import Derived.Deep.DeepCutAuto
namespace Go.Proofs.YtnlhnnidbppciaaGreatDoor
open Go.RowKit
set_option linter.unusedSimpArgs false
set_option linter.unusedVariables false

def NeverB (ts : List Ts) : Prop := ∃ t ∈ ts, t.op = 2 ∧ t.value = 0
/-- A rule whose numbers are words. -/
def RlW (r : Rl) : Prop := (0 ≤ r.low ∧ r.low ≤ 4294967295) ∧ (0 ≤ r.high ∧ r.high ≤ 4294967295) ∧ r.tests.length ≤ 100 ∧ ∀ t ∈ r.tests, 0 ≤ t.value ∧ t.value ≤ 4294967295 ∧ (t.op = 1 ∨ t.op = 2 ∨ t.op = 3)
theorem testL_len (t : Ts) : (testL t).length ≤ 1 := by unfold testL; split <;> (try split) <;> simp
theorem rangeL_len (lo hi : Int) : (rangeL lo hi).length ≤ 2 := by unfold rangeL; split <;> (try split) <;> (try split) <;> simp
theorem flat_tests_len : ∀ (ts : List Ts), (ts.flatMap testL).length ≤ ts.length
  | [] => by simp
  | t :: ts => by have h1 := testL_len t; have h2 := flat_tests_len ts; simp only [List.flatMap_cons, List.length_append, List.length_cons]; omega

theorem own_gb {w w' : World} {base n : Nat} {e : TypeId} {size : Nat} {v : Value} {xs : List Value} (h : w.ownsRow base e size v n xs) (hg : w.grownBy w' v.ownBlock) (hb : base ≤ w.heap.size) : Below base w w' :=
  (Below.refl base w).grown hg hb (fun k hk => (h.lt k hk).1)
theorem looks_next {R : List (Lk × Bool)} {ts : List Ts} {k : Nat} {t : Ts} {z : Lk × Bool} (h : ts.take (k + 1) = ts.take k ++ [t]) (hz : testL t = [z]) : R ++ (ts.take (k + 1)).flatMap testL = (R ++ (ts.take k).flatMap testL) ++ [z] := by
  rw [h, List.flatMap_append]; simp [hz]
theorem never_next {ts : List Ts} {k : Nat} {t : Ts} (h : ts.take (k + 1) = ts.take k ++ [t]) (hn : ¬ NeverB (ts.take k)) (ht : ¬ (t.op = 2 ∧ t.value = 0)) : ¬ NeverB (ts.take (k + 1)) := by
  rintro ⟨x, hx, h1⟩
  rw [h] at hx
  rcases List.mem_append.1 hx with hx | hx
  · exact hn ⟨x, hx, h1⟩
  · rw [List.mem_singleton] at hx; subst hx; exact ht h1
def LooksPost (r : Rl) (w : World) (e : Ending) (w' : World) : Prop :=
  ∃ v' b, e = .returned (.tuple #[v', .bool b]) ∧ ((Never r ∧ b = false) ∨ (¬ Never r ∧ b = true ∧ w'.ownsRow w.heap.size 253 5 v' (looksOf r).length (knR (looksOf r)).flatten)) ∧ Below w.heap.size w w'
set_option maxHeartbeats 4000000 in
theorem l6Looks_any (r : Rl) (tv : Value) (w : World) (hT : Sl w 4 tv (tsR r.tests)) (hr : RlW r) :
    Calls Tryz.prog 200 #[.agg #[.int .i64 r.verdict, .int .i64 r.low, .int .i64 r.high, tv]] w (LooksPost r w) := by
  obtain ⟨vd, lo, hi, ts⟩ := r
  simp only at hT ⊢
  obtain ⟨⟨l0, l1⟩, ⟨h0, h1⟩, hl, hts⟩ := hr
  simp only at l0 l1 h0 h1 hl hts
  obtain ⟨A, n, c, rfl, hA⟩ := hT
  have hn : ts.length = n := by have := hA.len; rwa [tsR_len] at this
  have hc := hA.cap
  have hm := hA.max
  unfold maxLen at hm
  rw [hn] at hl
  have HL := Lib.hid hn; have HA := Lib.hid hA; have HT := Lib.hid hts
  clear hn hA hts
  have hb0 : Below w.heap.size w (w.alloc (.cells #[.int .i64 vd, .int .i64 lo, .int .i64 hi, .slice A n c] 99)) := by go_grown
  have B0 := Blk.new w 99 #[.int .i64 vd, .int .i64 lo, .int .i64 hi, .slice A n c]
  obtain ⟨X, hX⟩ : ∃ X, X = w.alloc (.cells #[.int .i64 vd, .int .i64 lo, .int .i64 hi, .slice A n c] 99) := ⟨_, rfl⟩
  have hzX : X.heap.size = w.heap.size + 1 := by rw [hX]; simp
  rw [← hX] at hb0 B0
  have hlX : w.heap.size < X.heap.size := by omega
  have b1 := (show _ = some (Value.int .i64 lo) from B0.cell 1); have b2 := (show _ = some (Value.int .i64 hi) from B0.cell 2)
  have HX := Lib.hid hX; have HB := Lib.hid B0; have HZ := Lib.hid hzX
  clear hX B0 hzX
  go_enter Tryz.func200, Tryz.ntmps200
  go_upto_if 13 with (fail)
  rw [← HX.out]
  go_cut [4] (fun s4 wx => Hid (wx.ownsRow X.heap.size 253 5 s4 (rangeL lo hi).length (knR (rangeL lo hi)).flatten) ∧ Below X.heap.size X wx)
  case first =>
    have hbE : Below X.heap.size X (X.alloc (.cells #[] 253)) := by go_grown
    have HE0 := Lib.hid (show (X.alloc (.cells #[] 253)).heap.size = X.heap.size + 1 by simp)
    have HOE := Lib.hid (show (X.alloc (.cells #[] 253)).ownsRow X.heap.size 253 5 (.slice (some ⟨w.heap.size + 1, 0, none⟩) 0 0) 0 [] from own_empty (by rw [← HZ.out]; exact Blk.new X _ _) (by rw [HZ.out]; exact Nat.le_refl _))
    by_cases h : lo = hi
    · have HR := Lib.hid (show rangeL lo hi = [(⟨0, 4294967295, 1, lo⟩, true)] by simp [rangeL, h])
      subst h
      go_wp2_with (at_builtin; go_must (refine wpList_app1g (w0 := X.alloc (.cells #[] 253)) rfl (.tmp 14) (.tmp 18) _ rfl X.heap.size 253 Tryz.underlying150 info_Kn rfl (by omega) (by omega) (.slice (some ⟨w.heap.size + 1, 0, none⟩) 0 0) 0 [] rfl HOE.out rfl (by simp [Value.oneCell']) (by rw [World.size_alloc]; rfl) (by omega) (by simp) ?_); intro v2 W2 hown hg _; have hbW2 : Below X.heap.size X W2 := (hbE).grown hg (by rw [HE0.out]; omega) (fun k hk => ((HOE.out).lt k hk).1); have HOW2 := Lib.hid hown; clear hown hg)
      go_meet
      exact ⟨Lib.hid (by rw [HR.out]; exact HOW2.out), hbW2⟩
    · by_cases h2 : 0 < lo
      · by_cases h3 : hi < 4294967295
        · have HR := Lib.hid (show rangeL lo hi = [(⟨0, 4294967295, 3, lo - 1⟩, true), (⟨0, 4294967295, 3, hi⟩, false)] by simp [rangeL, h, h2, h3])
          go_upto_region 6 with (at_builtin; go_must (refine wpList_app1g (w0 := X.alloc (.cells #[] 253)) rfl (.tmp 23) (.tmp 28) _ rfl X.heap.size 253 Tryz.underlying150 info_Kn rfl (by omega) (by omega) (.slice (some ⟨w.heap.size + 1, 0, none⟩) 0 0) 0 [] rfl HOE.out rfl (by simp [Value.oneCell']) (by rw [World.size_alloc]; rfl) (by omega) (by simp) ?_); intro v2 W2 hown hg _; have hbW2 : Below X.heap.size X W2 := (hbE).grown hg (by rw [HE0.out]; omega) (fun k hk => ((HOE.out).lt k hk).1); have Y := HB.out.below hbW2 hlX; have y1 := (show _ = some (Value.int .i64 lo) from Y.cell 1); have y2 := (show _ = some (Value.int .i64 hi) from Y.cell 2); have HOW2 := Lib.hid hown; clear hown hg Y)
          go_wp2_with (at_builtin; go_must (refine wpList_app1g (w0 := W2) rfl (.tmp 33) (.tmp 37) _ rfl X.heap.size 253 Tryz.underlying150 info_Kn rfl (by omega) (by omega) v2 1 [knC (⟨0, 4294967295, 3, lo - 1⟩, true)] rfl HOW2.out rfl (by simp [Value.oneCell']) rfl (by omega) (by exact hbW2.size) ?_); intro v3 W3 hown hg _; have hbW3 : Below X.heap.size X W3 := (hbW2).grown hg (by exact hbW2.size) (fun k hk => ((HOW2.out).lt k hk).1); have Y := HB.out.below hbW3 hlX; have y1 := (show _ = some (Value.int .i64 lo) from Y.cell 1); have y2 := (show _ = some (Value.int .i64 hi) from Y.cell 2); have HOW3 := Lib.hid hown; clear hown hg Y)
          go_meet
          exact ⟨Lib.hid (by rw [HR.out]; exact HOW3.out), hbW3⟩
        · have HR := Lib.hid (show rangeL lo hi = [(⟨0, 4294967295, 3, lo - 1⟩, true)] by simp [rangeL, h, h2, h3])
          go_wp2_with (at_builtin; go_must (refine wpList_app1g (w0 := X.alloc (.cells #[] 253)) rfl (.tmp 23) (.tmp 28) _ rfl X.heap.size 253 Tryz.underlying150 info_Kn rfl (by omega) (by omega) (.slice (some ⟨w.heap.size + 1, 0, none⟩) 0 0) 0 [] rfl HOE.out rfl (by simp [Value.oneCell']) (by rw [World.size_alloc]; rfl) (by omega) (by simp) ?_); intro v2 W2 hown hg _; have hbW2 : Below X.heap.size X W2 := (hbE).grown hg (by rw [HE0.out]; omega) (fun k hk => ((HOE.out).lt k hk).1); have Y := HB.out.below hbW2 hlX; have y1 := (show _ = some (Value.int .i64 lo) from Y.cell 1); have y2 := (show _ = some (Value.int .i64 hi) from Y.cell 2); have HOW2 := Lib.hid hown; clear hown hg Y)
          go_meet
          exact ⟨Lib.hid (by rw [HR.out]; exact HOW2.out), hbW2⟩
      · by_cases h3 : hi < 4294967295
        · have HR := Lib.hid (show rangeL lo hi = [(⟨0, 4294967295, 3, hi⟩, false)] by simp [rangeL, h, h2, h3])
          go_wp2_with (at_builtin; go_must (refine wpList_app1g (w0 := X.alloc (.cells #[] 253)) rfl (.tmp 33) (.tmp 37) _ rfl X.heap.size 253 Tryz.underlying150 info_Kn rfl (by omega) (by omega) (.slice (some ⟨w.heap.size + 1, 0, none⟩) 0 0) 0 [] rfl HOE.out rfl (by simp [Value.oneCell']) (by rw [World.size_alloc]; rfl) (by omega) (by simp) ?_); intro v2 W2 hown hg _; have hbW2 : Below X.heap.size X W2 := (hbE).grown hg (by rw [HE0.out]; omega) (fun k hk => ((HOE.out).lt k hk).1); have Y := HB.out.below hbW2 hlX; have y1 := (show _ = some (Value.int .i64 lo) from Y.cell 1); have y2 := (show _ = some (Value.int .i64 hi) from Y.cell 2); have HOW2 := Lib.hid hown; clear hown hg Y)
          go_meet
          exact ⟨Lib.hid (by rw [HR.out]; exact HOW2.out), hbW2⟩
        · have HR := Lib.hid (show rangeL lo hi = [] by simp [rangeL, h, h2, h3])
          go_wp2
          go_meet
          exact ⟨Lib.hid (by rw [HR.out]; exact HOE.out), hbE⟩
  case rest =>
    obtain ⟨HO, hbx⟩ := hcut
    clear b1 b2
    have HRL := Lib.hid (rangeL_len lo hi)
    go_wp2
    go_loopw [4, 5] (fun o i wr => ∃ (k : Nat) (v : Value), k ≤ n ∧ i = .int .i64 k ∧ o = v ∧ Hid (¬ NeverB (ts.take k)) ∧ Hid (wr.ownsRow X.heap.size 253 5 v (rangeL lo hi ++ (ts.take k).flatMap testL).length (knR (rangeL lo hi ++ (ts.take k).flatMap testL)).flatten) ∧ Below X.heap.size X wr) (fun _ i _ => n - (intOf i).toNat)
    case atStart => exact ⟨0, _, Nat.zero_le _, rfl, rfl, Lib.hid (fun h => by obtain ⟨t, ht, _⟩ := h; simp at ht), Lib.hid (by simpa using HO.out), hbx⟩
    case round =>
      clear HO hbx
      obtain ⟨k, v, hk, rfl, rfl, HNV, HO, hb⟩ := hrel
      have hsz := hb.size
      have hz0 : w.heap.size < wr.heap.size := by omega
      have hbw := hb0.trans (hb.mono (Nat.le_of_lt hlX))
      have B1 := HB.out.below hb hlX
      have b3 := (show _ = some (Value.slice A n c) from B1.cell 3)
      clear B1
      by_cases hlt : k < n
      · obtain ⟨b, off, ⟨tf, tm, tO, tvv⟩, rfl, hab, hgp, hcell⟩ := ts_get HA.out hlt
        obtain ⟨c0, c1, c2, c3⟩ := hcell wr _ hbw hab
        simp only at c0 c1 c2 c3
        obtain ⟨tv0, tv1, htop⟩ := HT.out _ (List.mem_of_getElem? hgp)
        simp only at tv0 tv1 htop
        have HTK := Lib.hid (take_next hgp)
        have HLN := Lib.hid (show (rangeL lo hi ++ (ts.take k).flatMap testL).length ≤ 200 by have h1 := flat_tests_len (ts.take k); have h2 := HRL.out; rw [List.length_append]; have h3 : (ts.take k).length ≤ k := List.length_take_le _ _; omega)
        have hln := HLN.out
        clear hcell hgp
        by_cases h2 : tO = 2
        · subst h2
          by_cases h0 : tvv = 0
          · subst h0
            have HNE := Lib.hid (show NeverB ts from ⟨⟨tf, tm, 2, 0⟩, by rw [← List.take_append_drop (k + 1) ts, HTK.out]; simp, rfl, rfl⟩)
            go_wp2
            all_goals
              go_ret2
              exact ⟨_, false, rfl, .inl ⟨HNE.out, rfl⟩, hbw.trans (by go_grown)⟩
          · have HNX := Lib.hid (show testL ⟨tf, tm, 2, tvv⟩ = [(⟨tf, tm, 3, tvv - 1⟩, false)] by simp [testL, h0])
            have HNW := Lib.hid (never_next HTK.out HNV.out (fun h => h0 h.2))
            have HLK := Lib.hid (looks_next (R := rangeL lo hi) HTK.out HNX.out)
            go_wp2_with (at_builtin; go_must (refine wpList_app1g rfl (.tmp 73) (.tmp 75) _ rfl X.heap.size 253 Tryz.underlying150 info_Kn rfl (by omega) (by omega) _ _ (knR (rangeL lo hi ++ (ts.take k).flatMap testL)) rfl (own_below HO.out (by go_grown)) rfl (by simp [Value.oneCell']) (by simp only [World.size_alloc]; rfl) (by omega) (by simp; omega) ?_); intro v2 W2 hown hg _; have hbb := own_gb (own_below HO.out (by go_grown)) hg (by simp; omega); have HO2 := Lib.hid hown; clear hown hg)
            exact ⟨⟨k + 1, v2, by omega, by go_num, rfl, HNW, Lib.hid (by rw [HLK.out, knR_snoc, List.length_append]; exact HO2.out), hb.trans ((show Below X.heap.size wr _ by go_grown).trans hbb)⟩, by simp [intOf]; omega⟩
        · have HNX := Lib.hid (show testL ⟨tf, tm, tO, tvv⟩ = [(⟨tf, tm, tO, tvv⟩, true)] by simp [testL, h2])
          have HNW := Lib.hid (never_next HTK.out HNV.out (fun h => h2 h.1))
          have HLK := Lib.hid (looks_next (R := rangeL lo hi) HTK.out HNX.out)
          go_wp2_with (at_builtin; go_must (refine wpList_app1g rfl (.tmp 73) (.tmp 75) _ rfl X.heap.size 253 Tryz.underlying150 info_Kn rfl (by omega) (by omega) _ _ (knR (rangeL lo hi ++ (ts.take k).flatMap testL)) rfl (own_below HO.out (by go_grown)) rfl (by simp [Value.oneCell']) (by simp only [World.size_alloc]; rfl) (by omega) (by simp; omega) ?_); intro v2 W2 hown hg _; have hbb := own_gb (own_below HO.out (by go_grown)) hg (by simp; omega); have HO2 := Lib.hid hown; clear hown hg)
          exact ⟨⟨k + 1, v2, by omega, by go_num, rfl, HNW, Lib.hid (by rw [HLK.out, knR_snoc, List.length_append]; exact HO2.out), hb.trans ((show Below X.heap.size wr _ by go_grown).trans hbb)⟩, by simp [intOf]; omega⟩
      · obtain rfl : k = n := by omega
        have HE := Lib.hid (show ¬ Never ⟨vd, lo, hi, ts⟩ ∧ wr.ownsRow w.heap.size 253 5 _ (looksOf ⟨vd, lo, hi, ts⟩).length (knR (looksOf ⟨vd, lo, hi, ts⟩)).flatten from ⟨by have := HNV.out; rw [List.take_of_length_le (by rw [HL.out]; omega)] at this; exact this, by have := HO.out; rw [List.take_of_length_le (by rw [HL.out]; omega)] at this; exact own_base this (Nat.le_of_lt hlX)⟩)
        clear HNV HO
        go_wp2
        all_goals
          go_ret2
          exact ⟨_, true, rfl, .inr ⟨HE.out.1, rfl, HE.out.2⟩, hbw⟩
end Go.Proofs.YtnlhnnidbppciaaGreatDoor
