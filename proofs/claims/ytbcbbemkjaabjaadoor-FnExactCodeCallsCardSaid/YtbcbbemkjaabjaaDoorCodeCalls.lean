/- impl.CodeCalls and spec.CodeCalls: both are the fields that are loaded where a run can come, ascending, each once. -/
import Derived.Test.YtbcbbemkjaabjaaDoorCallsP
import Derived.Test.YtbcbbemkjaabjaaDoorSortI
import Derived.Test.YtbcbbemkjaabjaaDoorGrownRow
import Derived.Test.YtbcbbemkjaabjaaDoorLiveI
namespace Go.Proofs.YtbcbbemkjaabjaaDoor
open Go.RowKit
set_option linter.unusedSimpArgs false
set_option linter.unusedVariables false

/-- What both return. -/
noncomputable def callsOf (g : List In4) : List Int := if codeOkB g then fsTo g (liveRow g) 5 else []
theorem callsOf_len (g : List In4) : (callsOf g).length ≤ 160 := by
  unfold callsOf
  split
  · have := fsTo_len g (liveRow g) 5; omega
  · simp
def CallsPost (g : List In4) (w : World) (e : Ending) (w' : World) : Prop := ∃ v, e = .returned v ∧ w'.ownsRow w.heap.size 3 1 v (callsOf g).length (ints (callsOf g)).flatten ∧ Below w.heap.size w w'

set_option maxHeartbeats 2000000 in
theorem CodeCalls_ok (v : Value) (g : List In4) (w : World) (hs : Sl w 4 v (insR g)) (hp : Pow w) (hg : codeOk g) :
    Calls Tryd.prog 22 #[v] w (CallsPost g w) := by
  have hO := CodeOk_any v g w hs hp
  obtain ⟨A, n, c, rfl, hA⟩ := hs
  have hl : g.length = n := by have := hA.len; rwa [insR_len] at this
  have hc := hA.cap
  have hm := hA.max
  unfold maxLen at hm
  have h1 : 1 ≤ n := by rw [← hl]; exact hg.1.1
  have h2 : n ≤ 160 := by rw [← hl]; exact hg.1.2.1
  have hgb : codeOkB g = true := codeOkB_iff.2 hg
  have HO := Lib.hid hO; have HL := Lib.hid hl; have HG := Lib.hid hg; have HA := Lib.hid hA; clear hO hl hg hA
  go_enter Tryd.func22, Tryd.ntmps22
  go_wp2_with fail
  refine (HO.out).mono ?_; rintro e w1 ⟨rfl, hb1⟩
  rw [hgb]
  go_wp2_with fail
  refine (live_ok A n c g _ (HA.out.below hb1) HG.out.1).mono ?_; rintro e w2 ⟨ws, rs, hS, hR, rfl, hset, hb2⟩
  have hrs : rs = liveRow g := liveRow_eq HG.out.1 hR
  have hrl : rs.length = n := hR.len.trans HL.out
  have hsl := hset.lt
  have hb02 := below_then hb1 hb2
  have hA2 := HA.out.below hb02
  have HS := Lib.hid hS; have HRS := Lib.hid hrs; have HRL := Lib.hid hrl; have HSET := Lib.hid hset; clear hS hR hrs hrl hset
  go_wp2
  go_loopw [4, 14] (fun v i wr => ∃ k : Nat, k ≤ n ∧ i = .int .i64 k ∧ wr.ownsRow w2.heap.size 3 1 v (csTo g rs k).length (ints (csTo g rs k)).flatten ∧ Below w2.heap.size w2 wr) (fun _ i _ => n - (intOf i).toNat)
  case atStart => exact ⟨0, Nat.zero_le _, rfl, World.ownsRow_nil _ _ _ _, by go_grown⟩
  case round =>
    obtain ⟨k, hk, rfl, hown, hbw⟩ := hrel
    have hsz := hbw.size
    have hvl := csTo_len g rs k
    by_cases hlt : k < n
    · have hkni : (k : Int) < n := by omega
      obtain ⟨b, off, p, rfl, hab, hgp, hcell⟩ := ins_get hA2 hlt
      obtain ⟨rb, hrb⟩ := bRow_some HRL.out hlt
      have hbit : (wordAt ws k).testBit (k % 64) = rb := by
        have := HS.out.bits k (by rw [HRL.out]; exact hlt)
        rw [hrb] at this
        cases rb <;> simp_all
      obtain ⟨po, pv, py, pn⟩ := p
      obtain ⟨c0, c1, c2, c3⟩ := hcell wr _ hbw hab
      simp only at c0 c1 c2 c3
      have hb3 : Below wr.heap.size wr (wr.alloc (.cells #[.int .i64 po, .int .i64 pv, .int .i64 py, .int .i64 pn] 42)) := by go_grown
      have hsetr : Blk (wr.alloc (.cells #[.int .i64 po, .int .i64 pv, .int .i64 py, .int .i64 pn] 42)) w1.heap.size 62 (wRow ws) := Blk.alloc (show Blk wr w1.heap.size 62 (wRow ws) from (hbw.block _ hsl).trans HSET.out) _
      have HP := Lib.hid hgp; have HRB := Lib.hid hrb; clear hgp hcell hrb
      obtain ⟨A5, n5, c5', rfl, -⟩ := SlA.of_own hown (ints_len _) (ints_rows _)
      have HOWN := Lib.hid hown; clear hown
      by_cases hop : po = 1
      · have hop' : (po == 1) = true := by simp [hop]
        have HOP := Lib.hid hop; clear hop
        go_wp2_with fail
        refine (has_any w1.heap.size k ws _ hsetr HS.out.len HS.out.lt (by omega)).mono ?_; rintro e w3 ⟨rfl, rfl⟩
        rw [hbit]
        cases rb with
        | false =>
          go_wp2
          exact ⟨⟨k + 1, by omega, by go_num, by rw [csTo_off HRB.out]; exact own_below HOWN.out hb3, hbw.trans (hb3.mono hsz)⟩, by simp [intOf]; try omega⟩
        | true =>
          have HS2 := Lib.hid (csTo_yes HP.out HRB.out HOP.out)
          go_wp2_with (at_builtin; go_must (refine wpList_app1 (w0 := wr.alloc (.cells #[.int .i64 po, .int .i64 pv, .int .i64 py, .int .i64 pn] 42)) rfl (.tmp 27) (.tmp 30) _ rfl w2.heap.size 3 Tryd.underlying35 info_int rfl (by omega) (by omega) _ (csTo g rs k).length (ints (csTo g rs k)) rfl (own_below HOWN.out hb3) rfl (by simp [Value.oneCell']) (by show Value.slice (some ⟨_, 0, none⟩) 1 1 = _; simp) (by omega) (by simp; omega) ?_); intro v5 w5 hown5 hb5 _; obtain ⟨g5, cap5, rfl, hg5, hg5'⟩ := hown5.form (by omega))
          refine ⟨⟨k + 1, by omega, by go_num, ?_, (hbw.trans (hb3.mono hsz)).trans hb5⟩, by simp [intOf]; try omega⟩
          rw [HS2.out]
          simpa [ints] using hown5
      · have hop' : (po == 1) = false := by simp [hop]
        have HS2 := Lib.hid (csTo_op (rs := rs) HP.out hop); clear hop
        go_wp2
        exact ⟨⟨k + 1, by omega, by go_num, by rw [HS2.out]; exact own_below HOWN.out hb3, hbw.trans (hb3.mono hsz)⟩, by simp [intOf]; try omega⟩
    · obtain rfl : k = n := by omega
      obtain ⟨A5, n5, c5', rfl, -⟩ := SlA.of_own hown (ints_len _) (ints_rows _)
      have HOWN := Lib.hid hown; clear hown
      go_wp2_with fail
      refine (Sort_own w2.heap.size _ _ _ _ (own_below HOWN.out (by go_grown)) rfl (by omega)).mono ?_; rintro e w3 ⟨rfl, own3, hb3⟩
      have hml : ((csTo g rs k).mergeSort fun x y => decide (x ≤ y)).length = (csTo g rs k).length := by simp
      go_wp2_with fail
      refine (Compact_own w2.heap.size _ _ _ _ own3 hml (by omega)).mono ?_; rintro e w4 ⟨v4, rfl, own4, hb4⟩
      have hv : Lib.compact ((csTo g rs k).mergeSort fun x y => decide (x ≤ y)) = callsOf g := by
        unfold callsOf
        rw [if_pos hgb, ← HRS.out, ← HL.out, calls_one HG.out.1]
      rw [hv] at own4
      obtain ⟨A6, n6, c6, rfl, -⟩ := SlA.of_own own4 (ints_len _) (ints_rows _)
      have HO4 := Lib.hid own4; clear own4 own3
      go_wp2
      go_ret
      have hs02 := hb02.size
      exact ⟨_, rfl, own_base HO4.out hs02, hb02.trans ((hbw.trans (hb3.trans hb4)).mono hs02)⟩

theorem CodeCalls_no (v : Value) (g : List In4) (w : World) (hs : Sl w 4 v (insR g)) (hp : Pow w) (hg : ¬ codeOk g) :
    Calls Tryd.prog 22 #[v] w (CallsPost g w) := by
  have hO := CodeOk_any v g w hs hp
  obtain ⟨A, n, c, rfl, hA⟩ := hs
  have hgb := codeOkB_no hg
  have he : callsOf g = [] := by unfold callsOf; rw [hgb]; rfl
  have HE := Lib.hid he; have HO := Lib.hid hO; clear he hg hO hA
  go_enter Tryd.func22, Tryd.ntmps22
  go_wp2_with fail
  refine (HO.out).mono ?_; rintro e w1 ⟨rfl, hb1⟩
  rw [hgb]
  go_wp2
  go_ret
  exact ⟨_, rfl, by rw [HE.out]; exact World.ownsRow_nil _ _ _ _, hb1⟩

theorem sCodeCalls_no (v : Value) (g : List In4) (w : World) (hs : Sl w 4 v (insR g)) (hg : ¬ codeOk g) :
    Calls Tryd.prog 21 #[v] w (CallsPost g w) := by
  have hgb := codeOkB_no hg
  have he : callsOf g = [] := by unfold callsOf; rw [hgb]; rfl
  have hB : Below w.heap.size w (w.alloc (.cells #[] 3)) := by go_grown
  have HG := Lib.hid (sCodeOk_any v g _ (hs.below hB))
  have hE : (w.alloc (.cells #[] 3)).ownsRow w.heap.size 3 1 (.slice (some ⟨w.heap.size, 0, none⟩) 0 0) 0 [] := World.ownsRow_made w #[] 0 (Nat.le_refl _) (by unfold maxLen; omega) rfl
  have HE := Lib.hid hE; have HC := Lib.hid he; clear hE he
  go_enter Tryd.func21, Tryd.ntmps21
  go_wp2_with fail
  refine (HG.out).mono ?_; rintro e w1 ⟨rfl, hb1⟩
  rw [hgb]
  go_wp2
  go_ret
  exact ⟨_, rfl, by rw [HC.out]; exact own_below HE.out hb1, below_then hB hb1⟩

set_option maxHeartbeats 2000000 in
theorem sCodeCalls_ok (v : Value) (g : List In4) (w : World) (hs : Sl w 4 v (insR g)) (hg : codeOk g) :
    Calls Tryd.prog 21 #[v] w (CallsPost g w) := by
  have hG := sCodeOk_any v g
  obtain ⟨A, n, c, rfl, hA⟩ := hs
  have hl : g.length = n := by have := hA.len; rwa [insR_len] at this
  have hc := hA.cap
  have hm := hA.max
  unfold maxLen at hm
  have h1 : 1 ≤ n ∧ n ≤ 160 := by rw [← hl]; exact ⟨hg.1.1, hg.1.2.1⟩
  obtain ⟨h1, h2⟩ := h1
  have hgb : codeOkB g = true := codeOkB_iff.2 hg
  have hB : Below w.heap.size w (w.alloc (.cells #[] 3)) := by go_grown
  have hE : (w.alloc (.cells #[] 3)).ownsRow w.heap.size 3 1 (.slice (some ⟨w.heap.size, 0, none⟩) 0 0) 0 [] := World.ownsRow_made w #[] 0 (Nat.le_refl _) (by unfold maxLen; omega) rfl
  have HE := Lib.hid hE; clear hE
  have HG := Lib.hid hG; have HL := Lib.hid hl; have HO := Lib.hid hg; have HA := Lib.hid hA; clear hG hl hg
  go_enter Tryd.func21, Tryd.ntmps21
  go_wp2_with fail
  refine (HG.out _ ⟨_, _, _, rfl, hA.below hB⟩).mono ?_; rintro e w1 ⟨rfl, hb1⟩
  rw [hgb]
  have hb01 := below_then hB hb1
  have hA1 := hA.below hb01
  have own1 := own_below HE.out hb1
  go_wp2_with fail
  refine (l14Live_ok A n c g _ hA1 HO.out.1).mono ?_; rintro e w2 ⟨rs, hR, rfl, hbk, hb2⟩
  have hrs : rs = liveRow g := liveRow_eq HO.out.1 hR
  have hrl : rs.length = n := hR.len.trans HL.out
  have hA2 := hA1.below hb2
  have hb02 := below_then hb01 hb2
  have own2 := own_below own1 hb2
  have HRS := Lib.hid hrs; have HRL := Lib.hid hrl; clear hR hrs hrl hA1 hA own1
  have hs01 := hb01.size
  have hw1 : w1.heap.size < w2.heap.size := hbk.lt
  go_wp2
  go_loopw [3, 5] (fun v i wr => ∃ k : Nat, k ≤ 5 ∧ i = .int .i64 (k : Int) ∧ wr.ownsRow w.heap.size 3 1 v (fsTo g rs k).length (ints (fsTo g rs k)).flatten ∧ Blk wr w1.heap.size 4 (bRow rs) ∧ Below w.heap.size w wr) (fun _ i _ => 6 - (intOf i).toNat)
  case atStart => exact ⟨0, by omega, rfl, own2, hbk, hb02⟩
  case round =>
    obtain ⟨k, hk, rfl, hown, hbk3, hbw⟩ := hrel
    have hsz := hbw.size
    have hol := fsTo_len g rs k
    obtain ⟨A5, n5, c5', rfl, -⟩ := SlA.of_own hown (ints_len _) (ints_rows _)
    have HOWN := Lib.hid hown; clear hown
    by_cases hlt : k < 5
    · have hki : (k : Int) ≤ 4 := by omega
      go_wp2
      go_loopw [3, 6] (fun v i wr' => ∃ j : Nat, j ≤ n ∧ i = .int .i64 j ∧ v = .slice A5 n5 c5' ∧ wr' = wr ∧ (∀ (i : Nat) (p : In4), i < j → g[i]? = some p → rs[i]? = some true → p.op = 1 → p.k ≠ (k : Int))) (fun _ i _ => n - (intOf i).toNat)
      case atStart => exact ⟨0, Nat.zero_le _, rfl, rfl, rfl, fun _ _ h => absurd h (by omega)⟩
      case round =>
        obtain ⟨j, hj, rfl, rfl, rfl, hnone⟩ := hrel
        have HNO := Lib.hid hnone; clear hnone
        by_cases hjn : j < n
        · obtain ⟨b, off, p, rfl, hab, hgp, hcell⟩ := ins_get (HA.out) hjn
          obtain ⟨rb, hrb⟩ := bRow_some HRL.out hjn
          have d1 := bRow_cell hbk3 hrb
          obtain ⟨po, pv, py, pn⟩ := p
          obtain ⟨c0, c1, c2, c3⟩ := hcell wr _ hbw hab
          simp only at c0 c1 c2 c3
          have HP := Lib.hid hgp; have HRB := Lib.hid hrb; clear hgp hcell hrb
          have hbne : ¬ b = w1.heap.size := by omega
          have hjni : (j : Int) < n := by omega
          have hstep : (rb = true → po = 1 → pv ≠ (k : Int)) → ∀ (i : Nat) (p : In4), i < j + 1 → g[i]? = some p → rs[i]? = some true → p.op = 1 → p.k ≠ (k : Int) := by
            intro hh i p hi hp hr ho
            by_cases e : i = j
            · subst e
              rw [HP.out] at hp; cases hp
              rw [HRB.out] at hr; cases hr
              exact hh rfl ho
            · exact HNO.out i p (by omega) hp hr ho
          have HST := Lib.hid hstep; clear hstep
          cases rb with
          | false =>
            go_wp2
            exact ⟨⟨j + 1, by omega, by go_num, by first | rfl | trivial, by first | rfl | trivial, HST.out (by intro h; cases h)⟩, by simp [intOf]; try omega⟩
          | true =>
            by_cases hop : po = 1
            · have hop' : (po == 1) = true := by simp [hop]
              by_cases hpv : pv = (k : Int)
              · have hpv' : (pv == (k : Int)) = true := by simp [hpv]
                have HS := Lib.hid (fsTo_yes (k := k) (show loadsAt g rs ((k : Int)) from ⟨j, _, HP.out, HRB.out, hop, hpv⟩)); clear hop hpv
                go_wp2_with (at_builtin; go_must (refine wpList_app1g (w0 := wr) rfl (.tmp 45) (.tmp 47) _ rfl w.heap.size 3 Tryd.underlying35 info_int rfl (by omega) (by omega) _ (fsTo g rs k).length (ints (fsTo g rs k)) rfl HOWN.out rfl (by simp [Value.oneCell']) rfl (by omega) hsz ?_); intro v5 w5 hown5 hb5 _; obtain ⟨g5, cap5, rfl, hg5, hg5'⟩ := hown5.form (by omega))
                refine ⟨⟨k + 1, by omega, by go_num, ?_, ?_, ?_⟩, by simp [intOf]; try omega⟩
                · rw [HS.out]
                  simpa [ints] using hown5
                · exact hbk3.grown hb5 (fun e => own_ne_blk_some HOWN.out hbk3 (by decide) e.symm)
                · exact hbw.grown hb5 hsz (fun k' hk' => (HOWN.out.lt k' hk').1)
              · have hpv' : (pv == (k : Int)) = false := by simp [hpv]
                have HPV := Lib.hid hpv; clear hpv hop
                go_wp2
                exact ⟨⟨j + 1, by omega, by go_num, by first | rfl | trivial, by first | rfl | trivial, HST.out (fun _ _ => HPV.out)⟩, by simp [intOf]; try omega⟩
            · have hop' : (po == 1) = false := by simp [hop]
              have HOP := Lib.hid hop; clear hop
              go_wp2
              exact ⟨⟨j + 1, by omega, by go_num, by first | rfl | trivial, by first | rfl | trivial, HST.out (fun _ h => absurd h HOP.out)⟩, by simp [intOf]; try omega⟩
        · obtain rfl : j = n := by omega
          go_wp2
          refine ⟨⟨k + 1, by omega, by go_num, ?_, hbk3, hbw⟩, by simp [intOf]; try omega⟩
          rw [fsTo_no (k := k) (fun h => by
            obtain ⟨i, p, h1, h2, h3, h4⟩ := h
            exact HNO.out i p (by have := (List.getElem?_eq_some_iff.1 h1).1; rw [HL.out] at this; exact this) h1 h2 h3 h4)]
          exact HOWN.out
    · obtain rfl : k = 5 := by omega
      have hv : fsTo g rs 5 = callsOf g := by
        unfold callsOf
        rw [if_pos hgb, ← HRS.out]
      have ho := HOWN.out
      rw [hv] at ho
      have HO4 := Lib.hid ho; clear ho
      go_wp2
      go_ret
      exact ⟨_, rfl, HO4.out, hbw⟩

theorem CodeCalls_any (v : Value) (g : List In4) (w : World) (hs : Sl w 4 v (insR g)) (hp : Pow w) : Calls Tryd.prog 22 #[v] w (CallsPost g w) := by
  by_cases h : codeOk g
  · exact CodeCalls_ok v g w hs hp h
  · exact CodeCalls_no v g w hs hp h
theorem sCodeCalls_any (v : Value) (g : List In4) (w : World) (hs : Sl w 4 v (insR g)) : Calls Tryd.prog 21 #[v] w (CallsPost g w) := by
  by_cases h : codeOk g
  · exact sCodeCalls_ok v g w hs h
  · exact sCodeCalls_no v g w hs h
end Go.Proofs.YtbcbbemkjaabjaaDoor
