/- impl.CodeCalls and spec.CodeCalls: both are the fields that are loaded where a run can come, ascending, each once. -/
import Derived.Test.YteflnpejhhkchaaGreatDoorCallsP
import Derived.Test.YteflnpejhhkchaaGreatDoorSortI
import Derived.Test.YteflnpejhhkchaaGreatDoorKit
import Derived.Test.YteflnpejhhkchaaGreatDoorLiveI
namespace Go.Proofs.YteflnpejhhkchaaGreatDoor
open Go.RowKit
set_option linter.unusedSimpArgs false
set_option linter.unusedVariables false

/-- What both return. -/
noncomputable def callsOf (g : List In4) : List Int := if codeOkB g then fsTo g (liveRow g) 5 else []
theorem callsOf_len (g : List In4) : (callsOf g).length ≤ 160 := by
  unfold callsOf
  split
  · have := fsTo_len g (liveRow g) 5; omega
  · simp
def CallsPost (g : List In4) (w : World) (e : Ending) (w' : World) : Prop := ∃ v, e = .returned v ∧ w'.ownsRow w.heap.size 3 1 v (callsOf g).length (ints (callsOf g)).flatten ∧ Below w.heap.size w w'

set_option maxHeartbeats 2000000 in
theorem CodeCalls_ok (v : Value) (g : List In4) (w : World) (hs : Sl w 4 v (insR g)) (hp : Pow w) (hg : codeOk g) :
    Calls Tryz.prog 21 #[v] w (CallsPost g w) := by
  have hO := CodeOk_any v g w hs hp
  obtain ⟨A, n, c, rfl, hA⟩ := hs
  have hl : g.length = n := by have := hA.len; rwa [insR_len] at this
  have hc := hA.cap
  have hm := hA.max
  unfold maxLen at hm
  have h1 : 1 ≤ n := by rw [← hl]; exact hg.1.1
  have h2 : n ≤ 160 := by rw [← hl]; exact hg.1.2.1
  have hgb : codeOkB g = true := codeOkB_iff.2 hg
  have HO := Lib.hid hO; have HL := Lib.hid hl; have HG := Lib.hid hg; have HA := Lib.hid hA; clear hO hl hg hA
  go_enter Tryz.func21, Tryz.ntmps21
  go_wp2_with fail
  refine (HO.out).mono ?_; rintro e w1 ⟨rfl, hb1⟩
  rw [hgb]
  go_wp2_with fail
  refine (live_ok A n c g _ (HA.out.below hb1) HG.out.1).mono ?_; rintro e w2 ⟨ws, rs, hS, hR, rfl, hset, hb2⟩
  have hrs : rs = liveRow g := liveRow_eq HG.out.1 hR
  have hrl : rs.length = n := hR.len.trans HL.out
  have hsl := hset.lt
  have hb02 := below_then hb1 hb2
  have hA2 := HA.out.below hb02
  have HS := Lib.hid hS; have HRS := Lib.hid hrs; have HRL := Lib.hid hrl; have HSET := Lib.hid hset; clear hS hR hrs hrl hset
  go_wp2
  go_loopw [4, 14] (fun v i wr => ∃ k : Nat, k ≤ n ∧ i = .int .i64 k ∧ wr.ownsRow w2.heap.size 3 1 v (csTo g rs k).length (ints (csTo g rs k)).flatten ∧ Below w2.heap.size w2 wr) (fun _ i _ => n - (intOf i).toNat)
  case atStart => exact ⟨0, Nat.zero_le _, rfl, World.ownsRow_nil _ _ _ _, by go_grown⟩
  case round =>
    obtain ⟨k, hk, rfl, hown, hbw⟩ := hrel
    have hsz := hbw.size
    have hvl := csTo_len g rs k
    by_cases hlt : k < n
    · have hkni : (k : Int) < n := by omega
      obtain ⟨b, off, p, rfl, hab, hgp, hcell⟩ := ins_get hA2 hlt
      obtain ⟨rb, hrb⟩ := bRow_some HRL.out hlt
      have hbit : (wordAt ws k).testBit (k % 64) = rb := by
        have := HS.out.bits k (by rw [HRL.out]; exact hlt)
        rw [hrb] at this
        cases rb <;> simp_all
      obtain ⟨po, pv, py, pn⟩ := p
      obtain ⟨c0, c1, c2, c3⟩ := hcell wr _ hbw hab
      simp only at c0 c1 c2 c3
      have hb3 : Below wr.heap.size wr (wr.alloc (.cells #[.int .i64 po, .int .i64 pv, .int .i64 py, .int .i64 pn] 56)) := by go_grown
      have hsetr : Blk (wr.alloc (.cells #[.int .i64 po, .int .i64 pv, .int .i64 py, .int .i64 pn] 56)) w1.heap.size 136 (wRow ws) := Blk.alloc (show Blk wr w1.heap.size 136 (wRow ws) from (hbw.block _ hsl).trans HSET.out) _
      have HP := Lib.hid hgp; have HRB := Lib.hid hrb; clear hgp hcell hrb
      obtain ⟨A5, n5, c5', rfl, -⟩ := SlA.of_own hown (ints_len _) (ints_rows _)
      have HOWN := Lib.hid hown; clear hown
      by_cases hop : po = 1
      · have hop' : (po == 1) = true := by simp [hop]
        have HOP := Lib.hid hop; clear hop
        go_wp2_with fail
        refine (has_any w1.heap.size k ws _ hsetr HS.out.len HS.out.lt (by omega)).mono ?_; rintro e w3 ⟨rfl, rfl⟩
        rw [hbit]
        cases rb with
        | false =>
          go_wp2
          exact ⟨⟨k + 1, by omega, by go_num, by rw [csTo_off HRB.out]; exact own_below HOWN.out hb3, hbw.trans (hb3.mono hsz)⟩, by simp [intOf]; try omega⟩
        | true =>
          have HS2 := Lib.hid (csTo_yes HP.out HRB.out HOP.out)
          go_wp2_with (at_builtin; go_must (refine wpList_app1 (w0 := wr.alloc (.cells #[.int .i64 po, .int .i64 pv, .int .i64 py, .int .i64 pn] 56)) rfl (.tmp 27) (.tmp 30) _ rfl w2.heap.size 3 Tryz.underlying37 info_int rfl (by omega) (by omega) _ (csTo g rs k).length (ints (csTo g rs k)) rfl (own_below HOWN.out hb3) rfl (by simp [Value.oneCell']) (by show Value.slice (some ⟨_, 0, none⟩) 1 1 = _; simp) (by omega) (by simp; omega) ?_); intro v5 w5 hown5 hb5 _; obtain ⟨g5, cap5, rfl, hg5, hg5'⟩ := hown5.form (by omega))
          refine ⟨⟨k + 1, by omega, by go_num, ?_, (hbw.trans (hb3.mono hsz)).trans hb5⟩, by simp [intOf]; try omega⟩
          rw [HS2.out]
          simpa [ints] using hown5
      · have hop' : (po == 1) = false := by simp [hop]
        have HS2 := Lib.hid (csTo_op (rs := rs) HP.out hop); clear hop
        go_wp2
        exact ⟨⟨k + 1, by omega, by go_num, by rw [HS2.out]; exact own_below HOWN.out hb3, hbw.trans (hb3.mono hsz)⟩, by simp [intOf]; try omega⟩
    · obtain rfl : k = n := by omega
      obtain ⟨A5, n5, c5', rfl, -⟩ := SlA.of_own hown (ints_len _) (ints_rows _)
      have HOWN := Lib.hid hown; clear hown
      go_wp2_with fail
      refine (Sort_own w2.heap.size _ _ _ _ (own_below HOWN.out (by go_grown)) rfl (by omega)).mono ?_; rintro e w3 ⟨rfl, own3, hb3⟩
      have hml : ((csTo g rs k).mergeSort fun x y => decide (x ≤ y)).length = (csTo g rs k).length := by simp
      go_wp2_with fail
      refine (Compact_own w2.heap.size _ _ _ _ own3 hml (by omega)).mono ?_; rintro e w4 ⟨v4, rfl, own4, hb4⟩
      have hv : Lib.compact ((csTo g rs k).mergeSort fun x y => decide (x ≤ y)) = callsOf g := by
        unfold callsOf
        rw [if_pos hgb, ← HRS.out, ← HL.out, calls_one HG.out.1]
      rw [hv] at own4
      obtain ⟨A6, n6, c6, rfl, -⟩ := SlA.of_own own4 (ints_len _) (ints_rows _)
      have HO4 := Lib.hid own4; clear own4 own3
      go_wp2
      go_ret
      have hs02 := hb02.size
      exact ⟨_, rfl, own_base HO4.out hs02, hb02.trans ((hbw.trans (hb3.trans hb4)).mono hs02)⟩

theorem CodeCalls_no (v : Value) (g : List In4) (w : World) (hs : Sl w 4 v (insR g)) (hp : Pow w) (hg : ¬ codeOk g) :
    Calls Tryz.prog 21 #[v] w (CallsPost g w) := by
  have hO := CodeOk_any v g w hs hp
  obtain ⟨A, n, c, rfl, hA⟩ := hs
  have hgb := codeOkB_no hg
  have he : callsOf g = [] := by unfold callsOf; rw [hgb]; rfl
  have HE := Lib.hid he; have HO := Lib.hid hO; clear he hg hO hA
  go_enter Tryz.func21, Tryz.ntmps21
  go_wp2_with fail
  refine (HO.out).mono ?_; rintro e w1 ⟨rfl, hb1⟩
  rw [hgb]
  go_wp2
  go_ret
  exact ⟨_, rfl, by rw [HE.out]; exact World.ownsRow_nil _ _ _ _, hb1⟩

theorem CodeCalls_any (v : Value) (g : List In4) (w : World) (hs : Sl w 4 v (insR g)) (hp : Pow w) : Calls Tryz.prog 21 #[v] w (CallsPost g w) := by
  by_cases h : codeOk g
  · exact CodeCalls_ok v g w hs hp h
  · exact CodeCalls_no v g w hs hp h
end Go.Proofs.YteflnpejhhkchaaGreatDoor
