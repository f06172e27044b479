/- spec.CodeRun: how a program runs on a call. -/
import Derived.Test.YtbbhilhckbdgjaaDoorRunP
import Derived.Test.YtbbhilhckbdgjaaDoorCodeS2
import Derived.BigRegion
namespace Go.Proofs.YtbbhilhckbdgjaaDoor
open Go.RowKit
set_option linter.unusedSimpArgs false
set_option linter.unusedVariables false

theorem fieldOf_zero (n : Int) (xs : List Int) : fieldOf n xs 0 = n := by simp [fieldOf]
theorem intsCellR {w : World} {A : Option Addr} {n c : Nat} {xs : List Int} (h : SlA w 1 A n c (ints xs)) {k : Nat} (hk : k < n) :
    ∃ b off, A = some ⟨b, off, none⟩ ∧ b < w.heap.size ∧ (∀ (w' : World) (B : Nat), Below B w w' → b < B → w'.cell? ⟨b, off + k, none⟩ = some (.int .i64 ((xs[k]?).getD 0))) := by
  have hl := h.len
  rw [ints_len] at hl
  obtain ⟨b, o, e, hb, hc⟩ := h.get hk
  refine ⟨b, o, e, hb, fun w' B hw hB => ?_⟩
  have hr : (ints xs)[k]? = some [.int .i64 ((xs[k]?).getD 0)] := by simp [ints, show k < xs.length by omega]
  have f := hc _ hr 0 _ rfl
  rw [Nat.mul_one, Nat.add_zero] at f
  exact cellAt hw hB f

theorem l2Field_any (n : Int) (A : Option Addr) (c : Nat) (xs : List Int) (k : Int) (w : World) (hA : SlA w 1 A 4 c (ints xs)) (hk : 0 ≤ k ∧ k ≤ 4) :
    Calls Tryd.prog 26 #[.agg #[.int .i64 n, .slice A 4 c], .int .i64 k] w fun e w' => e = .returned (.int .i64 (fieldOf n xs k)) ∧ Below w.heap.size w w' := by
  have hm := hA.max
  unfold maxLen at hm
  by_cases h0 : k = 0
  · subst h0
    rw [fieldOf_zero]
    go_enter Tryd.func26, Tryd.ntmps26
    go_wp2
    go_ret
    exact ⟨rfl, by go_grown⟩
  · obtain ⟨j, rfl⟩ : ∃ j : Nat, k = j + 1 := ⟨(k - 1).toNat, by omega⟩
    have hj4 : j < 4 := by omega
    have hji : (j : Int) < 4 := by omega
    have hf : fieldOf n xs ((j : Int) + 1) = (xs[j]?).getD 0 := by unfold fieldOf; rw [if_neg h0, show (((j : Int) + 1 - 1).toNat) = j by omega]
    rw [hf]
    obtain ⟨b, off, rfl, hb, hcell⟩ := intsCellR hA hj4
    have c0 := hcell _ _ ((Below.refl w.heap.size w).alloc (Nat.le_refl _) (.cells #[.int .i64 n, .slice (some ⟨b, off, none⟩) 4 c] 32)) hb
    have h0' : ((j : Int) + 1 == 0) = false := by simp; omega
    have HF := Lib.hid hf; clear hf hcell
    go_enter Tryd.func26, Tryd.ntmps26
    go_wp2
    go_ret
    exact ⟨rfl, by go_grown⟩

def RunEnd (g : List In4) (n : Int) (xs : List Int) (w : World) (e : Ending) (w' : World) : Prop := ∃ (j : Nat) (x : In4), EndsAt g n xs j x ∧ e = .returned (.tuple #[.int .i64 x.k, .int .i64 ((j : Int) + 1)]) ∧ Below w.heap.size w w'

set_option maxHeartbeats 4000000 in
theorem l3Run_ok (A : Option Addr) (m c : Nat) (g : List In4) (n : Int) (A1 : Option Addr) (c1 : Nat) (xs : List Int) (w : World) (hA : SlA w 4 A m c (insR g)) (hg : waysOk g) (hA1 : SlA w 1 A1 4 c1 (ints xs)) :
    Calls Tryd.prog 15 #[.slice A m c, .agg #[.int .i64 n, .slice A1 4 c1]] w (RunEnd g n xs w) := by
  have hl : g.length = m := by have := hA.len; rwa [insR_len] at this
  have hc := hA.cap
  have hm := hA.max
  unfold maxLen at hm
  have h1 : 1 ≤ m := by rw [← hl]; exact hg.1
  have h2 : m ≤ 160 := by rw [← hl]; exact hg.2.1
  have HL := Lib.hid hl; have HG := Lib.hid hg; have HA := Lib.hid hA; have HA1 := Lib.hid hA1; clear hl hg hA hA1
  go_enter Tryd.func15, Tryd.ntmps15
  go_wp2
  go_loopw [6, 7, 8] (fun a i cn wr => ∃ (j at_ : Nat) (hand : Int), a = .int .i64 hand ∧ i = .int .i64 at_ ∧ cn = .int .i64 ((j : Int) + 1) ∧ runSt g n xs j = (at_, hand) ∧ at_ < m ∧ j ≤ at_ ∧ Going g n xs j ∧ Blk wr w.heap.size 32 #[.int .i64 n, .slice A1 4 c1] ∧ Below w.heap.size w wr) (fun _ i _ _ => m - (intOf i).toNat)
  case atStart => exact ⟨0, 0, 0, rfl, rfl, rfl, rfl, by omega, Nat.le_refl _, fun _ _ h => absurd h (by omega), Blk.new _ _ _, by go_grown⟩
  case round =>
    obtain ⟨j, at_, hand, rfl, rfl, rfl, hr, hat, hja, hgo, hbox, hbw⟩ := hrel
    have hsz := hbw.size
    have hbl := hbox.lt
    have hati : (at_ : Int) < m := by omega
    have p0 : wr.cell? ⟨w.heap.size, 0, none⟩ = some (.int .i64 n) := hbox.cell 0
    have p1 : wr.cell? ⟨w.heap.size, 1, none⟩ = some (.slice A1 4 c1) := hbox.cell 1
    obtain ⟨b, off, x, rfl, hab, hgx, hcell⟩ := ins_get HA.out hat
    obtain ⟨c0, c1', c2, c3⟩ := hcell wr _ hbw hab
    have hin := leftOf_in HG.out hgx
    have ho := HG.out.2.2 at_ x (by rw [HL.out]; exact hat) hgx
    have hnx := run_next hr hgx
    have hgn : x.op ≠ 6 → Going g n xs (j + 1) := hgo.next hr hgx
    have hen : x.op = 6 → EndsAt g n xs j x := fun h6 => ⟨by rw [hr]; exact hgx, h6, hgo⟩
    obtain ⟨op, k, yes, no⟩ := x
    simp only at c0 c1' c2 c3 hgn hen
    unfold insOk at ho
    simp only at ho
    rw [HL.out] at ho
    have hb2 : Below wr.heap.size wr (wr.alloc (.cells #[.int .i64 op, .int .i64 k, .int .i64 yes, .int .i64 no] 41)) := by go_grown
    have HN := Lib.hid hnx; have HI := Lib.hid hin; have HGN := Lib.hid hgn; have HEN := Lib.hid hen; have HB := Lib.hid hbox
    clear hnx hin hgn hen hcell hgx hr hgo hbox
    by_cases h6 : op = 6
    · subst h6
      go_wp2
      go_ret2
      exact ⟨j, _, HEN.out (by trivial), rfl, by go_grown⟩
    · have HG6 := HGN.out h6
      have hlt := HI.out h6 hand
      rw [HL.out] at hlt
      have fin : ∀ (hand' : Int) (lf : Nat), handOf n xs ⟨op, k, yes, no⟩ hand = hand' → (leftOf ⟨op, k, yes, no⟩ hand).toNat = lf → runSt g n xs (j + 1) = (at_ + 1 + lf, hand') ∧ at_ + 1 + lf < m := by
        intro hand' lf e1 e2
        rw [← e1, ← e2]
        exact ⟨HN.out, hlt.2⟩
      have HFIN := Lib.hid fin; clear fin hlt
      by_cases h1 : op = 1
      · subst h1
        have hB2 : Blk (wr.alloc (.cells #[.int .i64 1, .int .i64 k, .int .i64 yes, .int .i64 no] 41)) w.heap.size 32 #[.int .i64 n, .slice A1 4 c1] := HB.out.alloc _
        have hk : 0 ≤ k ∧ k ≤ 4 := by omega
        have hf := HFIN.out (fieldOf n xs k) 0 (by simp [handOf]) (by simp [leftOf])
        have HF := Lib.hid hf; clear hf
        go_wp2_with fail
        refine (l2Field_any n A1 c1 xs k _ ((HA1.out.below hbw).below hb2) hk).mono ?_; rintro e w3 ⟨rfl, hb3⟩
        have hB3 : Blk w3 w.heap.size 32 #[.int .i64 n, .slice A1 4 c1] := (hb3.block _ (by simp; omega)).trans hB2
        have hbw3 := (hbw.trans (hb2.mono hsz)).trans (hb3.mono (by simp; omega))
        have H3 := Lib.hid hB3; clear hB2 hB3
        go_wp2
        exact ⟨⟨j + 1, at_ + 1 + 0, fieldOf n xs k, rfl, by go_num, by go_num, HF.out.1, HF.out.2, by omega, HG6, H3.out, hbw3⟩, by simp [intOf]; try omega⟩
      · by_cases h2 : op = 2
        · subst h2
          have hf := HFIN.out (Go.bits BinOp.and IntKind.i64 hand k) 0 (by simp [handOf]) (by simp [leftOf])
          have HF := Lib.hid hf; clear hf
          go_wp2
          exact ⟨⟨j + 1, at_ + 1 + 0, _, rfl, by go_num, by go_num, HF.out.1, HF.out.2, by omega, HG6, HB.out.alloc _, hbw.trans (hb2.mono hsz)⟩, by simp [intOf]; try omega⟩
        · by_cases h5 : op = 5
          · subst h5
            obtain ⟨k, rfl⟩ := Int.eq_ofNat_of_zero_le (show 0 ≤ k by omega)
            have hf := HFIN.out hand k (by simp [handOf]) (by simp [leftOf])
            have HF := Lib.hid hf; clear hf
            go_wp2
            exact ⟨⟨j + 1, at_ + 1 + k, _, rfl, by go_num, by go_num, HF.out.1, HF.out.2, by omega, HG6, HB.out.alloc _, hbw.trans (hb2.mono hsz)⟩, by simp [intOf]; try omega⟩
          · obtain ⟨yes, rfl⟩ := Int.eq_ofNat_of_zero_le (show 0 ≤ yes by omega)
            obtain ⟨no, rfl⟩ := Int.eq_ofNat_of_zero_le (show 0 ≤ no by omega)
            by_cases h3 : op = 3
            · subst h3
              by_cases hk : hand = k
              · have hd : (hand == k) = true := by simp [hk]
                have hf := HFIN.out hand yes (by simp [handOf]) (by simp [leftOf, hk])
                have HF := Lib.hid hf; clear hf hk
                go_wp2
                exact ⟨⟨j + 1, at_ + 1 + yes, _, rfl, by go_num, by go_num, HF.out.1, HF.out.2, by omega, HG6, HB.out.alloc _, hbw.trans (hb2.mono hsz)⟩, by simp [intOf]; try omega⟩
              · have hd : (hand == k) = false := by simp [hk]
                have hf := HFIN.out hand no (by simp [handOf]) (by simp [leftOf, hk])
                have HF := Lib.hid hf; clear hf hk
                go_wp2
                exact ⟨⟨j + 1, at_ + 1 + no, _, rfl, by go_num, by go_num, HF.out.1, HF.out.2, by omega, HG6, HB.out.alloc _, hbw.trans (hb2.mono hsz)⟩, by simp [intOf]; try omega⟩
            · obtain rfl : op = 4 := by omega
              by_cases hk : k < hand
              · have hf := HFIN.out hand yes (by simp [handOf]) (by simp [leftOf, hk])
                have HF := Lib.hid hf; clear hf
                go_wp2
                exact ⟨⟨j + 1, at_ + 1 + yes, _, rfl, by go_num, by go_num, HF.out.1, HF.out.2, by omega, HG6, HB.out.alloc _, hbw.trans (hb2.mono hsz)⟩, by simp [intOf]; try omega⟩
              · have hk' : hand ≤ k := by omega
                have hf := HFIN.out hand no (by simp [handOf]) (by simp [leftOf, hk])
                have HF := Lib.hid hf; clear hf
                go_wp2
                exact ⟨⟨j + 1, at_ + 1 + no, _, rfl, by go_num, by go_num, HF.out.1, HF.out.2, by omega, HG6, HB.out.alloc _, hbw.trans (hb2.mono hsz)⟩, by simp [intOf]; try omega⟩
end Go.Proofs.YtbbhilhckbdgjaaDoor
