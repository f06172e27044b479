/- FnCodeText returns true for every two rows of letters, and nothing that was there is changed: the row's statement, and its tied card. No condition but what the row lists: the library's tables hold what their initialisers lay. -/
import Derived.Test.YtoibocaaeimplaaDoorCallS
import Derived.Test.YtoibocaaeimplaaDoorRdOpen
import Derived.Test.YtoibocaaeimplaaDoorLawIns
import Derived.Deep.QuietTactic
import Derived.BigQuiet
import Derived.Test.YtoibocaaeimplaaDoorCodeI
import Derived.Test.YtoibocaaeimplaaDoorCodeS3
import Derived.Test.YtoibocaaeimplaaDoorCodeWI
import Derived.Test.YtoibocaaeimplaaDoorLawCodeFar
import Derived.Test.YtoibocaaeimplaaDoorDoor
-- How the laws bend a text that they draw.
namespace Go.Proofs.YtoibocaaeimplaaDoor
open Go.RowKit
set_option linter.unusedSimpArgs false
set_option linter.unusedVariables false

theorem of_any (g p : Nat) (A : Option Addr) (n c : Nat) (ls : List (List UInt8)) (w : World) (h : Rd w g p) (hp : p ≤ 900000000) (hA : SlA w 1 A n c (strs ls)) (hn : 1 ≤ n) (hg : ∀ b off, A = some ⟨b, off, none⟩ → b ≠ g) :
    Calls Tryd.prog 43 #[.pointer (some ⟨g, 0, none⟩), .slice A n c] w fun e w' =>
      ∃ l, l ∈ ls ∧ e = .returned (.string ⟨l.toArray⟩) ∧ w.grownBy w' (some g) ∧ Rd w' g (p + 1) := by
  have hc := hA.cap
  have hm := hA.max
  unfold maxLen at hm
  go_enter Tryd.func43, Tryd.ntmps43
  go_wp2_with fail
  refine (pick_any g p n _ h (by omega)).mono ?_; rintro e w1 ⟨k1, rfl, a1, a1', g1, r1⟩
  have a2 := a1' (by omega)
  obtain ⟨k, rfl⟩ := Int.eq_ofNat_of_zero_le a1
  have hk : k < n := by omega
  obtain ⟨b, off, l, rfl, hb, hl, hcell⟩ := strs_get hA hk
  have c0 := hcell w _ (Below.refl _ _) hb
  have c1 := g1.cell (a := ⟨b, off + k, none⟩) c0 (by intro e; exact hg b off rfl (by cases e; rfl))
  have HL := Lib.hid (List.mem_of_getElem? hl); clear hl hcell c0
  go_wp2
  go_ret
  exact ⟨l, HL.out, rfl, g1, r1⟩

set_option maxHeartbeats 1000000 in
theorem l11Bend_any (g p : Nat) (s : ByteArray) (A : Option Addr) (n c : Nat) (ls : List (List UInt8)) (cases_ : Int) (w : World) (h : Rd w g p) (hp : p ≤ 800000000) (hs : s.size ≤ 1000000) (hA : SlA w 1 A n c (strs ls)) (hn : 1 ≤ n) (hg : ∀ b off, A = some ⟨b, off, none⟩ → b ≠ g) (hls : ∀ l ∈ ls, l.length ≤ 1000) :
    Calls Tryd.prog 44 #[.pointer (some ⟨g, 0, none⟩), .string s, .slice A n c, .int .i64 cases_] w fun e w' =>
      ∃ (t : ByteArray) (q : Nat), e = .returned (.string t) ∧ t.size ≤ s.size + 1000 ∧ w.grownBy w' (some g) ∧ Rd w' g q ∧ q ≤ p + 3 := by
  go_enter Tryd.func44, Tryd.ntmps44
  go_wp2_with fail
  refine (pick_any g p cases_ _ h (by omega)).mono ?_; rintro e w1 ⟨k1, rfl, a1, a1', g1, r1⟩
  by_cases hk1 : 0 < k1
  · clear a1'
    go_wp2
    go_ret
    exact ⟨s, p + 1, rfl, by omega, g1, r1, by omega⟩
  · clear a1'
    go_wp2_with fail
    refine (pick_any g (p + 1) _ _ r1 (by omega)).mono ?_; rintro e w2 ⟨k2, rfl, a2, a2', g2, r2⟩
    have a3 := a2' (by omega)
    obtain ⟨k, rfl⟩ := Int.eq_ofNat_of_zero_le a2
    have hk : k ≤ s.size := by omega
    clear a2'
    have hA2 := (hA.grown g1 hg).grown g2 hg
    have HA := Lib.hid hA2; have HG := Lib.hid hg; clear hA2 hA hg
    have hki : (k : Int) ≤ s.size := by omega
    have HM := Lib.hid (show ∀ l ∈ ls, (¬ 9223372036854775807 < k + l.length) ∧ ¬ 9223372036854775807 < k + l.length + (s.size - k) from fun l hl => by have := hls l hl; exact ⟨by omega, by omega⟩)
    go_wp2
    go_region_law (go_simp; go_at_call 43; refine (of_any g (p + 2) A n c ls _ (r2.next ((Below.refl _ _).drew)) (by omega) (HA.out.below ((Below.refl _ _).drew)) hn HG.out).mono ?_; rintro e w3 ⟨l, hl, rfl, g3, r3⟩; have hll := hls l hl; obtain ⟨m1, m2⟩ := HM.out l hl)
    all_goals go_wp2
    all_goals
      go_ret
      have hsz : (s.extract 0 k ++ (⟨l.toArray⟩ : ByteArray) ++ s.extract k s.size).size ≤ s.size + 1000 := by
        have e1 : (⟨l.toArray⟩ : ByteArray).size = l.length := by simp [ByteArray.size]
        simp only [ByteArray.size_append, ByteArray.size_extract]
        omega
      exact ⟨_, p + 3, rfl, hsz, ((g1.trans g2).trans (grown_drew _ _)).trans g3, r3, by omega⟩
end Go.Proofs.YtoibocaaeimplaaDoor

-- The laws' helper wgCode: two programs are the same.
namespace Go.Proofs.YtoibocaaeimplaaDoor
open Go.RowKit
set_option linter.unusedSimpArgs false
set_option linter.unusedVariables false

theorem wgDrewN (w : World) (m : Nat) : Below w.heap.size w (w.drewN m) := ⟨rfl, rfl, rfl, Nat.le_refl _, fun _ _ => rfl⟩
theorem in4_cases {p q : In4} (e : p ≠ q) : (p.op == q.op) = false ∨ ((p.op == q.op) = true ∧ (p.k == q.k) = false) ∨ ((p.op == q.op) = true ∧ (p.k == q.k) = true ∧ (p.yes == q.yes) = false) ∨ ((p.op == q.op) = true ∧ (p.k == q.k) = true ∧ (p.yes == q.yes) = true ∧ (p.no == q.no) = false) := by
  have hne : ¬ (p.op = q.op ∧ p.k = q.k ∧ p.yes = q.yes ∧ p.no = q.no) := fun e2 => e (In4.ext' e2.1 e2.2.1 e2.2.2.1 e2.2.2.2)
  simp only [beq_iff_eq, beq_eq_false_iff_ne]
  omega
set_option maxHeartbeats 1000000 in
theorem wgCode_any (u v : Value) (g h : List In4) (w : World) (hu : Sl w 4 u (insR g)) (hv : Sl w 4 v (insR h)) :
    Calls Tryd.prog 23 #[u, v] w fun e w' => e = .returned (.bool (codeEq g h)) ∧ Below w.heap.size w w' := by
  obtain ⟨A, n, c, rfl, hA⟩ := hu
  obtain ⟨A', n', c', rfl, hA'⟩ := hv
  have hl : g.length = n := by have := hA.len; rwa [insR_len] at this
  have hl' : h.length = n' := by have := hA'.len; rwa [insR_len] at this
  have hc := hA.cap
  have hm := hA.max
  have hc' := hA'.cap
  have hm' := hA'.max
  unfold maxLen at hm hm'
  have HL := Lib.hid hl; have HL' := Lib.hid hl'; clear hl hl'
  by_cases hn : n = n'
  · subst hn
    go_enter Tryd.func23, Tryd.ntmps23
    go_wp2
    go_loopw [5] (fun i wr => ∃ k : Nat, k ≤ n ∧ i = .int .i64 k ∧ sameTo g h k ∧ Below w.heap.size w wr) (fun i _ => n - natOf i)
    case atStart => exact ⟨0, Nat.zero_le _, rfl, sameTo_zero g h, Below.refl _ _⟩
    case round =>
      obtain ⟨k, hk, rfl, hto, hb⟩ := hrel
      have hsz := hb.size
      by_cases hlt : k < n
      · obtain ⟨b, off, p, rfl, hab, hgp, hcell⟩ := ins_get hA hlt
        obtain ⟨b', off', q, rfl, hab', hgq, hcell'⟩ := ins_get hA' hlt
        obtain ⟨c0, c1, c2, c3⟩ := hcell wr _ hb hab
        obtain ⟨d0, d1, d2, d3⟩ := hcell' wr _ hb hab'
        have HP := Lib.hid hgp; have HQ := Lib.hid hgq; clear hgp hcell hgq hcell'
        have hki : (k : Int) < n := by omega
        by_cases e : p = q
        · subst e
          go_wp2
          go_quiet (fail)
          go_wp2
          exact ⟨⟨k + 1, by omega, by go_num, sameTo_succ hto HP.out HQ.out rfl, below_step hb hsz (wgDrewN _ _)⟩, by simp [natOf]; omega⟩
        · have HE := Lib.hid e
          rcases in4_cases e with h1 | ⟨h1, h2⟩ | ⟨h1, h2, h3⟩ | ⟨h1, h2, h3, h4⟩
          all_goals
            clear e
            go_wp2
            go_quiet (fail)
            go_wp2
            go_ret
            refine ⟨ret_bool (codeEq_of ?_), below_step hb hsz (wgDrewN _ _)⟩
            simp only [Bool.false_eq_true, false_iff]
            intro e2
            have h1 := HP.out
            rw [e2, HQ.out] at h1
            exact HE.out (Option.some.inj h1).symm
      · obtain rfl : k = n := by omega
        go_wp2
        go_ret
        exact ⟨ret_bool (codeEq_of (by simpa using sameTo_all hto HL.out HL'.out)), hb⟩
  · go_enter Tryd.func23, Tryd.ntmps23
    have hd : ((n : Int) != (n' : Int)) = true := by simp; omega
    go_wp2
    go_ret
    exact ⟨ret_bool (codeEq_of (by simp; intro e; rw [e] at HL; exact hn (HL.out.symm.trans HL'.out))), Below.refl _ _⟩
end Go.Proofs.YtoibocaaeimplaaDoor

-- What a text reads as, for both readers of programs; what was written reads as; how a program's text is drawn.
namespace Go.Proofs.YtoibocaaeimplaaDoor
open Go.RowKit
set_option linter.unusedSimpArgs false
set_option linter.unusedVariables false

/-- What a text reads as, for both of them. -/
theorem codePost_two (text : List UInt8) : ∃ (g : List In4) (ok : Bool), g.length ≤ 160 ∧ (ok = true → codeOk g ∧ text = codeText g) ∧ (ok = false → ¬ ∃ g, codeOk g ∧ text = codeText g) ∧ ∀ e w en w', CodePost text e w en w' →
    ∃ v, en = .returned (.tuple #[v, .bool ok]) ∧ w'.ownsRow w.heap.size e 4 v g.length (insR g).flatten ∧ Below w.heap.size w w' := by
  by_cases hy : ∃ g, codeOk g ∧ text = codeText g
  · obtain ⟨g, hok, ht⟩ := hy
    refine ⟨g, true, hok.1.2.1, fun _ => ⟨hok, ht⟩, (fun h => by cases h), ?_⟩
    rintro e w en w' (⟨g', v, hok', ht', rfl, ho, hb⟩ | ⟨hno, _⟩)
    · obtain rfl := code_one hok hok' (ht.symm.trans ht')
      exact ⟨v, rfl, ho, hb⟩
    · exact absurd ⟨g, hok, ht⟩ hno
  · refine ⟨[], false, by simp, (fun h => by cases h), fun _ => hy, ?_⟩
    rintro e w en w' (⟨g', v, hok', ht', _⟩ | ⟨hno, v, rfl, ho, hb⟩)
    · exact absurd ⟨g', hok', ht'⟩ hy
    · exact ⟨v, rfl, by simpa [insR] using ho, hb⟩

/-- What is written of a program reads as that program, where it is ok, and as none else. -/
theorem code_back (x : List In4) : ∃ (g : List In4), g.length ≤ 160 ∧ (codeOkB x = true → g = x) ∧ ∀ e w en w', CodePost (codeOut x) e w en w' →
    ∃ v, en = .returned (.tuple #[v, .bool (codeOkB x)]) ∧ w'.ownsRow w.heap.size e 4 v g.length (insR g).flatten ∧ Below w.heap.size w w' := by
  obtain ⟨g, ok, hl, h1, h0, hR⟩ := codePost_two (codeOut x)
  have e : ok = codeOkB x := by
    apply codeOkB_of
    constructor
    · intro h
      obtain ⟨a, b⟩ := h1 h
      refine Classical.byContradiction fun hn => ?_
      rw [codeOk.no hn] at b
      have h2 := a.1.1
      exact codeText_ne (by intro e2; subst e2; simp at h2) b.symm
    · intro h
      cases hok : ok with
      | true => rfl
      | false => exact absurd ⟨x, h, h.out⟩ (h0 hok)
  subst e
  refine ⟨g, hl, fun h => ?_, hR⟩
  obtain ⟨a, b⟩ := h1 h
  have hx := codeOkB_iff.1 h
  exact code_one a hx (b.symm.trans hx.out)

theorem codeOut_len (x : List In4) : (codeOut x).length ≤ 2600 := by
  by_cases h : codeOk x
  · rw [h.out]; exact h.2
  · rw [codeOk.no h]; simp
theorem bytes_len (l : List UInt8) : (⟨l.toArray⟩ : ByteArray).size = l.length := by simp [ByteArray.size]

theorem strs_blk {w : World} {ss : Array Value} {ls : List (List UInt8)} {n : Nat} (h : ss.toList = ls.map fun l => Value.string ⟨l.toArray⟩) (hn : ls.length = n) (hm : n ≤ 1000) :
    SlA (w.alloc (.cells ss 9)) 1 (some ⟨w.heap.size, 0, none⟩) n n (strs ls) := by
  refine SlA.of_block (Blk.new w 9 ss) (by simpa [strs] using hn) (Nat.le_refl _) (by unfold maxLen; omega) (fun k r hr j v hv => ?_)
  have e : ss = (ls.map fun l => Value.string ⟨l.toArray⟩).toArray := by rw [← h]
  simp only [strs, List.getElem?_map, Option.map_eq_some_iff] at hr
  obtain ⟨l, hl, rfl⟩ := hr
  cases j with
  | zero =>
    simp at hv
    subst hv
    rw [e]
    simp [hl]
  | succ j => simp at hv
end Go.Proofs.YtoibocaaeimplaaDoor

-- The law of a program's text, walked: FnCodeText returns true.
namespace Go.Proofs.YtoibocaaeimplaaDoor
open Go.RowKit Go.WideShapes Go.ChangeShapes Go.ChangeAt
set_option linter.unusedSimpArgs false
set_option linter.unusedVariables false

set_option maxRecDepth 100000 in
set_option maxHeartbeats 2000000 in
theorem DrawCodeRead_any (v : Value) (ys : List Int) (w : World) (hs : Sl w 1 v (u8s ys)) (hb : ∀ y ∈ ys, 0 ≤ y ∧ y ≤ 255) :
    Calls Tryd.prog 20 #[v] w fun e w' => ∃ t : ByteArray, e = .returned (.string t) ∧ t.size ≤ 5000 ∧ Below w.heap.size w w' := by
  have HS := Lib.hid hs; have HB := Lib.hid hb
  obtain ⟨A, n, c, rfl, -⟩ := hs
  clear hb
  go_enter Tryd.func20, Tryd.ntmps20
  go_wp2_with fail
  refine (l1Open_any _ ys _ HS.out HB.out).mono ?_; rintro e w1 ⟨rfl, r1, b1⟩
  go_wp2_with fail
  refine (pick_any w.heap.size 0 8 _ r1 (by omega)).mono ?_; rintro e w2 ⟨k2, rfl, a2, b2, g2, r2⟩
  have D2 : Dq w1 w2 w.heap.size 1 := (Dq.start r1).step g2 r2
  clear r1 g2 r2 b2
  by_cases hk : k2 = 0
  · subst hk
    have b02 : Below w.heap.size w w2 := b1.trans (below_of_grown D2.grown (Nat.le_refl _) D2.lt)
    have hz2 := b02.size
    have hlt := D2.rd.lt
    go_wp2_with fail
    refine (of_any w.heap.size 1 (some ⟨w2.heap.size, 0, none⟩) 13 13 [[], [101, 110, 100, 32, 49, 10], [101, 110, 100, 32, 53, 10], [101, 110, 100, 32, 49], [101, 110, 100, 32, 48, 49, 10], [108, 111, 97, 100, 32, 48, 10], [108, 111, 97, 100, 32, 53, 10, 101, 110, 100, 32, 49, 10], [106, 117, 109, 112, 32, 48, 10, 101, 110, 100, 32, 49, 10], [106, 117, 109, 112, 32, 49, 10, 101, 110, 100, 32, 49, 10], [101, 113, 32, 49, 32, 48, 32, 48, 10, 101, 110, 100, 32, 49, 10], [101, 113, 32, 49, 32, 48, 32, 49, 10, 101, 110, 100, 32, 49, 10], [101, 113, 32, 49, 32, 48, 10, 101, 110, 100, 32, 49, 10], [120, 32, 49, 10, 101, 110, 100, 32, 49, 10]] _ (D2.rd.next (by go_grown)) (by omega) (strs_blk rfl rfl (by omega)) (by omega) (fun b off e => by cases e; omega)).mono ?_
    rintro e w3 ⟨l, hl, rfl, g3, r3⟩
    have hll : l.length ≤ 100 := by
      simp only [List.mem_cons, List.not_mem_nil, or_false] at hl
      rcases hl with rfl | rfl | rfl | rfl | rfl | rfl | rfl | rfl | rfl | rfl | rfl | rfl | rfl <;> decide
    clear hl
    go_wp2
    go_ret
    exact ⟨_, rfl, by rw [bytes_len]; omega, (b02.alloc hz2 _).trans (below_of_grown g3 (Nat.le_refl _) (by simp; omega))⟩
  · have hd : (k2 == 0) = false := by simp [hk]
    go_wp2_with fail
    refine (l11Code_any w.heap.size 1 _ D2.rd (by omega)).mono ?_; rintro e w3 ⟨v3, gs, q, rfl, hs3, hl3, g3, r3, hq⟩
    have D3 := D2.step g3 r3
    clear D2 g3 r3
    have b03 : Below w.heap.size w w3 := b1.trans (below_of_grown D3.grown (Nat.le_refl _) D3.lt)
    go_wp2_with fail
    refine (sCodeWrite_any v3 gs _ hs3).mono ?_; rintro e w4 ⟨rfl, b4⟩
    have D4 := D3.next b4
    have b04 := below_step b03 b03.size b4
    have hz4 := b04.size
    have hlt := D4.rd.lt
    have hcl := codeOut_len gs
    go_wp2_with fail
    refine (l11Bend_any w.heap.size q ⟨(codeOut gs).toArray⟩ (some ⟨w4.heap.size, 0, none⟩) 5 5 [[32], [10], [48], [49], [120]] 4 _ (D4.rd.next (by go_grown)) (by omega) (by rw [bytes_len]; omega) (strs_blk rfl rfl (by omega)) (by omega) (fun b off e => by cases e; omega) (by simp)).mono ?_
    rintro e w5 ⟨t, q5, rfl, ht, g5, r5, hq5⟩
    rw [bytes_len (codeOut gs)] at ht
    go_wp2
    go_ret
    exact ⟨t, rfl, by omega, (b04.alloc hz4 _).trans (below_of_grown g5 (Nat.le_refl _) (by simp; omega))⟩

theorem DrawCodeWrite_any (v : Value) (ys : List Int) (w : World) (hs : Sl w 1 v (u8s ys)) (hb : ∀ y ∈ ys, 0 ≤ y ∧ y ≤ 255) :
    Calls Tryd.prog 24 #[v] w fun e w' => ∃ (v' : Value) (gs : List In4), e = .returned v' ∧ Sl w' 4 v' (insR gs) ∧ gs.length ≤ 1000 ∧ Below w.heap.size w w' := by
  have HS := Lib.hid hs; have HB := Lib.hid hb
  obtain ⟨A, n, c, rfl, -⟩ := hs
  clear hb
  go_enter Tryd.func24, Tryd.ntmps24
  go_wp2_with fail
  refine (DrawCodeOk_any _ ys _ HS.out HB.out).mono ?_; rintro e w1 ⟨v1, gs, rfl, h1, h2, h3⟩
  have H1 := Lib.hid h1; clear h1
  go_wp2
  go_ret
  exact ⟨v1, gs, rfl, H1.out, h2, h3⟩

namespace codeText
set_option maxRecDepth 100000 in
set_option maxHeartbeats 8000000 in
theorem walk (v1 v2 : Value) (ys zs : List Int) (w : World) (hp : Pow w) (h1 : Sl w 1 v1 (u8s ys)) (hb1 : ∀ y ∈ ys, 0 ≤ y ∧ y ≤ 255) (h2 : Sl w 1 v2 (u8s zs)) (hb2 : ∀ y ∈ zs, 0 ≤ y ∧ y ≤ 255) :
    Calls Tryd.prog 5 #[v1, v2] w fun e w' => e = .returned (.bool true) ∧ Below w.heap.size w w' := by
  have H1 := Lib.hid h1; have H2 := Lib.hid h2; have HB1 := Lib.hid hb1; have HB2 := Lib.hid hb2
  obtain ⟨A1, n1, c1, rfl, hA1⟩ := h1
  obtain ⟨A2, n2, c2, rfl, hA2⟩ := h2
  have hm1 := hA1.max; have hc1 := hA1.cap; have hm2 := hA2.max; have hc2 := hA2.cap
  unfold maxLen at hm1 hm2
  clear hA1 hA2 hb1 hb2
  by_cases hn1 : n1 ≤ 1048576
  · by_cases hn2 : n2 ≤ 1048576
    · go_enter Tryd.func5, Tryd.ntmps5
      go_wp2_with fail
      refine (DrawCodeRead_any _ ys _ H1.out HB1.out).mono ?_; rintro e w1 ⟨t, rfl, ht, b1⟩
      obtain ⟨g, ok, hgl, hyes, hno, hread⟩ := codePost_two t.data.toList
      have HR := Lib.hid hread
      have HY : Hid (ok = true → codeOut g = t.data.toList) := Lib.hid (fun h => by rw [(hyes h).1.out, (hyes h).2])
      have he : codeEq g g = true := codeEq_iff.2 rfl
      clear hread hno hyes
      go_wp2_with fail
      refine (CodeRead_any t _ (by omega)).mono ?_; intro e w2 hp2
      obtain ⟨u2, rfl, o2, b2⟩ := HR.out _ _ _ _ hp2
      have s2 := SlA.of_own o2 (insR_len g) (insR_rows g)
      have b02 := below_then b1 b2
      clear o2 hp2
      go_wp2_with fail
      refine (sCodeRead_any t _ (by omega)).mono ?_; intro e w3 hp3
      obtain ⟨u3, rfl, o3, b3⟩ := HR.out _ _ _ _ hp3
      have s3 := SlA.of_own o3 (insR_len g) (insR_rows g)
      have s23 := s2.below b3
      have b03 := below_then b02 b3
      have hook : (ok != ok) = false := by simp
      clear o3 hp3 s2 b1 b2 b02
      have HE := Lib.hid he
      clear he
      go_wp2_with fail
      refine (wgCode_any _ _ g g _ s23 s3).mono ?_; rintro e w4 ⟨rfl, b4⟩
      rw [HE.out]
      have s24 := s23.below b4
      have b04 := below_then b03 b4
      have H24 := Lib.hid s24
      clear s23 s24 s3 b3 b4 b03
      cases ok
      case' true =>
        go_wp2_with fail
        refine (CodeWrite_any _ g _ H24.out (hp.below b04)).mono ?_; rintro e w5 ⟨rfl, b5⟩
        rw [HY.out (by simp)]
        have b05 := below_then b04 b5
        clear b04 b5
      case' false =>
        have b05 := b04
        clear b04
      all_goals
        clear H24 HY HR hook
        go_wp2_with fail
        refine (DrawCodeWrite_any _ zs _ (H2.out.below b05) HB2.out).mono ?_; rintro e w6 ⟨v6, x, rfl, s6, hx6, b6⟩
        have H6 := Lib.hid s6
        have b06 := below_then b05 b6
        clear s6 b6
        go_wp2_with fail
        refine (CodeWrite_any _ x _ H6.out (hp.below b06)).mono ?_; rintro e w7 ⟨rfl, b7⟩
        have H7 := Lib.hid (H6.out.below b7)
        have b07 := below_then b06 b7
        clear H6 b7 b06
        obtain ⟨g2, hgl2, hsame, hread2⟩ := code_back x
        have HR2 := Lib.hid hread2; have HS := Lib.hid hsame; clear hread2 hsame
        have hsz : (⟨(codeOut x).toArray⟩ : ByteArray).size ≤ 1048576 := by rw [bytes_len]; have := codeOut_len x; omega
        generalize hT : codeOut x = T at *
        have HT := Lib.hid hT; clear hT
        go_wp2_with fail
        refine (CodeRead_any ⟨T.toArray⟩ _ hsz).mono ?_; intro e w8 hp8
        obtain ⟨u8, rfl, o8, b8⟩ := HR2.out _ _ _ _ hp8
        have s8 := SlA.of_own o8 (insR_len g2) (insR_rows g2)
        have H8 := Lib.hid (H7.out.below b8)
        have b08 := below_then b07 b8
        clear o8 hp8 H7 b8 b07
        go_wp2_with fail
        refine (sCodeWrite_any _ x _ H8.out).mono ?_; rintro e w9 ⟨rfl, b9⟩
        rw [HT.out]
        have H9 := Lib.hid (H8.out.below b9); have s9 := s8.below b9
        have b09 := below_then b08 b9
        clear b9 b08 s8 H8
        go_wp2_with fail
        refine (CodeOk_any _ x _ H9.out (hp.below b09)).mono ?_; rintro e w10 ⟨rfl, b10⟩
        have H10 := Lib.hid (H9.out.below b10); have s10 := s9.below b10
        have b010 := below_then b09 b10
        clear b10 b09 s9 H9
        go_wp2_with fail
        refine (sCodeOk_any _ x _ H10.out).mono ?_; rintro e w11 ⟨rfl, b11⟩
        have H11 := Lib.hid (H10.out.below b11); have s11 := s10.below b11
        have b011 := below_then b010 b11
        clear b11 b010 s10 H10
        go_wp2_with fail
        refine (sCodeOk_any _ x _ H11.out).mono ?_; rintro e w12 ⟨rfl, b12⟩
        have H12 := Lib.hid (H11.out.below b12); have s12 := s11.below b12
        have b012 := below_then b011 b12
        clear b12 b011 s11 H11
        cases hB : codeOkB x with
        | true =>
          have e2 := HS.out hB
          subst e2
          have HQ := Lib.hid (codeEq_iff.2 (rfl : g2 = g2))
          go_wp2_with fail
          refine (wgCode_any _ _ g2 g2 _ s12 H12.out).mono ?_; rintro e w13 ⟨rfl, b13⟩
          rw [HQ.out]
          go_wp2
          all_goals
            go_ret
            exact ⟨rfl, below_then b012 b13⟩
        | false =>
          go_wp2
          all_goals
            go_ret
            exact ⟨rfl, b012⟩
    · go_enter Tryd.func5, Tryd.ntmps5
      have hd2 : (1048576 : Int) < n2 := by omega
      go_wp2
      all_goals
        go_ret
        exact ⟨rfl, Below.refl _ _⟩
  · go_enter Tryd.func5, Tryd.ntmps5
    have hd1 : (1048576 : Int) < n1 := by omega
    go_wp2
    all_goals
      go_ret
      exact ⟨rfl, Below.refl _ _⟩
end codeText
end Go.Proofs.YtoibocaaeimplaaDoor

namespace Go.Proofs.YtoibocaaeimplaaDoor
open Go.RowKit Go.WideShapes Go.ChangeShapes Go.ChangeAt
set_option linter.unusedSimpArgs false
set_option linter.unusedVariables false

namespace codeText
theorem laid_met (os : Os) : laidMet Tryd.prog Rows.fnCodeTextRow.laid ((laidWorld os Rows.fnCodeTextRow.laid).forCall (fun _ _ => 0) ⟨#[], #[.slice none 0 0, .slice none 0 0], []⟩).memory :=
  laidMet_of_run' 8 (by kernel_rfl) (by kernel_rfl)
theorem reads (os : Os) {H : Type} (enc : TypeId × Value → H) : ∃ places, DataW.whole enc Tryd.prog ((laidWorld os Rows.fnCodeTextRow.laid).forCall (fun _ _ => 0) ⟨#[], #[.slice none 0 0, .slice none 0 0], []⟩).memory Tryd.f5.params.toList Rows.fnCodeTextSpec.vars false #[Value.slice none 0 0, Value.slice none 0 0].toList 8 = some ([.nil, .nil], [], places) :=
  ⟨[], by kernel_rfl⟩

set_option maxRecDepth 100000 in
theorem lifted (os : Os) (started : os.Started) (H : Type) (enc : TypeId × Value → H) (F : Stop.Interp) :
    ReturnsInHanded {} Tryd.checked os 5 .any ((OpenSpec.ofChange Rows.fnCodeTextSpec).preRow enc Tryd.prog Tryd.f5 Rows.fnCodeTextRow.domain false Rows.fnCodeTextRow.laid) (((OpenSpec.ofChange Rows.fnCodeTextSpec).at F).post enc Tryd.prog Tryd.f5 false true false false) := by
  obtain ⟨places, hx⟩ := reads os enc
  refine returnsInHanded_of_row (C := Tryd.checked) (s := OpenSpec.ofChange Rows.fnCodeTextSpec) own started (by kernel_rfl) Tryd.func5
    (witness_row_at (enc := enc) (C := Tryd.checked) false (laidWorld os Rows.fnCodeTextRow.laid) #[.slice none 0 0, .slice none 0 0] rfl (by kernel_rfl) (by kernel_rfl) (by kernel_rfl)
      (OpenSpec.preRow_of_cond 8 hx (by kernel_rfl) (fun k hk => by cases hk) (by kernel_rfl) (laid_met os))) ?_
  intro W base args ds gs before hval hW _ _ _ hL _ _
  have hW' := hW
  obtain ⟨p, q, hA0, hV, rfl, hfz, hnd⟩ := hW
  have hA : DataW.TrodAll enc Tryd.prog W 0 (fun _ => true) true Tryd.f5.params.toList args.toList ds p := hA0
  rw [Tryd.params5] at hA
  obtain ⟨v0, vs0, d0, ds0, p0, q0, hargs, rfl, rfl, h0, r0⟩ := trodAll_cons hA
  obtain ⟨v1, vs1, d1, ds1, p1, q1, hargs1, rfl, rfl, h1, r1⟩ := trodAll_cons r0
  obtain ⟨rfl, rfl, rfl⟩ := trodAll_nil r1
  subst hargs1
  obtain rfl : args = #[v0, v1] := by cases args; simp_all
  obtain ⟨rfl, rfl⟩ := trodVars_none hV
  obtain ⟨fuel0, hf0⟩ := h0
  obtain ⟨fuel1, hf1⟩ := h1
  obtain ⟨a0, len0, cap0, rfl⟩ := okWide_slice Tryd.underlying34 (hval 0 34 v0 rfl rfl)
  obtain ⟨a1, len1, cap1, rfl⟩ := okWide_slice Tryd.underlying34 (hval 1 34 v1 rfl rfl)
  obtain ⟨x0, ys, hc0, hs0, hb0⟩ := u8s_arg hf0
  obtain ⟨x1, zs, hc1, hs1, hb1⟩ := u8s_arg hf1
  obtain rfl : Value.slice a0 len0 cap0 = x0 := by simpa [Value.cells] using hc0
  obtain rfl : Value.slice a1 len1 cap1 = x1 := by simpa [Value.cells] using hc1
  exact (walk _ _ ys zs W (pow_of_laid hL (by kernel_rfl) (by kernel_rfl)) hs0 hb0 hs1 hb1).mono fun e W' ⟨he, hb⟩ => ⟨_, he, law_post laidOut (by kernel_rfl) rfl rfl Tryd.underlying4 rfl hW' hb⟩

theorem said : Rows.FnCodeTextSaid :=
  OpenClaim.holds_of_cond 5 Tryd.f5 rfl rfl rfl rfl rfl rfl rfl ⟨rfl, rfl, rfl, rfl, rfl⟩ rfl rfl rfl rfl rfl (by kernel_rfl) Tryd.func5 (by kernel_rfl)
    (of_decide_eq_true (by kernel_rfl)) (by unfold Func.isWrapper; first | (rw [if_pos (by decide +kernel)]; kernel_rfl) | (rw [if_neg (by decide +kernel)]; exact ⟨rfl, rfl⟩))
    (fun os started H enc _ F => by rw [OpenClaim.pre_eq_preRow]; exact lifted os started H enc F)

theorem plain (f : FuncId) (fn : Func) (hf : Tryd.pinned.checked.prog.funcNamed "loop.example/gatelodge/laws.FnCodeText" = some f) (hfn : Tryd.pinned.checked.prog.funcs[f]? = some fn) :
    false = Tryd.pinned.checked.prog.looks [] ∧ ∀ (j : Nat) t, fn.params[j]? = some t → Tryd.pinned.checked.prog.wantsStandIn t = false := by
  obtain rfl : f = 5 := Option.some.inj ((show Tryd.prog.funcNamed "loop.example/gatelodge/laws.FnCodeText" = some 5 by kernel_rfl).symm.trans hf) |>.symm
  obtain rfl : fn = Tryd.f5 := (Option.some.inj (Tryd.func5.symm.trans hfn)).symm
  refine ⟨by kernel_rfl, fun j t ht => ?_⟩
  rw [Tryd.params5] at ht
  obtain rfl : t = 34 := by simpa using Array.mem_of_getElem? ht
  exact (show Tryd.prog.wantsStandIn 34 = false by kernel_rfl)

theorem card : Rows.FnCodeTextCardSaid :=
  Claim7.holds_tied_plain_at .later [] _ _ _ _ said (fun _ h => by cases h) (by kernel_rfl) (fun _ h => by cases h) fnCodeText_row_tie rfl ⟨rfl, rfl⟩ (by kernel_rfl) rfl plain (by kernel_rfl)
end codeText
end Go.Proofs.YtoibocaaeimplaaDoor
