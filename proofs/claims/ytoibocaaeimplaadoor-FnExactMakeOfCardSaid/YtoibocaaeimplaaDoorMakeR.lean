/- spec's graphs of policies: l4Rule, l4Make: every look leads to points ahead of it. -/
import Derived.Test.YtoibocaaeimplaaDoorMakeS
import Derived.Test.YtoibocaaeimplaaDoorPolP
namespace Go.Proofs.YtoibocaaeimplaaDoor
open Go.RowKit
set_option linter.unusedSimpArgs false
set_option linter.unusedVariables false

/-- Every look leads to points ahead of it. -/
def Ahead (g : List Pt) : Prop := ∀ (i : Nat) (p : Pt), g[i]? = some p → p.op > 0 → ∃ y n : Nat, p.yes = y ∧ p.no = n ∧ y < i ∧ n < i
theorem Ahead.nil : Ahead [] := fun i p h => by simp at h
theorem Ahead.put {g g' : List Pt} {x : Pt} {i : Nat} (h : Ahead g) (hp : PutIs g x g' i) (hx : x.op > 0 → ∃ y n : Nat, x.yes = y ∧ x.no = n ∧ y < g.length ∧ n < g.length) : Ahead g' ∧ i < g'.length ∧ g.length ≤ g'.length ∧ g'.length ≤ g.length + 1 := by
  obtain ⟨-, a1, a2, a3, -⟩ := hp.at_
  refine ⟨?_, a1, a2, a3⟩
  rcases hp with ⟨rfl, -, -⟩ | ⟨rfl, rfl, -⟩
  · exact h
  · intro j p hj hop
    by_cases e : j < g.length
    · rw [List.getElem?_append_left e] at hj
      exact h j p hj hop
    · rw [List.getElem?_append_right (by omega)] at hj
      have e2 : j - g.length = 0 := by have := (List.getElem?_eq_some_iff.1 hj).1; simp at this; omega
      rw [e2] at hj
      simp at hj
      subst hj
      obtain ⟨y, n, h1, h2, h3, h4⟩ := hx hop
      exact ⟨y, n, h1, h2, by omega, by omega⟩
theorem Ahead.look {g g' : List Pt} {f m o v : Int} {y n i : Nat} (h : Ahead g) (hl : LookIs g f m o v y n g' i) (hy : y < g.length) (hn : n < g.length) : Ahead g' ∧ i < g'.length ∧ g.length ≤ g'.length ∧ g'.length ≤ g.length + 1 := by
  rcases hl with ⟨-, rfl, rfl⟩ | ⟨-, hp⟩
  · exact ⟨h, hy, Nat.le_refl _, by omega⟩
  · exact h.put hp fun _ => ⟨y, n, rfl, rfl, hy, hn⟩
theorem Ahead.test {g g' : List Pt} {t : Ts} {y n i : Nat} (h : Ahead g) (hl : TestIs g t y n g' i) (hy : y < g.length) (hn : n < g.length) : Ahead g' ∧ i < g'.length ∧ g.length ≤ g'.length ∧ g'.length ≤ g.length + 1 := by
  rcases hl with ⟨-, hl⟩ | ⟨-, -, hl⟩ | ⟨-, -, -, rfl, rfl⟩ | ⟨-, -, -, hl⟩
  · exact h.look hl hy hn
  · exact h.look hl hy hn
  · exact ⟨h, hn, Nat.le_refl _, by omega⟩
  · exact h.look hl hn hy

set_option maxHeartbeats 4000000 in
theorem l4Rule_any (w0 : World) (u : Value) (g : List Pt) (r : Rl) (tv : Value) (no : Nat) (w : World) (h : w.ownsRow w0.heap.size 47 7 u g.length (g.map Pt.cells).flatten) (hw0 : Below w0.heap.size w0 w) (hn : g.length ≤ 1000) (hA : Ahead g) (hno : no < g.length) (hok : ruleOkB r = true) (hT : Sl w0 4 tv (tsR r.tests)) :
    Calls Tryd.prog 86 #[u, .agg #[.int .i64 r.verdict, .int .i64 r.low, .int .i64 r.high, tv], .int .i64 no] w fun e w' =>
      ∃ v' g' i, e = .returned (.tuple #[v', .int .i64 (i : Nat)]) ∧ Ahead g' ∧ i < g'.length ∧ g.length ≤ g'.length ∧ g'.length ≤ g.length + 7 ∧ w'.ownsRow w0.heap.size 47 7 v' g'.length (g'.map Pt.cells).flatten ∧ PtFrame w0.heap.size w w' := by
  have hw := ruleOkB_words hok
  clear hok
  obtain ⟨vd, lo, hi, ts⟩ := r
  simp only at hT hw ⊢
  obtain ⟨⟨v0, v1⟩, ⟨l0, l1⟩, h1, n4, hts⟩ := hw
  obtain ⟨A, n, c, rfl, hSA⟩ := hT
  have htn : ts.length = n := by have := hSA.len; rwa [tsR_len] at this
  have hc := hSA.cap
  have hm := hSA.max
  unfold maxLen at hm
  rw [htn] at n4
  have hbs := hw0.size
  have hb0 : Below w.heap.size w (w.alloc (.cells #[.int .i64 vd, .int .i64 lo, .int .i64 hi, .slice A n c] 119)) := by go_grown
  have h2 := own_below h hb0
  have hz : w0.heap.size ≤ (w.alloc (.cells #[.int .i64 vd, .int .i64 lo, .int .i64 hi, .slice A n c] 119)).heap.size := by simp; omega
  have F0 : PtFrame w0.heap.size w (w.alloc (.cells #[.int .i64 vd, .int .i64 lo, .int .i64 hi, .slice A n c] 119)) := PtFrame.of_below hb0 hbs
  have B0 := Blk.new w 119 #[.int .i64 vd, .int .i64 lo, .int .i64 hi, .slice A n c]
  have HT := Lib.hid hts; have HO := Lib.hid h2; have HA := Lib.hid hA; clear hts h h2 hA hb0
  go_enter Tryd.func86, Tryd.ntmps86
  go_wp2_with fail
  refine (l4Point_any w0.heap.size u g ⟨vd, 0, 0, 0, 0, 0, 0⟩ _ HO.out hz (by omega)).mono ?_
  rintro e W1 ⟨u1, g1, a1, rfl, hP, ho1, hf1⟩
  obtain ⟨p1, p2, p3, p4⟩ := HA.out.put hP (fun h => absurd h (Int.lt_irrefl 0))
  have F1 := F0.trans hf1
  have B1 := hf1.blk B0 (by decide)
  have b3 : W1.cell? ⟨w.heap.size, 3, none⟩ = some (.slice A n c) := B1.cell 3
  have HA1 := Lib.hid p1; have HO1 := Lib.hid ho1; clear p1 ho1 hP HA HO F0 hf1 B0 hz
  go_wp2
  go_loopw [0, 8, 9] (fun uu at_ i wr => ∃ (k : Nat) (z : Int) (g' : List Pt) (a : Nat), k ≤ n ∧ z + 1 = k ∧ i = .int .i64 z ∧ at_ = .int .i64 a ∧ Ahead g' ∧ a < g'.length ∧ g.length ≤ g'.length ∧ g'.length + k ≤ g.length + 1 + n ∧ wr.ownsRow w0.heap.size 47 7 uu g'.length (g'.map Pt.cells).flatten ∧ PtFrame w0.heap.size w wr ∧ Blk wr w.heap.size 119 #[.int .i64 vd, .int .i64 lo, .int .i64 hi, .slice A n c]) (fun _ _ i _ => (intOf i + 1).toNat)
  case atStart => exact ⟨n, (n : Int) - 1, g1, a1, by omega, by omega, by go_num, rfl, HA1.out, p2, p3, by omega, HO1.out, F1, B1⟩
  case round =>
    obtain ⟨k, z, g', a, hk, hkz, rfl, rfl, hA, ha, hg1, hg2, ho, hf, hB⟩ := hrel
    clear HA1 HO1 F1 B1 b3 p2 p3 p4
    have HA := Lib.hid hA; have HO := Lib.hid ho; clear hA ho
    have b1 : wr.cell? ⟨w.heap.size, 1, none⟩ = some (.int .i64 lo) := hB.cell 1
    have b2 : wr.cell? ⟨w.heap.size, 2, none⟩ = some (.int .i64 hi) := hB.cell 2
    have b3 : wr.cell? ⟨w.heap.size, 3, none⟩ = some (.slice A n c) := hB.cell 3
    have hzw : w0.heap.size ≤ wr.heap.size := Nat.le_trans hbs (by have := hB.lt; omega)
    by_cases hge : 0 ≤ z
    · obtain ⟨m, rfl⟩ : ∃ m : Nat, z = m := ⟨z.toNat, by omega⟩
      have hmn : m < n := by omega
      obtain ⟨b, off, t, rfl, hab, hgp, hcell⟩ := ts_get hSA hmn
      obtain ⟨c0, c1, c2, c3⟩ := hcell wr _ (hw0.trans hf.below) hab
      obtain ⟨t1, t2, t3, t4⟩ := testOkB_words (HT.out t (List.mem_of_getElem? hgp))
      clear hcell hgp
      obtain ⟨f, m', op, v⟩ := t
      simp only at c0 c1 c2 c3 t1 t2 t3 t4
      go_wp2_with fail
      refine (l4Test_any w0.heap.size u0 g' ⟨f, m', op, v⟩ a no _ HO.out hzw (by omega) t3).mono ?_
      rintro e W2 ⟨u2, g2, a2, rfl, hP, ho2, hf2⟩
      obtain ⟨q1, q2, q3, q4⟩ := HA.out.test hP ha (by omega)
      have F2 := hf.trans hf2
      have B2 := hf2.blk hB (by decide)
      have HA2 := Lib.hid q1; have HO2 := Lib.hid ho2; clear q1 ho2 hP HA HO hf hf2 hB
      go_wp2
      exact ⟨⟨m, (m : Int) - 1, g2, a2, by omega, by omega, by go_num, rfl, HA2.out, q2, by omega, by omega, HO2.out, F2, B2⟩, by simp [intOf]⟩
    · by_cases e1 : lo = hi
      · have hd : (lo == hi) = true := by simp [e1]
        go_wp2_with fail
        refine (l4Look_any w0.heap.size u0 g' 0 4294967295 1 _ a no _ HO.out hzw (by omega)).mono ?_
        rintro e W2 ⟨u2, g2, a2, rfl, hP, ho2, hf2⟩
        obtain ⟨q1, q2, q3, q4⟩ := HA.out.look hP ha (by omega)
        have HA2 := Lib.hid q1; have HO2 := Lib.hid ho2; clear q1 ho2 hP HA HO
        go_wp2
        go_ret2
        exact ⟨u2, g2, a2, rfl, HA2.out, q2, by omega, by omega, HO2.out, hf.trans hf2⟩
      · have hd : (lo == hi) = false := by simp [e1]
        rcases Decidable.em (hi < 4294967295) with e2 | e2
        case' inl =>
          go_wp2_with fail
          refine (l4Look_any w0.heap.size u0 g' 0 4294967295 3 hi no a _ HO.out hzw (by omega)).mono ?_
          rintro e W2 ⟨u2, g2, a2, rfl, hP, ho2, hf2⟩
          obtain ⟨q1, q2, q3, q4⟩ := HA.out.look hP (by omega) ha
          have F2 := hf.trans hf2
          have B2 := hf2.blk hB (by decide)
          have s1 : W2.cell? ⟨w.heap.size, 1, none⟩ = some (.int .i64 lo) := B2.cell 1
          have hz2 : w0.heap.size ≤ W2.heap.size := Nat.le_trans hzw hf2.below.size
          have HA2 := Lib.hid q1; have HO2 := Lib.hid ho2; clear q1 ho2 hP HA HO b1 b2 b3 hf hf2 hB B2
        case' inr =>
          obtain ⟨W2, hW2⟩ : ∃ W2, W2 = wr := ⟨_, rfl⟩
          subst hW2
          obtain ⟨u2, hu2⟩ : ∃ u2, u2 = u0 := ⟨_, rfl⟩
          subst hu2
          obtain ⟨a2, ha2⟩ : ∃ a2, a2 = a := ⟨_, rfl⟩
          subst ha2
          obtain ⟨g2, hg2e⟩ : ∃ g2, g2 = g' := ⟨_, rfl⟩
          subst hg2e
          have q2 := ha
          have q3 := Nat.le_refl g2.length
          have q4 : g2.length ≤ g2.length + 1 := by omega
          have F2 := hf
          have s1 := b1
          have hz2 := hzw
          have HA2 := HA; have HO2 := HO; clear HA HO
        all_goals
          by_cases e3 : 0 < lo
          · go_wp2_with fail
            refine (l4Look_any w0.heap.size u2 g2 0 4294967295 3 (lo - 1) a2 no _ HO2.out hz2 (by omega)).mono ?_
            rintro e W3 ⟨u3, g3, a3, rfl, hP3, ho3, hf3⟩
            obtain ⟨r1, r2, r3, r4⟩ := HA2.out.look hP3 q2 (by omega)
            have HA3 := Lib.hid r1; have HO3 := Lib.hid ho3; clear r1 ho3 hP3
            go_wp2
            go_ret2
            exact ⟨u3, g3, a3, rfl, HA3.out, r2, by omega, by omega, HO3.out, F2.trans hf3⟩
          · go_wp2
            go_ret2
            exact ⟨u2, g2, a2, rfl, HA2.out, q2, by omega, by omega, HO2.out, F2⟩

set_option maxHeartbeats 4000000 in
theorem l4Make_any (p : Pol) (v : Value) (w : World) (hP : PolIs w p v) (hok : polShapeB p = true) :
    Calls Tryd.prog 77 #[v] w fun e w' =>
      ∃ v' g' i, e = .returned (.tuple #[v', .int .i64 (i : Nat)]) ∧ Ahead g' ∧ i < g'.length ∧ g'.length ≤ 57 ∧ w'.ownsRow w.heap.size 47 7 v' g'.length (g'.map Pt.cells).flatten ∧ PtFrame w.heap.size w w' := by
  obtain ⟨k8, hels, hrs⟩ := polShapeB_words hok
  clear hok
  obtain ⟨rs, els⟩ := p
  obtain ⟨rv, css, rfl, hS, hR⟩ := hP
  simp only at k8 hels hrs hR ⊢
  obtain ⟨A, n, c, rfl, hSA⟩ := hS
  have htn : rs.length = n := by rw [← hR.1]; exact hSA.len
  have hc := hSA.cap
  have hm := hSA.max
  unfold maxLen at hm
  rw [htn] at k8
  have B0 := Blk.new w 91 #[.slice A n c, .int .i64 els]
  have hb0 : Below w.heap.size w ((w.alloc (.cells #[.slice A n c, .int .i64 els] 91)).alloc (.cells #[] 47)) := by go_grown
  have F0 := PtFrame.of_below hb0 (Nat.le_refl _)
  have O0 : ((w.alloc (.cells #[.slice A n c, .int .i64 els] 91)).alloc (.cells #[] 47)).ownsRow w.heap.size 47 7 (.slice (some ⟨w.heap.size + 1, 0, none⟩) 0 0) 0 [] := by
    have := World.ownsRow_lit (base := w.heap.size) (e := 47) (size := 7) (w.alloc (.cells #[.slice A n c, .int .i64 els] 91)) #[] 0 (by simp) (by unfold maxLen; omega) rfl
    simpa using this
  have B1 := B0.below (show Below (w.alloc (.cells #[.slice A n c, .int .i64 els] 91)).heap.size _ ((w.alloc (.cells #[.slice A n c, .int .i64 els] 91)).alloc (.cells #[] 47)) by go_grown) (by simp)
  have HR := Lib.hid hrs; have HRA := Lib.hid hR; have HO := Lib.hid O0; clear hrs hR hb0 O0 B0
  go_enter Tryd.func77, Tryd.ntmps77
  go_wp2_with fail
  refine (l4Point_any w.heap.size _ [] ⟨els, 0, 0, 0, 0, 0, 0⟩ _ HO.out (by simp; omega) (by simp)).mono ?_
  rintro e W1 ⟨v1, g1, a1, rfl, hP, ho1, hf1⟩
  obtain ⟨p1, p2, p3, p4⟩ := Ahead.nil.put hP (fun h => absurd h (Int.lt_irrefl 0))
  have F1 := F0.trans hf1
  have B2 := hf1.blk B1 (by decide)
  have b0 : W1.cell? ⟨w.heap.size, 0, none⟩ = some (.slice A n c) := B2.cell 0
  have HA1 := Lib.hid p1; have HO1 := Lib.hid ho1; clear p1 ho1 hP HO F0 hf1 B1
  simp only [List.length_nil] at p4
  go_wp2
  go_loopw [4, 5, 6] (fun u at_ i wr => ∃ (k : Nat) (z : Int) (g' : List Pt) (a : Nat), k ≤ n ∧ z + 1 = k ∧ i = .int .i64 z ∧ at_ = .int .i64 a ∧ Ahead g' ∧ a < g'.length ∧ g'.length + 7 * k ≤ 1 + 7 * n ∧ wr.ownsRow w.heap.size 47 7 u g'.length (g'.map Pt.cells).flatten ∧ PtFrame w.heap.size w wr ∧ Blk wr w.heap.size 91 #[.slice A n c, .int .i64 els]) (fun _ _ i _ => (intOf i + 1).toNat)
  case atStart => exact ⟨n, (n : Int) - 1, g1, a1, by omega, by omega, by go_num, rfl, HA1.out, p2, by omega, HO1.out, F1, B2⟩
  case round =>
    obtain ⟨k, z, g', a, hk, hkz, rfl, rfl, hA, ha, hg2, ho, hf, hB⟩ := hrel
    clear HA1 HO1 F1 B2 b0 p2 p3 p4
    have HA := Lib.hid hA; have HO := Lib.hid ho; clear hA ho
    have b0 : wr.cell? ⟨w.heap.size, 0, none⟩ = some (.slice A n c) := hB.cell 0
    by_cases hge : 0 ≤ z
    · obtain ⟨m, rfl⟩ : ∃ m : Nat, z = m := ⟨z.toNat, by omega⟩
      have hmn : m < n := by omega
      obtain ⟨b, off, r, tv, rfl, hab, hgp, hsl, hcell⟩ := rules_get hSA HRA.out hmn
      obtain ⟨c0, c1, c2, c3⟩ := hcell wr _ hf.below hab
      have hrok := HR.out r (List.mem_of_getElem? hgp)
      have HROK := Lib.hid hrok; have HSL := Lib.hid hsl
      clear hcell hgp hrok hsl
      go_wp2_with fail
      refine (l4Rule_any w u4 g' r tv a _ HO.out hf.below (by omega) HA.out ha HROK.out HSL.out).mono ?_
      rintro e W2 ⟨u2, g2, a2, rfl, q1, q2, q3, q4, ho2, hf2⟩
      have F2 := hf.trans hf2
      have B2 := hf2.blk hB (by decide)
      have HA2 := Lib.hid q1; have HO2 := Lib.hid ho2; clear q1 ho2 HA HO hf hf2 hB
      go_wp2
      exact ⟨⟨m, (m : Int) - 1, g2, a2, by omega, by omega, by go_num, rfl, HA2.out, q2, by omega, HO2.out, F2, B2⟩, by simp [intOf]⟩
    · go_wp2
      go_ret2
      exact ⟨u4, g', a, rfl, HA.out, ha, by omega, HO.out, hf⟩
end Go.Proofs.YtoibocaaeimplaaDoor
