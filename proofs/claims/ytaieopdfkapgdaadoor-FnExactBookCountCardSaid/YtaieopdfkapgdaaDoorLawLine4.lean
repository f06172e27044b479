/- The laws' helpers on books: toLineS. -/
import Derived.Test.YtaieopdfkapgdaaDoorLawLine3
namespace Go.Proofs.YtaieopdfkapgdaaDoor
open Go.RowKit
set_option linter.unusedSimpArgs false
set_option linter.unusedVariables false

theorem info_Line : (Tryd.prog.info? 32).map (fun i => (i.zero, i.size, i.bytes)) = some (some (.agg #[.int .i64 0, .int .i64 0, .int .i64 0, .slice none 0 0, .int .i64 0, .string ⟨#[]⟩]), 6, 72) := by kernel_rfl
/-- The cells of a line. -/
def lnC (ln : Ln) (av : Value) : List Value := [.int .i64 ln.told.gate, .int .i64 ln.told.epoch, .int .i64 ln.told.num, av, .int .i64 ln.told.verdict, .string ⟨ln.sum.toArray⟩]
/-- The first lines stand in a block, each with arguments of its own behind it. -/
def LnsTo (w : World) (g : Nat) (b : List Ln) (k : Nat) : Prop :=
  ∃ (cur : Array Value) (avs : List Value), Blk w g 32 cur ∧ cur.size = b.length * 6 ∧ avs.length = k ∧
    ∀ (j : Nat) (ln : Ln) (av : Value), b[j]? = some ln → avs[j]? = some av → (∀ (i : Nat) (v : Value), (lnC ln av)[i]? = some v → cur[j * 6 + i]? = some v) ∧ w.ownsRow (g + 1) 3 1 av ln.told.args.length (ints ln.told.args).flatten
theorem lnC_len (ln : Ln) (av : Value) : (lnC ln av).length = 6 := rfl
theorem LnsTo.below {w w' : World} {g : Nat} {b : List Ln} {k : Nat} (h : LnsTo w g b k) (hb : Below w.heap.size w w') : LnsTo w' g b k := by
  obtain ⟨cur, avs, h1, h2, h3, h4⟩ := h
  exact ⟨cur, avs, h1.below hb h1.lt, h2, h3, fun j ln av e1 e2 => ⟨(h4 j ln av e1 e2).1, own_below (h4 j ln av e1 e2).2 hb⟩⟩
theorem LnsTo.lt {w : World} {g : Nat} {b : List Ln} {k : Nat} (h : LnsTo w g b k) : g < w.heap.size := by
  obtain ⟨cur, avs, h1, _⟩ := h; exact h1.lt
theorem LnsTo.next {w : World} {g : Nat} {b : List Ln} {k : Nat} {ln : Ln} {av : Value} (h : LnsTo w g b k) (hk : b[k]? = some ln) (ho : w.ownsRow (g + 1) 3 1 av ln.told.args.length (ints ln.told.args).flatten) : LnsTo (setRun w g (k * 6) (lnC ln av)) g b (k + 1) := by
  obtain ⟨cur, avs, h1, h2, h3, h4⟩ := h
  have hkl := (List.getElem?_eq_some_iff.1 hk).1
  refine ⟨setArr cur (k * 6) (lnC ln av), avs ++ [av], h1.run _ _ _ _, (setArr_size _ _ _).trans h2, by simp [h3], fun j ln' av' e1 e2 => ?_⟩
  by_cases hj : j < k
  · rw [List.getElem?_append_left (by omega)] at e2
    refine ⟨fun i v hv => ?_, own_run (by omega) _ _ _ (h4 j ln' av' e1 e2).2⟩
    have hi : i < 6 := by have := (List.getElem?_eq_some_iff.1 hv).1; rwa [lnC_len] at this
    rw [setArr_out _ _ _ _ (.inl (by omega))]
    exact (h4 j ln' av' e1 e2).1 i v hv
  · have hjk : j = k := by have := (List.getElem?_eq_some_iff.1 e2).1; simp [h3] at this; omega
    subst hjk
    rw [List.getElem?_append_right (by omega), h3, Nat.sub_self] at e2
    simp at e2
    subst e2
    obtain rfl := Option.some.inj (hk.symm.trans e1)
    exact ⟨fun i v hv => setArr_in _ _ _ i v hv (by rw [lnC_len, h2]; omega), own_run (by omega) _ _ _ ho⟩

theorem store6mid {ops : Array Oper} {rest : List Oper} {o : Oper} {a : Act} {w : World} {Q : Exit → Act → World → Prop} (hgd : o.guard = none) (x y : Operand) (ho : o.op = .store 32 x y)
    (g i : Nat) (ln : Ln) (av : Value) (hx : a.eval x = .pointer (some ⟨g, i, none⟩)) (hy : a.eval y = .agg #[.int .i64 ln.told.gate, .int .i64 ln.told.epoch, .int .i64 ln.told.num, av, .int .i64 ln.told.verdict, .string ⟨ln.sum.toArray⟩]) (hav : ∃ A n c, av = .slice A n c) (ht : w.there g i 6)
    (h : wpList Tryd.prog ops Q rest (a.put o.dst undef) (setRun w g i (lnC ln av))) : wpList Tryd.prog ops Q (o :: rest) a w :=
  wpList_store_mid hgd 32 x y ho g i _ hx hy ht (by kernel_rfl) (by obtain ⟨A, n, c, rfl⟩ := hav; simp [Value.oneCell']) (by rw [setCells_run]; exact h)

set_option maxRecDepth 100000 in
set_option maxHeartbeats 2000000 in
theorem toLineS_any (v : Value) (b : List Ln) (w : World) (hb : BookIs w v b) (hn : b.length ≤ 1048576) (hsz : ∀ ln ∈ b, ln.told.args.length ≤ 1048576) :
    Calls Tryd.prog 14 #[v] w fun e w' => ∃ c, e = .returned (.slice (some ⟨w.heap.size, 0, none⟩) b.length c) ∧ c = b.length ∧ LnsTo w' w.heap.size b b.length ∧ Below w.heap.size w w' := by
  obtain ⟨A, n, c, css, rfl, hA, hcl, hli⟩ := hb
  have hbn : b.length = n := by have := hA.len; omega
  have hcp := hA.cap
  have hmx := hA.max
  unfold maxLen at hmx
  rw [hbn] at hn ⊢
  have hmk := fun W => run_make_rowN (P := Tryd.prog) 23 32 _ 6 72 Tryd.underlying23 info_Line .i64 n (by omega) (by omega) W
  have HA := Lib.hid hA; have HLI := Lib.hid hli; have HCL := Lib.hid hcl; have HN := Lib.hid hbn; have HSZ := Lib.hid hsz
  clear hA hli hcl hbn hsz
  go_enter Tryd.func14, Tryd.ntmps14
  go_wp2
  go_loopw [4] (fun i wr => ∃ k : Nat, k ≤ n ∧ i = .int .i64 k ∧ Hid (LnsTo wr w.heap.size b k) ∧ Below w.heap.size w wr) (fun i _ => n - (intOf i).toNat)
  case atStart => exact ⟨0, by omega, rfl, Lib.hid ⟨_, [], Blk.new _ _ _, by rw [size_madeCells, HN.out], rfl, fun j ln av _ e2 => by simp at e2⟩, by go_grown⟩
  case round =>
    obtain ⟨k, hk, rfl, HL, hb⟩ := hrel
    by_cases hlt : k < n
    · obtain ⟨g, off, ln, av, rfl, hg, hbk, hs, hok, x0, x1, x2, x3, x4, x5⟩ := book_get HA.out HCL.out HLI.out hlt
      have y0 := (hb.cell (p := ⟨g, off + k * 6, none⟩) hg).trans x0
      have y1 := (hb.cell (p := ⟨g, off + k * 6 + 1, none⟩) hg).trans x1
      have y2 := (hb.cell (p := ⟨g, off + k * 6 + 2, none⟩) hg).trans x2
      have y3 := (hb.cell (p := ⟨g, off + k * 6 + 3, none⟩) hg).trans x3
      have y4 := (hb.cell (p := ⟨g, off + k * 6 + 4, none⟩) hg).trans x4
      have y5 := (hb.cell (p := ⟨g, off + k * 6 + 5, none⟩) hg).trans x5
      have HM := Lib.hid (HSZ.out ln (List.mem_of_getElem? hbk))
      obtain ⟨⟨gt, ep, nm, xs, vd⟩, sm⟩ := ln
      simp only at y0 y1 y2 y3 y4 y5 hs hok
      have HBK := Lib.hid hbk
      have HS := Lib.hid (hs.below hb)
      obtain ⟨A2, n2, c2, rfl, hA2⟩ := hs
      have kn : (k : Int) < n := by omega
      have HLT := Lib.hid hlt
      have hgl := HL.out.lt
      clear x0 x1 x2 x3 x4 x5 hbk hok hlt hk hA2
      go_wp2_with fail
      refine (toLine_any gt ep nm vd _ xs sm _ HS.out HM.out).mono ?_; rintro e w2 ⟨v2, rfl, o2, b2⟩
      obtain ⟨A3, n3, c3, rfl, -⟩ := SlA.of_own o2 (ints_len xs) (ints_rows xs)
      have HL2 := Lib.hid ((HL.out.below b2).next HBK.out (own_base o2 (by omega)))
      have HT : Hid (w2.there w.heap.size (k * 6) 6) := fun j hj => by
        obtain ⟨cur, avs, h1, h2, _⟩ := HL.out.below b2
        obtain ⟨v, hv⟩ := h1.some_ (i := k * 6 + j) (by rw [h2, HN.out]; have := HLT.out; omega)
        exact ⟨by rw [hv]; rfl, h1.frozen _⟩
      have HB2 := Lib.hid (below_then hb b2)
      clear o2 b2 y0 y1 y2 y3 y4 y5
      simp only []
      iterate 4 go_step
      refine store6mid rfl (.tmp 21) (.tmp 20) rfl w.heap.size (k * 6) ⟨⟨gt, ep, nm, xs, vd⟩, sm⟩ (.slice A3 n3 c3) rfl rfl ⟨_, _, _, rfl⟩ HT.out ?_
      go_wp2
      have hk := HLT.out
      refine ⟨⟨k + 1, by omega, by go_num, HL2, ?_⟩, by simp [intOf]; omega⟩
      exact below_run (Nat.le_refl _) _ _ _ HB2.out
    · obtain rfl : k = n := by omega
      go_wp2
      go_ret
      exact ⟨_, rfl, rfl, HL.out, hb⟩
end Go.Proofs.YtaieopdfkapgdaaDoor
