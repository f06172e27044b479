/- How the laws draw books of whatever make: l16AnyBook, DrawBookOk, DrawBookAdd. -/
import Derived.Test.YtaieopdfkapgdaaDoorDrawBook
namespace Go.Proofs.YtaieopdfkapgdaaDoor
open Go.RowKit
set_option linter.unusedSimpArgs false
set_option linter.unusedVariables false

def medT (t : Tl) : Prop := (0 ≤ t.gate ∧ t.gate ≤ 20) ∧ (0 ≤ t.epoch ∧ t.epoch ≤ 20) ∧ (0 ≤ t.verdict ∧ t.verdict ≤ 20)
theorem smallT.med {t : Tl} (h : smallT t) : medT t := by
  obtain ⟨h1, h2, h3⟩ := h
  exact ⟨⟨h1.1, by omega⟩, ⟨h2.1, by omega⟩, ⟨h3.1, by omega⟩⟩
theorem medT.ok {t : Tl} (h : medT t) : t.ok := by
  obtain ⟨h1, h2, h3⟩ := h
  exact ⟨⟨by omega, by omega⟩, ⟨by omega, by omega⟩, ⟨by omega, by omega⟩⟩
theorem FarSl.grown {w w' : World} {base g : Nat} {v : Value} {xs : List Int} (h : FarSl w base v xs) (hg : w.grownBy w' (some g)) (hlt : g < base) : FarSl w' base v xs := by
  obtain ⟨A, n, c, rfl, hA, hf⟩ := h
  exact ⟨A, n, c, rfl, hA.grown hg fun b off e => by have := hf b off e; omega, hf⟩
theorem FarSl.of_own {w : World} {base : Nat} {v : Value} {xs : List Int} (h : w.ownsRow base 3 1 v xs.length (ints xs).flatten) : FarSl w base v xs := by
  obtain ⟨A, n, c, rfl, hA⟩ := SlA.of_own h (ints_len xs) (ints_rows xs)
  exact ⟨A, n, c, rfl, hA, fun b off e => by subst e; exact (h.lt b rfl).1⟩
theorem FarSl.below {w w' : World} {base : Nat} {v : Value} {xs : List Int} (h : FarSl w base v xs) (hb : Below w.heap.size w w') : FarSl w' base v xs := by
  obtain ⟨A, n, c, rfl, hA, hf⟩ := h
  exact ⟨A, n, c, rfl, hA.below hb, hf⟩
theorem FarSl.low {w : World} {base base' : Nat} {v : Value} {xs : List Int} (h : FarSl w base v xs) (hh : base' ≤ base) : FarSl w base' v xs := by
  obtain ⟨A, n, c, rfl, hA, hf⟩ := h
  exact ⟨A, n, c, rfl, hA, fun b off e => Nat.le_trans hh (hf b off e)⟩
/-- A book that lies behind a place. -/
def FarBk (w : World) (base : Nat) (v : Value) (b : List Ln) : Prop :=
  ∃ css : List (List Value), w.ownsRow base 32 6 v b.length css.flatten ∧ css.length = b.length ∧ ∀ (i : Nat) (ln : Ln) (cs : List Value), b[i]? = some ln → css[i]? = some cs → ∃ av, cs = lnC ln av ∧ FarSl w base av ln.told.args
theorem FarBk.grown {w w' : World} {base g : Nat} {v : Value} {b : List Ln} (h : FarBk w base v b) (hg : w.grownBy w' (some g)) (hlt : g < base) : FarBk w' base v b := by
  obtain ⟨css, h1, h2, h3⟩ := h
  refine ⟨css, own_grownR h1 hg hlt, h2, fun i ln cs e1 e2 => ?_⟩
  obtain ⟨av, e, hf⟩ := h3 i ln cs e1 e2
  exact ⟨av, e, hf.grown hg hlt⟩
theorem FarBk.below {w w' : World} {base : Nat} {v : Value} {b : List Ln} (h : FarBk w base v b) (hb : Below w.heap.size w w') : FarBk w' base v b := by
  obtain ⟨css, h1, h2, h3⟩ := h
  refine ⟨css, own_below h1 hb, h2, fun i ln cs e1 e2 => ?_⟩
  obtain ⟨av, e, hf⟩ := h3 i ln cs e1 e2
  exact ⟨av, e, hf.below hb⟩
theorem FarBk.rows {w : World} {base : Nat} {b : List Ln} {css : List (List Value)} (h2 : css.length = b.length) (h3 : ∀ (i : Nat) (ln : Ln) (cs : List Value), b[i]? = some ln → css[i]? = some cs → ∃ av, cs = lnC ln av ∧ FarSl w base av ln.told.args) : ∀ r ∈ css, r.length = 6 := fun r hr => by
  obtain ⟨i, hi⟩ := List.mem_iff_getElem?.1 hr
  have hil := (List.getElem?_eq_some_iff.1 hi).1
  have hib : i < b.length := by omega
  obtain ⟨av, e, _⟩ := h3 i b[i] r (List.getElem?_eq_getElem hib) hi
  rw [e]; rfl
theorem FarBk.is {w : World} {base : Nat} {v : Value} {b : List Ln} (h : FarBk w base v b) (hok : ∀ ln ∈ b, ln.told.ok) : BookIs w v b := by
  obtain ⟨css, h1, h2, h3⟩ := h
  obtain ⟨A, n, c, rfl, hA⟩ := SlA.of_own h1 h2 (FarBk.rows h2 h3)
  refine ⟨A, n, c, css, rfl, hA, h2, fun i ln cs e1 e2 => ?_⟩
  obtain ⟨av, rfl, hf⟩ := h3 i ln cs e1 e2
  exact ⟨av, rfl, hf.sl, hok ln (List.mem_of_getElem? e1)⟩
theorem OwnBk.far {w : World} {lo hi : Nat} {v : Value} {b : List Ln} (h : OwnBk w lo hi v b) : FarBk w lo v b := by
  obtain ⟨avs, h1, h2, h3⟩ := h
  refine ⟨lnRows b avs, h2, lnRows_len h1.len, fun i ln cs e1 e2 => ?_⟩
  obtain ⟨ln', av, e3, e4, rfl⟩ := lnRows_get e2
  obtain rfl := Option.some.inj (e1.symm.trans e3)
  exact ⟨av, rfl, FarSl.of_own (h1.get i ln av e1 e4).1⟩
theorem ArgsUp.one {w : World} {lo hi : Nat} {b : List Ln} {avs : List Value} (h : ArgsUp w lo hi b avs) : ∀ av ∈ avs, av.oneCell' = true := by
  induction h with
  | nil h => intro av h; cases h
  | snoc h ho hb hq ih =>
    intro av hm
    rcases List.mem_append.1 hm with hm | hm
    · exact ih av hm
    · simp at hm
      subst hm
      rcases ho.2 with ⟨rfl, _⟩ | ⟨g, cap, cur, rfl, _⟩ <;> rfl
theorem ArgsUp.far {w : World} {lo hi : Nat} {b : List Ln} {avs : List Value} (h : ArgsUp w lo hi b avs) {i : Nat} {ln : Ln} {av : Value} (e1 : b[i]? = some ln) (e2 : avs[i]? = some av) : FarSl w lo av ln.told.args := FarSl.of_own (h.get i ln av e1 e2).1
/-- One line of a book is another one. -/
theorem FarBk.turn {w : World} {base k : Nat} {v : Value} {b : List Ln} {avs : List Value} {ln' : Ln} {av' : Value} (hl : avs.length = b.length) (hk : k < b.length) (ho : w.ownsRow base 32 6 v b.length ((lnRows b avs).set k (lnC ln' av')).flatten)
    (hf : ∀ (i : Nat) (ln : Ln) (av : Value), b[i]? = some ln → avs[i]? = some av → i ≠ k → FarSl w base av ln.told.args) (hn : FarSl w base av' ln'.told.args) : FarBk w base v (b.set k ln') := by
  refine ⟨(lnRows b avs).set k (lnC ln' av'), by rw [List.length_set]; exact ho, by rw [List.length_set, List.length_set, lnRows_len hl], fun i ln cs e1 e2 => ?_⟩
  by_cases e : i = k
  · subst e
    rw [List.getElem?_set_self (by rw [lnRows_len hl]; exact hk)] at e2
    rw [List.getElem?_set_self hk] at e1
    cases e1; cases e2
    exact ⟨av', rfl, hn⟩
  · rw [List.getElem?_set_ne (fun e3 => e e3.symm)] at e1 e2
    obtain ⟨ln2, av, e3, e4, rfl⟩ := lnRows_get e2
    obtain rfl := Option.some.inj (e1.symm.trans e3)
    exact ⟨av, rfl, hf i ln av e1 e4 e⟩
theorem flat_take {size : Nat} : ∀ (rows : List (List Value)) (k : Nat), (∀ r ∈ rows, r.length = size) → (rows.take k).flatten = rows.flatten.take (k * size)
  | [], k, _ => by simp
  | y :: rows, 0, _ => by simp
  | y :: rows, k + 1, h => by
    have hy := h y (by simp)
    rw [List.take_succ_cons, List.flatten_cons, List.flatten_cons, flat_take rows k (fun r hr => h r (by simp [hr])), show (k + 1) * size = y.length + k * size by rw [hy, Nat.succ_mul]; omega, List.take_length_add_append]
theorem flat_drop {size : Nat} : ∀ (rows : List (List Value)) (k : Nat), (∀ r ∈ rows, r.length = size) → (rows.drop k).flatten = rows.flatten.drop (k * size)
  | [], k, _ => by simp
  | y :: rows, 0, _ => by simp
  | y :: rows, k + 1, h => by
    have hy := h y (by simp)
    rw [List.drop_succ_cons, List.flatten_cons, flat_drop rows k (fun r hr => h r (by simp [hr])), show (k + 1) * size = y.length + k * size by rw [hy, Nat.succ_mul]; omega, List.drop_length_add_append]
theorem own_takeR {w : World} {base : Nat} {e : TypeId} {size g n cap k : Nat} {rows : List (List Value)} (h : w.ownsRow base e size (.slice (some ⟨g, 0, none⟩) n cap) n rows.flatten) (hl : rows.length = n) (hr : ∀ r ∈ rows, r.length = size) (hk : k ≤ n) : w.ownsRow base e size (.slice (some ⟨g, 0, none⟩) k cap) k (rows.take k).flatten := by
  have hr' : ∀ r ∈ rows.take k, r.length = size := fun r hm => hr r (List.mem_of_mem_take hm)
  refine ⟨by rw [flat_len _ hr', List.length_take]; rw [Nat.min_eq_left (by omega)], ?_⟩
  rcases h.2 with ⟨e, _⟩ | ⟨g', cap', cur, e, h1, h2, h3, h4, h5, h6⟩
  · cases e
  · cases e
    exact .inr ⟨g, cap, cur, rfl, h1, h2, by omega, h4, h5, by rw [flat_take rows k hr, ← h6, List.take_take, Nat.min_eq_left (Nat.mul_le_mul_right _ hk)]⟩

theorem run_slHL (b N c k : Nat) (hk : (k : Int) ≤ c) (W : World) : (Instr.slice 23 (.slice (some ⟨b, 0, none⟩) N c) none (some (.int .i64 (k : Int))) none).run Tryd.prog W = .ok (.slice (some ⟨b, 0, none⟩) k c) W := by
  have h0 : (0 : Int) ≤ k := by omega
  simp [go_sem, hk, h0]
theorem run_slLL (b N c k : Nat) (hk : (k : Int) ≤ N) (hc : c ≠ k) (W : World) : (Instr.slice 23 (.slice (some ⟨b, 0, none⟩) N c) (some (.int .i64 (k : Int))) none none).run Tryd.prog W = .ok (.slice (some ⟨b, k * 6, none⟩) (N - k) (c - k)) W := by
  have h0 : (0 : Int) ≤ k := by omega
  have h1 : ¬ (c = k) := hc
  simp [go_sem, hk, h0, h1]
theorem run_slEL (b N k : Nat) (hk : (k : Int) ≤ N) (W : World) : (Instr.slice 23 (.slice (some ⟨b, 0, none⟩) N k) (some (.int .i64 (k : Int))) none none).run Tryd.prog W = .ok (.slice (some ⟨b, 0, none⟩) (N - k) (k - k)) W := by
  have h0 : (0 : Int) ≤ k := by omega
  simp [go_sem, hk, h0]
theorem grown_row {w w1 w2 : World} {g gb n c : Nat} (h : w.grownBy w1 (some g)) (h2 : w1.grownBy w2 (Value.slice (some ⟨gb, 0, none⟩) n c).ownBlock) (hge : w.heap.size ≤ gb) (hsz : w.heap.size ≤ w1.heap.size) : w.grownBy w2 (some g) :=
  ⟨h2.os.trans h.os, h2.tape.trans h.tape, h2.output.trans h.output, Nat.le_trans h.size h2.size, fun k hk hne => (h2.block k (Nat.lt_of_lt_of_le hk h.size) (by simp [Value.ownBlock]; omega)).trans (h.block k hk hne)⟩
theorem Rd.far8 {w : World} {g p gb i : Nat} {x : Value} (h : Rd w g p) (hne : gb ≠ g) (hb : g < gb) : Rd (w.setCell ⟨gb, i, none⟩ x) g p := h.below ((Below.refl gb w).setCell (p := ⟨gb, i, none⟩) (Nat.le_refl _) _) hb
/-- What each operation yields where a line is left out. -/
def delT (lo : Nat) (b : List Ln) (avs : List Value) (n k gb c : Nat) (sa : Addr) (sc : Nat) : Nat → World → Value → Prop
  | 0, _, u => u = .slice (some ⟨gb, 0, none⟩) n c
  | 1, _, u => u = .int .i64 k
  | 2, _, u => u = .slice (some ⟨gb, 0, none⟩) k c
  | 3, _, u => u = .slice (some ⟨gb, 0, none⟩) n c
  | 4, _, u => u = .int .i64 k
  | 5, _, u => u = .int .i64 ((k : Int) + 1)
  | 6, _, u => u = .slice (some sa) (n - (k + 1)) sc
  | 7, w, u => w.ownsRow lo 32 6 u (k + (n - (k + 1))) (((lnRows b avs).take k).flatten ++ ((lnRows b avs).drop (k + 1)).flatten)
  | 8, w, u => w.ownsRow lo 32 6 u (k + (n - (k + 1))) (((lnRows b avs).take k).flatten ++ ((lnRows b avs).drop (k + 1)).flatten)
  | _, _, _ => True
def delR (i : Nat) (w w' : World) : Prop := i = 7 ∨ w = w'
theorem med_del {b : List Ln} {k : Nat} (h : ∀ x ∈ b, smallT x.told) : ∀ x ∈ b.take k ++ b.drop (k + 1), medT x.told := fun x hx => by
  rcases List.mem_append.1 hx with h1 | h1
  · exact (h x (List.mem_of_mem_take h1)).med
  · exact (h x (List.mem_of_mem_drop h1)).med
theorem far_del {w : World} {lo hi n k : Nat} {u : Value} {b : List Ln} {avs : List Value} (hl : avs.length = b.length) (hk : k < b.length) (hn : b.length = n) (ho : w.ownsRow lo 32 6 u (k + (n - (k + 1))) (((lnRows b avs).take k).flatten ++ ((lnRows b avs).drop (k + 1)).flatten)) (hu : ArgsUp w lo hi b avs) : FarBk w lo u (b.take k ++ b.drop (k + 1)) := by
  have hlen : (b.take k ++ b.drop (k + 1)).length = k + (n - (k + 1)) := by rw [List.length_append, List.length_take, List.length_drop]; omega
  have hrl := lnRows_len hl
  refine ⟨(lnRows b avs).take k ++ (lnRows b avs).drop (k + 1), by rw [hlen, List.flatten_append]; exact ho, by rw [hlen, List.length_append, List.length_take, List.length_drop, hrl]; omega, fun i ln cs e1 e2 => ?_⟩
  by_cases hi' : i < k
  · rw [List.getElem?_append_left (by rw [List.length_take]; omega), List.getElem?_take, if_pos hi'] at e1 e2
    obtain ⟨ln', av, e3, e4, rfl⟩ := lnRows_get e2
    obtain rfl := Option.some.inj (e1.symm.trans e3)
    exact ⟨av, rfl, hu.far e1 e4⟩
  · rw [List.getElem?_append_right (by rw [List.length_take]; omega), List.getElem?_drop, List.length_take] at e1 e2
    rw [Nat.min_eq_left (by omega)] at e1
    rw [Nat.min_eq_left (by omega)] at e2
    obtain ⟨ln', av, e3, e4, rfl⟩ := lnRows_get e2
    obtain rfl := Option.some.inj (e1.symm.trans e3)
    exact ⟨av, rfl, hu.far e1 e4⟩
theorem grown_undrew {w w' : World} {r : Option Nat} (h : w.drew.grownBy w' r) : w.grownBy w' r := ⟨h.os, h.tape, h.output, h.size, h.block⟩
theorem Rd.row {w w' : World} {g p gb n c : Nat} (h : Rd w g p) (hg : w.grownBy w' (Value.slice (some ⟨gb, 0, none⟩) n c).ownBlock) (hlt : gb < w.heap.size) (hb : g < gb) : Rd w' g p :=
  h.below ((Below.refl gb w).grown hg (Nat.le_of_lt hlt) fun k hk => by cases hk; exact Nat.le_refl _) hb
/-- What is drawn: a book of whatever make. -/
def AnyBk (g p : Nat) (w : World) (e : Ending) (w' : World) : Prop :=
  ∃ (u : Value) (b : List Ln) (q : Nat), e = .returned u ∧ FarBk w' w.heap.size u b ∧ (∀ ln ∈ b, medT ln.told) ∧ b.length ≤ 41 ∧ w.grownBy w' (some g) ∧ Rd w' g q ∧ q ≤ p + 3000
theorem med_set {b : List Ln} {k : Nat} {ln : Ln} (h : ∀ x ∈ b, smallT x.told) (hn : medT ln.told) : ∀ x ∈ b.set k ln, medT x.told := fun x hx => by
  rcases List.mem_or_eq_of_mem_set hx with h1 | h1
  · exact (h x h1).med
  · rw [h1]; exact hn

set_option maxRecDepth 100000 in
set_option maxHeartbeats 8000000 in
theorem l16AnyBook_any (g p : Nat) (w : World) (h : Rd w g p) (hp : p ≤ 1000) :
    Calls Tryd.prog 28 #[.pointer (some ⟨g, 0, none⟩)] w (AnyBk g p w) := by
  have hlt := h.lt
  have HR := Lib.hid h
  clear h
  go_enter Tryd.func28, Tryd.ntmps28
  go_wp2_with fail
  refine (l16Book_any g p w HR.out (by omega)).mono ?_; rintro e w1 ⟨u, b, q, rfl, hO, hS, h4, hl, g1, r1, hq⟩
  obtain ⟨avs, hup, hrow, hbl⟩ := hO
  have hal := hup.len
  obtain ⟨A, n, c, rfl, hA⟩ := SlA.of_own hrow (lnRows_len hal) (lnRows_rows _ _)
  have hbn : b.length = n := by have := hA.len; rw [lnRows_len hal] at this; exact this
  have hcp := hA.cap
  have hmx := hA.max
  unfold maxLen at hmx
  rw [hbn] at hrow hl
  have HU := Lib.hid hup; have HO := Lib.hid hrow; have HS := Lib.hid hS; have HN := Lib.hid hbn; have HL := Lib.hid hal; have HG := Lib.hid g1; have HR1 := Lib.hid r1
  clear hup hrow hbl hA hS h4 hbn hal g1 r1
  by_cases hn0 : 0 < n
  · have hni : (0 : Int) < n := by omega
    go_wp2_with fail
    refine (pick_any g q 3 w1 HR1.out (by omega)).mono ?_; rintro e w2 ⟨k1, rfl, a1, a1', g2, r2⟩
    have HG2 := Lib.hid (HG.out.trans g2); have HR2 := Lib.hid r2
    have HU2 := Lib.hid ((HU.out.imp fun q n av xs hq ho => own_grownR ho g2 (by omega)).up g2.size); have HO2 := Lib.hid (own_grownR HO.out g2 hlt)
    clear a1' g2 r2
    by_cases hk1 : k1 = 0
    · subst hk1
      go_wp2_with fail
      refine (pick_any g (q + 1) n w2 HR2.out (by omega)).mono ?_; rintro e w3 ⟨k2, rfl, a2, a2', g3, r3⟩
      have a2'' := a2' (by omega)
      obtain ⟨k, rfl⟩ := Int.eq_ofNat_of_zero_le a2
      have HG3 := Lib.hid (HG2.out.trans g3); have HR3 := Lib.hid r3
      have HU3 := Lib.hid ((HU2.out.imp fun q n av xs hq ho => own_grownR ho g3 (by omega)).up g3.size); have HO3 := Lib.hid (own_grownR HO2.out g3 hlt)
      clear a2' g3 r3 a2
      go_wp2_with fail
      refine (pick_any g (q + 1 + 1) 4 w3 HR3.out (by omega)).mono ?_; rintro e w4 ⟨k3, rfl, a3, a3', g4, r4⟩
      have a3'' := a3' (by omega)
      have HG4 := Lib.hid (HG3.out.trans g4); have HR4 := Lib.hid r4
      have HU4 := Lib.hid ((HU3.out.imp fun q n av xs hq ho => own_grownR ho g4 (by omega)).up g4.size); have HO4 := Lib.hid (own_grownR HO3.out g4 hlt)
      clear a3' g4 r4
      obtain ⟨gb, cap, hform, hge, hgl⟩ := HO4.out.form (by omega)
      obtain ⟨rfl, rfl⟩ : A = some ⟨gb, 0, none⟩ ∧ c = cap := by simpa using hform
      have hkn : k < n := by omega
      have hrows := lnRows_rows b avs
      obtain ⟨ln, hbk⟩ : ∃ ln, b[k]? = some ln := ⟨_, List.getElem?_eq_getElem (by rw [HN.out]; exact hkn)⟩
      obtain ⟨av, hav⟩ : ∃ av, avs[k]? = some av := ⟨_, List.getElem?_eq_getElem (by rw [HL.out, HN.out]; exact hkn)⟩
      have hat := lnRows_at hbk hav
      have hgbg : gb ≠ g := by omega
      have HBK := Lib.hid hbk; have HAV := Lib.hid hav; have HAT := Lib.hid hat; have HRW := Lib.hid hrows; have HKB := Lib.hid (show k < b.length by rw [HN.out]; exact hkn)
      have hwsz : w.heap.size ≤ w4.heap.size := HG4.out.size
      clear hform hbk hav hat hrows
      obtain rfl | rfl | rfl | rfl : k3 = 0 ∨ k3 = 1 ∨ k3 = 2 ∨ k3 = 3 := by omega
      · have d4 := (HO4.out.cellAt (k * 6 + 4) (by omega)).trans (flat_get _ HRW.out k _ HAT.out 4 _ rfl)
        have f4 := HO4.out.frozenAt (k * 6 + 4)
        have hsm := (HS.out ln (List.mem_of_getElem? HBK.out)).2.2
        have h5 : ln.told.verdict ≤ 100 := by omega
        have h6 : 0 ≤ ln.told.verdict := hsm.1
        obtain ⟨o8, g8⟩ := HO4.out.stored (k * 6 + 4) (.int .i64 (ln.told.verdict + 1))
        rw [flat_set _ k 4 _ _ HRW.out HAT.out (by omega)] at o8
        have U8 := HU4.out.imp fun q n' av' xs _ h => h.kept g8 (own_kinds h HO4.out (by decide))
        have HO8 := Lib.hid o8; have HU8 := Lib.hid U8; have HG8 := Lib.hid g8; have HSM := Lib.hid hsm
        clear o8 g8 U8 hsm
        go_wp2
        go_ret
        refine ⟨_, b.set k ⟨⟨ln.told.gate, ln.told.epoch, ln.told.num, ln.told.args, ln.told.verdict + 1⟩, ln.sum⟩, _, rfl, FarBk.turn HL.out HKB.out (by rw [HN.out]; exact HO8.out) (fun i x a e1 e2 _ => HU8.out.far e1 e2) (HU8.out.far (ln := ln) HBK.out HAV.out), med_set HS.out ?_, by rw [List.length_set, HN.out]; exact hl, grown_row (n := n) (c := c) HG4.out HG8.out hge hwsz, HR4.out.far8 hgbg (by omega), by omega⟩
        have := HS.out ln (List.mem_of_getElem? HBK.out)
        exact ⟨this.med.1, this.med.2.1, ⟨by show 0 ≤ ln.told.verdict + 1; omega, by show ln.told.verdict + 1 ≤ 20; have := HSM.out.2; omega⟩⟩
      · obtain ⟨ln0, hb0⟩ : ∃ ln0, b[0]? = some ln0 := ⟨_, List.getElem?_eq_getElem (by rw [HN.out]; exact hn0)⟩
        obtain ⟨av0, hav0⟩ : ∃ av0, avs[0]? = some av0 := ⟨_, List.getElem?_eq_getElem (by rw [HL.out, HN.out]; exact hn0)⟩
        have e5 := (HO4.out.cellAt (0 * 6 + 5) (by omega)).trans (flat_get _ HRW.out 0 _ (lnRows_at hb0 hav0) 5 _ rfl)
        rw [Nat.zero_mul, Nat.zero_add] at e5
        have d5 := (HO4.out.cellAt (k * 6 + 5) (by omega)).trans (flat_get _ HRW.out k _ HAT.out 5 _ rfl)
        have f5 := HO4.out.frozenAt (k * 6 + 5)
        obtain ⟨o8, g8⟩ := HO4.out.stored (k * 6 + 5) (.string ⟨ln0.sum.toArray⟩)
        rw [flat_set _ k 5 _ _ HRW.out HAT.out (by omega)] at o8
        have U8 := HU4.out.imp fun q n' av' xs _ h => h.kept g8 (own_kinds h HO4.out (by decide))
        have HO8 := Lib.hid o8; have HU8 := Lib.hid U8; have HG8 := Lib.hid g8
        clear o8 g8 U8 hb0 hav0
        go_wp2
        go_ret
        exact ⟨_, b.set k ⟨ln.told, ln0.sum⟩, _, rfl, FarBk.turn HL.out HKB.out (by rw [HN.out]; exact HO8.out) (fun i x a e1 e2 _ => HU8.out.far e1 e2) (HU8.out.far (ln := ln) HBK.out HAV.out), med_set HS.out (HS.out ln (List.mem_of_getElem? HBK.out)).med, by rw [List.length_set, HN.out]; exact hl, grown_row (n := n) (c := c) HG4.out HG8.out hge hwsz, HR4.out.far8 hgbg (by omega), by omega⟩
      · go_wp2_with fail
        refine (l11AnyCall_any g (q + 1 + 1 + 1) w4 HR4.out (by omega)).mono ?_; rintro e w5 ⟨nm, v5, xs5, q5, rfl, hF, g5, r5, hq5⟩
        have HO5 := Lib.hid (own_grownR HO4.out g5 hlt); have HU5 := Lib.hid ((HU4.out.imp fun q n av xs hq ho => own_grownR ho g5 (by omega)).up g5.size)
        have HF5 := Lib.hid hF; have HG5 := Lib.hid (HG4.out.trans g5); have HR5 := Lib.hid r5
        have hwsz5 : w.heap.size ≤ w5.heap.size := HG5.out.size
        obtain ⟨A5, n5, c5, rfl, -, -⟩ := hF
        have d2 := (HO5.out.cellAt (k * 6 + 2) (by omega)).trans (flat_get _ HRW.out k _ HAT.out 2 _ rfl)
        have d3 := (HO5.out.cellAt (k * 6 + 3) (by omega)).trans (flat_get _ HRW.out k _ HAT.out 3 _ rfl)
        have f2 := HO5.out.frozenAt (k * 6 + 2); have f3 := HO5.out.frozenAt (k * 6 + 3)
        obtain ⟨av9, hav9⟩ : ∃ x, x = av := ⟨_, rfl⟩
        obtain ⟨o8, g8⟩ := HO5.out.stored (k * 6 + 2) (.int .i64 nm)
        rw [flat_set _ k 2 _ _ HRW.out HAT.out (by omega)] at o8
        obtain ⟨o9, g9⟩ := o8.stored (k * 6 + 3) (.slice A5 n5 c5)
        rw [flat_set _ k 3 _ _ (set_rows HRW.out rfl) (List.getElem?_set_self (by have := (List.getElem?_eq_some_iff.1 HAT.out).1; exact this)) (by omega), List.set_set] at o9
        have G9 := g8.trans g9
        have U9 := HU5.out.imp fun q n' av' xs _ h => h.kept G9 (own_kinds h HO5.out (by decide))
        have F9 := HF5.out.grown G9 hgl
        have HO9 := Lib.hid o9; have HU9 := Lib.hid U9; have HG9 := Lib.hid G9; have HF9 := Lib.hid F9
        clear o8 o9 g8 g9 G9 U9 F9 g5 r5 hav9
        go_wp2
        go_ret
        exact ⟨_, b.set k ⟨⟨ln.told.gate, ln.told.epoch, nm, xs5, ln.told.verdict⟩, ln.sum⟩, _, rfl, FarBk.turn HL.out HKB.out (by rw [HN.out]; exact HO9.out) (fun i x a e1 e2 _ => HU9.out.far e1 e2) (HF9.out.low hwsz), med_set HS.out (HS.out ln (List.mem_of_getElem? HBK.out)).med, by rw [List.length_set, HN.out]; exact hl, grown_row (n := n) (c := c) HG5.out HG9.out hge hwsz5, (HR5.out.far8 hgbg (by omega)).far8 hgbg (by omega), by omega⟩
      · have hkc : (k : Int) ≤ c := by omega
        have hk1n : ((k + 1 : Nat) : Int) ≤ n := by omega
        have HTK := Lib.hid (own_takeR (e := 32) HO4.out.drew ((lnRows_len HL.out).trans HN.out) HRW.out (Nat.le_of_lt hkn))
        have HONE := Lib.hid (show ∀ x ∈ ((lnRows b avs).drop (k + 1)).flatten, x.oneCell' = true from fun x hx => by obtain ⟨r, hr, hx⟩ := List.mem_flatten.1 hx; exact lnRows_one HU4.out.one r (List.mem_of_mem_drop hr) x hx)
        have hDL : ((lnRows b avs).drop (k + 1)).flatten.length = (n - (k + 1)) * 6 := by rw [flat_len _ (fun r hr => HRW.out r (List.mem_of_mem_drop hr)), List.length_drop, lnRows_len HL.out, HN.out]
        have hDC : ∀ (j : Nat) (x : Value), ((lnRows b avs).drop (k + 1)).flatten[j]? = some x → w4.drew.cell? ((⟨gb, (k + 1) * 6, none⟩ : Addr).add j) = some x := fun j x hx => by
          rw [flat_drop _ _ HRW.out, List.getElem?_drop] at hx
          have hj := (List.getElem?_eq_some_iff.1 hx).1
          rw [HO4.out.1] at hj
          rw [Addr.add_mid]
          exact (HO4.out.cellAt _ hj).trans hx
        have hsrcX : ∃ src : Value, (∀ W : World, (Instr.slice 23 (.slice (some ⟨gb, 0, none⟩) n c) (some (.int .i64 ((k : Int) + 1))) none none).run Tryd.prog W = .ok src W) ∧ ∃ (sa : Addr) (sc : Nat), src = .slice (some sa) (n - (k + 1)) sc ∧ ∀ (j : Nat) (x : Value), ((lnRows b avs).drop (k + 1)).flatten[j]? = some x → w4.drew.cell? (sa.add j) = some x := by
          by_cases hc : c = k + 1
          · refine ⟨_, fun W => by rw [hc]; exact run_slEL gb n (k + 1) hk1n W, ⟨gb, 0, none⟩, _, rfl, fun j x hx => ?_⟩
            have := (List.getElem?_eq_some_iff.1 hx).1
            rw [hDL] at this
            omega
          · exact ⟨_, fun W => run_slLL gb n c (k + 1) hk1n hc W, ⟨gb, (k + 1) * 6, none⟩, _, rfl, hDC⟩
        obtain ⟨src, hsrc, sa, sc, rfl, hsn⟩ := hsrcX
        have hslH := run_slHL gb n c k hkc
        have HSN := Lib.hid hsn; have HDL := Lib.hid hDL
        clear hsn hDL hDC
        go_wp2
        refine wp_region_rel (delT w.heap.size b avs n k gb c sa sc) (fun _ => none) (fun L _ w' => (L 7 = false → w' = w4.drew) ∧ w4.drew.grownBy w' (Value.slice (some ⟨gb, 0, none⟩) k c).ownBlock) delR (by kernel_rfl) (by kernel_rfl) ⟨fun _ => rfl, World.grownBy.refl _ _⟩ ?_ ?_
        · intro i j wa wb u hji hcj hwj hR hT
          rcases hR with rfl | rfl
          · match j, hji, hwj, hT with
            | 0, _, _, h => exact h
            | 1, _, _, h => exact h
            | 2, _, _, h => exact h
            | 3, _, _, h => exact h
            | 4, _, _, h => exact h
            | 5, _, _, h => exact h
            | 6, _, _, h => exact h
            | 7, h, _, _ => exact absurd rfl h
            | 8, _, h, _ => exact (Bool.false_ne_true (h.symm.trans (by kernel_rfl))).elim
            | (m + 9), _, _, h => exact h
          · exact hT
        · refine wpRel_step [] (by kernel_rfl) (fun L kk w9 vals hk hw hun hcl hdl hT => ?_) ?_
          · have HW := Lib.hid hw
            clear hw hun hcl hdl hT
            simp only [fillR, Act.put, List.setIfInBounds_toArray, List.set_cons_succ, List.set_cons_zero]
            go_wp2
            exact ⟨_, rfl, rfl, ⟨fun h => HW.out.1 (by simpa [putL] using h), HW.out.2⟩, .inr rfl, fun _ => rfl⟩
          refine wpRel_step [] (by kernel_rfl) (fun L kk w9 vals hk hw hun hcl hdl hT => ?_) ?_
          · have HW := Lib.hid hw
            clear hw hun hcl hdl hT
            simp only [fillR, Act.put, List.setIfInBounds_toArray, List.set_cons_succ, List.set_cons_zero]
            go_wp2
            exact ⟨_, rfl, rfl, ⟨fun h => HW.out.1 (by simpa [putL] using h), HW.out.2⟩, .inr rfl, fun _ => rfl⟩
          refine wpRel_step [21, 22] (by kernel_rfl) (fun L kk w9 vals hk hw hun hcl hdl hT => ?_) ?_
          · have t0 := hT 0 21 (by kernel_rfl) (.inl rfl)
            have t1 := hT 1 22 (by kernel_rfl) (.inl rfl)
            have HW := Lib.hid hw
            clear hw hun hcl hdl hT
            simp only [fillR, Act.put, List.setIfInBounds_toArray, List.set_cons_succ, List.set_cons_zero]
            rw [show vals 21 = Value.slice (some ⟨gb, 0, none⟩) n c from t0]
            rw [show vals 22 = Value.int .i64 k from t1]
            clear t0 t1
            go_wp2
            exact ⟨_, rfl, rfl, ⟨fun h => HW.out.1 (by simpa [putL] using h), HW.out.2⟩, .inr rfl, fun _ => rfl⟩
          refine wpRel_step [] (by kernel_rfl) (fun L kk w9 vals hk hw hun hcl hdl hT => ?_) ?_
          · have HW := Lib.hid hw
            clear hw hun hcl hdl hT
            simp only [fillR, Act.put, List.setIfInBounds_toArray, List.set_cons_succ, List.set_cons_zero]
            go_wp2
            exact ⟨_, rfl, rfl, ⟨fun h => HW.out.1 (by simpa [putL] using h), HW.out.2⟩, .inr rfl, fun _ => rfl⟩
          refine wpRel_step [] (by kernel_rfl) (fun L kk w9 vals hk hw hun hcl hdl hT => ?_) ?_
          · have HW := Lib.hid hw
            clear hw hun hcl hdl hT
            simp only [fillR, Act.put, List.setIfInBounds_toArray, List.set_cons_succ, List.set_cons_zero]
            go_wp2
            exact ⟨_, rfl, rfl, ⟨fun h => HW.out.1 (by simpa [putL] using h), HW.out.2⟩, .inr rfl, fun _ => rfl⟩
          refine wpRel_step [25] (by kernel_rfl) (fun L kk w9 vals hk hw hun hcl hdl hT => ?_) ?_
          · have t4 := hT 4 25 (by kernel_rfl) (.inl rfl)
            have HW := Lib.hid hw
            clear hw hun hcl hdl hT
            simp only [fillR, Act.put, List.setIfInBounds_toArray, List.set_cons_succ, List.set_cons_zero]
            rw [show vals 25 = Value.int .i64 k from t4]
            clear t4
            go_wp2
            exact ⟨_, rfl, rfl, ⟨fun h => HW.out.1 (by simpa [putL] using h), HW.out.2⟩, .inr rfl, fun _ => rfl⟩
          refine wpRel_step [24, 26] (by kernel_rfl) (fun L kk w9 vals hk hw hun hcl hdl hT => ?_) ?_
          · have t3 := hT 3 24 (by kernel_rfl) (.inl rfl)
            have t5 := hT 5 26 (by kernel_rfl) (.inl rfl)
            have HW := Lib.hid hw
            clear hw hun hcl hdl hT
            simp only [fillR, Act.put, List.setIfInBounds_toArray, List.set_cons_succ, List.set_cons_zero]
            rw [show vals 24 = Value.slice (some ⟨gb, 0, none⟩) n c from t3]
            rw [show vals 26 = Value.int .i64 ((k : Int) + 1) from t5]
            clear t3 t5
            go_wp2
            exact ⟨_, rfl, rfl, ⟨fun h => HW.out.1 (by simpa [putL] using h), HW.out.2⟩, .inr rfl, fun _ => rfl⟩
          refine wpRel_step [23, 27] (by kernel_rfl) (fun L kk w9 vals hk hw hun hcl hdl hT => ?_) ?_
          · have t2 := hT 2 23 (by kernel_rfl) (.inl rfl)
            have t6 := hT 6 27 (by kernel_rfl) (.inl rfl)
            have h7 := hw.1 hun
            subst h7
            clear hw hun hcl hdl hT
            simp only [fillR, Act.put, List.setIfInBounds_toArray, List.set_cons_succ, List.set_cons_zero]
            rw [show vals 23 = Value.slice (some ⟨gb, 0, none⟩) k c from t2]
            rw [show vals 27 = Value.slice (some sa) (n - (k + 1)) sc from t6]
            clear t2 t6
            obtain ⟨i0, hi0, hz0, hz1, hz2⟩ := info_parts info_LineM
            have HI0 := Lib.hid hi0; have HZ0 := Lib.hid hz0; have HZ1 := Lib.hid hz1; have HZ2 := Lib.hid hz2
            clear hi0 hz0 hz1 hz2 hsrc hslH
            go_wp2_with (at_builtin; go_must (refine wpList_append_own _ rfl (.tmp 23) (.tmp 27) _ rfl w.heap.size 32 i0 _ 6 72 Tryd.underlying23 HI0.out HZ0.out HZ1.out HZ2.out rfl (by omega) _ k ((lnRows b avs).take k).flatten rfl HTK.out sa (n - (k + 1)) sc ((lnRows b avs).drop (k + 1)).flatten rfl HDL.out HSN.out HONE.out (by unfold maxLen; omega) (by omega) hwsz ?_); intro v7 w7 hown7 hg7 _; have HO7 := Lib.hid hown7; have HG7 := Lib.hid hg7; clear hown7 hg7)
            exact ⟨_, rfl, rfl, ⟨fun h => by simp [putL] at h, HG7.out⟩, .inl rfl, fun _ => HO7.out⟩
          refine wpRel_step [28] (by kernel_rfl) (fun L kk w9 vals hk hw hun hcl hdl hT => ?_) ?_
          · have t7 := hT 7 28 (by kernel_rfl) (.inl rfl)
            have HW := Lib.hid hw; have HT7 := Lib.hid t7
            obtain ⟨u1, hu1⟩ : ∃ u1, u1 = vals 28 := ⟨_, rfl⟩
            clear hw hun hcl hdl hT t7
            simp only [fillR, Act.put, List.setIfInBounds_toArray, List.set_cons_succ, List.set_cons_zero]
            rw [← hu1]
            rw [← hu1] at HT7
            clear hu1
            go_wp2
            exact ⟨_, rfl, rfl, ⟨fun h => HW.out.1 (by simpa [putL] using h), HW.out.2⟩, .inr rfl, fun _ => HT7.out⟩
          refine wpRel_end [21, 22, 23, 24, 25, 26, 27, 28, 3] (by kernel_rfl) (fun L w9 vals _ hw hT => ?_)
          have t8 := hT 8 3 (by kernel_rfl) rfl
          simp only [fillR, Act.put, List.setIfInBounds_toArray, List.set_cons_succ, List.set_cons_zero]
          have HW := Lib.hid (grown_undrew hw.2); have HT8 := Lib.hid (show w9.ownsRow w.heap.size 32 6 (vals 3) (k + (n - (k + 1))) (((lnRows b avs).take k).flatten ++ ((lnRows b avs).drop (k + 1)).flatten) from t8)
          obtain ⟨u1, hu1⟩ : ∃ u1, u1 = vals 3 := ⟨_, rfl⟩
          rw [← hu1]
          rw [← hu1] at HT8
          clear t8 hw hT hu1 hsrc hslH
          go_wp2
          go_ret
          have hG9 : w.grownBy w9 (some g) := grown_row (n := k) (c := c) HG4.out HW.out hge hwsz
          have hU9 := HU4.out.imp (w' := w9) fun q n' av' xs _ h => h.kept HW.out (own_kinds (v' := .slice (some ⟨gb, 0, none⟩) k c) h HTK.out (by decide))
          exact ⟨_, b.take k ++ b.drop (k + 1), _, rfl, far_del HL.out HKB.out HN.out HT8.out hU9, med_del HS.out, by rw [List.length_append, List.length_take, List.length_drop, HN.out]; omega, hG9, HR4.out.row HW.out hgl (by omega), by omega⟩
    · have hk1' : (k1 == 0) = false := by simpa using hk1
      go_wp2
      go_ret
      exact ⟨_, b, _, rfl, (show OwnBk w2 w.heap.size w2.heap.size _ b from ⟨avs, HU2.out, by rw [HN.out]; exact HO2.out, fun y hy => (HO2.out.lt y hy).2⟩).far, fun ln hm => (HS.out ln hm).med, by rw [HN.out]; exact hl, HG2.out, HR2.out, by omega⟩
  · have hni : ¬ (0 : Int) < n := by omega
    go_wp2
    go_ret
    exact ⟨_, b, _, rfl, (show OwnBk w1 w.heap.size w1.heap.size _ b from ⟨avs, HU.out, by rw [HN.out]; exact HO.out, fun y hy => (HO.out.lt y hy).2⟩).far, fun ln hm => (HS.out ln hm).med, by rw [HN.out]; exact hl, HG.out, HR1.out, by omega⟩
end Go.Proofs.YtaieopdfkapgdaaDoor
