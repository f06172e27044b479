/- Books that are torn: what a changed or a missing line says of the sums, in plain Lean; copies of a book, line by line. -/
import Derived.Test.YtaieopdfkapgdaaDoorTornA
import Derived.Test.YtaieopdfkapgdaaDoorDrawBook3
namespace Go.Proofs.YtaieopdfkapgdaaDoor
open Go.RowKit
set_option linter.unusedSimpArgs false
set_option linter.unusedVariables false

/-- The rows of a book's cells, line by line. -/
def PairIs (w : World) (b : List Ln) (css : List (List Value)) : Prop := css.length = b.length ∧ ∀ (i : Nat) (ln : Ln) (cs : List Value), b[i]? = some ln → css[i]? = some cs → LnIs w ln cs
theorem PairIs.next {w w' : World} {b : List Ln} {css : List (List Value)} (h : PairIs w b css) (hb : Below w.heap.size w w') : PairIs w' b css := ⟨h.1, fun i ln cs e1 e2 => (h.2 i ln cs e1 e2).below hb⟩
theorem LnIs.row {w : World} {ln : Ln} {cs : List Value} (h : LnIs w ln cs) : cs.length = 6 ∧ ∀ u ∈ cs, u.oneCell' = true := by
  obtain ⟨av, rfl, ⟨A, n, c, rfl, _⟩, _⟩ := h
  refine ⟨rfl, fun u hu => ?_⟩
  simp at hu
  rcases hu with rfl | rfl | rfl | rfl | rfl | rfl <;> rfl
theorem PairIs.row {w : World} {b : List Ln} {css : List (List Value)} (h : PairIs w b css) : ∀ r ∈ css, r.length = 6 ∧ ∀ u ∈ r, u.oneCell' = true := fun r hr => by
  obtain ⟨i, hi⟩ := List.mem_iff_getElem?.1 hr
  have hil := (List.getElem?_eq_some_iff.1 hi).1
  have hib : i < b.length := by have := h.1; omega
  exact (h.2 i b[i] r (List.getElem?_eq_getElem hib) hi).row
theorem PairIs.rows {w : World} {b : List Ln} {css : List (List Value)} (h : PairIs w b css) : ∀ r ∈ css, r.length = 6 := fun r hr => (h.row r hr).1
theorem PairIs.one {w : World} {b : List Ln} {css : List (List Value)} (h : PairIs w b css) : ∀ u ∈ css.flatten, u.oneCell' = true := fun u hu => by
  obtain ⟨r, hr, hu⟩ := List.mem_flatten.1 hu
  exact (h.row r hr).2 u hu
theorem PairIs.set {w : World} {b : List Ln} {css : List (List Value)} {k : Nat} {ln : Ln} {cs : List Value} (h : PairIs w b css) (hn : LnIs w ln cs) : PairIs w (b.set k ln) (css.set k cs) := by
  refine ⟨by rw [List.length_set, List.length_set, h.1], fun i l c e1 e2 => ?_⟩
  by_cases e : k = i
  · subst e
    rw [List.getElem?_set] at e1 e2
    split at e1
    · split at e1
      · rw [if_pos (by assumption), if_pos (by have := h.1; omega)] at e2
        cases e1; cases e2
        exact hn
      · cases e1
    · exact absurd rfl (by assumption)
  · rw [List.getElem?_set_ne e] at e1 e2
    exact h.2 i l c e1 e2
theorem PairIs.take {w : World} {b : List Ln} {css : List (List Value)} (h : PairIs w b css) (k : Nat) : PairIs w (b.take k) (css.take k) := by
  refine ⟨by rw [List.length_take, List.length_take, h.1], fun i l c e1 e2 => ?_⟩
  rw [List.getElem?_take] at e1 e2
  split at e1
  · rw [if_pos (by assumption)] at e2
    exact h.2 i l c e1 e2
  · cases e1
theorem PairIs.drop {w : World} {b : List Ln} {css : List (List Value)} (h : PairIs w b css) (k : Nat) : PairIs w (b.drop k) (css.drop k) := by
  refine ⟨by rw [List.length_drop, List.length_drop, h.1], fun i l c e1 e2 => ?_⟩
  rw [List.getElem?_drop] at e1 e2
  exact h.2 _ l c e1 e2
theorem PairIs.append {w : World} {a b : List Ln} {cs ds : List (List Value)} (h : PairIs w a cs) (h2 : PairIs w b ds) : PairIs w (a ++ b) (cs ++ ds) := by
  refine ⟨by rw [List.length_append, List.length_append, h.1, h2.1], fun i l c e1 e2 => ?_⟩
  by_cases hi : i < a.length
  · rw [List.getElem?_append_left hi] at e1
    rw [List.getElem?_append_left (by have := h.1; omega)] at e2
    exact h.2 i l c e1 e2
  · rw [List.getElem?_append_right (by omega)] at e1
    rw [List.getElem?_append_right (by have := h.1; omega), h.1] at e2
    exact h2.2 _ l c e1 e2
theorem PairIs.is {w : World} {base n : Nat} {v : Value} {b : List Ln} {css : List (List Value)} (h : PairIs w b css) (hn : b.length = n) (ho : w.ownsRow base 32 6 v n css.flatten) : BookIs w v b := by
  obtain ⟨A, n', c, rfl, hA⟩ := SlA.of_own ho (h.1.trans hn) h.rows
  exact ⟨A, n', c, css, rfl, hA, h.1, h.2⟩
theorem FarBk.pairs {w : World} {base : Nat} {v : Value} {b : List Ln} (h : FarBk w base v b) (hok : ∀ ln ∈ b, ln.told.ok) : ∃ css, w.ownsRow base 32 6 v b.length css.flatten ∧ PairIs w b css := by
  obtain ⟨css, h1, h2, h3⟩ := h
  refine ⟨css, h1, h2, fun i ln cs e1 e2 => ?_⟩
  obtain ⟨av, rfl, hf⟩ := h3 i ln cs e1 e2
  exact ⟨av, rfl, hf.sl, hok ln (List.mem_of_getElem? e1)⟩
/-- A line of a book, cell by cell. -/
theorem BookIs.line {w : World} {v : Value} {b : List Ln} {k : Nat} {ln : Ln} (h : BookIs w v b) (hk : b[k]? = some ln) : ∃ g off c av, v = .slice (some ⟨g, off, none⟩) b.length c ∧ b.length ≤ c ∧ c ≤ maxLen ∧ g < w.heap.size ∧ Sl w 1 av (ints ln.told.args) ∧ ln.told.ok ∧
      w.cell? ⟨g, off + k * 6, none⟩ = some (.int .i64 ln.told.gate) ∧ w.cell? ⟨g, off + k * 6 + 1, none⟩ = some (.int .i64 ln.told.epoch) ∧ w.cell? ⟨g, off + k * 6 + 2, none⟩ = some (.int .i64 ln.told.num) ∧
      w.cell? ⟨g, off + k * 6 + 3, none⟩ = some av ∧ w.cell? ⟨g, off + k * 6 + 4, none⟩ = some (.int .i64 ln.told.verdict) ∧ w.cell? ⟨g, off + k * 6 + 5, none⟩ = some (.string ⟨ln.sum.toArray⟩) := by
  obtain ⟨A, n, c, css, rfl, hA, hcl, hli⟩ := h
  have hn : n = b.length := by have := hA.len; omega
  subst hn
  have hkn := (List.getElem?_eq_some_iff.1 hk).1
  obtain ⟨g, off, ln2, av, rfl, hg, hbk, hs, hok, x0, x1, x2, x3, x4, x5⟩ := book_get hA hcl hli hkn
  obtain rfl := Option.some.inj (hk.symm.trans hbk)
  exact ⟨g, off, c, av, rfl, hA.cap, hA.max, hg, hs, hok, x0, x1, x2, x3, x4, x5⟩

theorem SlA.take {w : World} {size : Nat} {A : Option Addr} {n c k : Nat} {cs : List (List Value)} (h : SlA w size A n c cs) (hk : k ≤ n) : SlA w size A k c (cs.take k) := by
  have h1 := h.len; have h2 := h.cap; have h3 := h.max
  refine ⟨by simp; omega, by omega, h3, fun h0 => ?_⟩
  obtain ⟨b, off, e, hb, he⟩ := h.at_ (by omega)
  refine ⟨b, off, e, hb, fun i r hr j v hv => he i r ?_ j v hv⟩
  rw [List.getElem?_take] at hr
  split at hr
  · exact hr
  · cases hr
theorem BookIs.take {w : World} {A : Option Addr} {n c k : Nat} {b : List Ln} (h : BookIs w (.slice A n c) b) (hk : k ≤ n) : BookIs w (.slice A k c) (b.take k) := by
  obtain ⟨A', n', c', css, e, hA, hl, hi⟩ := h
  obtain ⟨rfl, rfl, rfl⟩ : A = A' ∧ n = n' ∧ c = c' := by simpa using e
  refine ⟨A, k, c, css.take k, rfl, hA.take hk, by simp [hl], fun i ln cs e1 e2 => ?_⟩
  rw [List.getElem?_take] at e1 e2
  split at e1
  · rw [if_pos (by assumption)] at e2
    exact hi i ln cs e1 e2
  · cases e1
theorem BookIs.slice {w : World} {v : Value} {b : List Ln} (h : BookIs w v b) : ∃ A n c, v = .slice A n c ∧ n = b.length ∧ n ≤ c ∧ c ≤ maxLen := by
  obtain ⟨A, n, c, css, rfl, hA, hcl, hli⟩ := h
  have := hA.len
  exact ⟨A, n, c, rfl, by omega, hA.cap, hA.max⟩

/-! What the sums say. -/
def Tl.upV (t : Tl) : Tl := ⟨t.gate, t.epoch, t.num, t.args, t.verdict + 1⟩
def Tl.upG (t : Tl) : Tl := ⟨t.gate + 1, t.epoch, t.num, t.args, t.verdict⟩
def Tl.upE (t : Tl) : Tl := ⟨t.gate, t.epoch + 1, t.num, t.args, t.verdict⟩
theorem itoa_next {n : Int} (h : 0 ≤ n) : Lib.itoa n ≠ Lib.itoa (n + 1) := fun e => by
  have h1 := itoa_valOn n h
  have h2 := itoa_valOn (n + 1) (by omega)
  rw [e, h2] at h1
  omega
theorem told_upV (L : List UInt8) {t : Tl} (h : 0 ≤ t.verdict) : toldText L t ≠ toldText L t.upV := fun e => itoa_next h (by simpa [toldText, Tl.upV] using e)
theorem told_upG (L : List UInt8) {t : Tl} (h : 0 ≤ t.gate) : toldText L t ≠ toldText L t.upG := fun e => itoa_next h (by simpa [toldText, Tl.upG] using e)
theorem told_upE (L : List UInt8) {t : Tl} (h : 0 ≤ t.epoch) : toldText L t ≠ toldText L t.upE := fun e => itoa_next h (by simpa [toldText, Tl.upE] using e)
theorem told_last {a b : List UInt8} {t : Tl} (e : toldText a t = toldText b t) : a = b := by simpa [toldText] using e
theorem good_at {b : List Ln} {k : Nat} {ln : Ln} (h : goodL [] b) (hk : b[k]? = some ln) : ln.sum = lineHash (lastOf [] (b.take k)) ln.told := ((goodL_next hk).1 (goodL_take h (k + 1))).2.2
/-- One line is another one, with the same sum. -/
theorem torn_clash {b : List Ln} {k : Nat} {ln : Ln} {t : Tl} {L : List UInt8} (h : bookOk b) (hk : b[k]? = some ln) (hL : L = lastOf [] (b.take k)) (ht : toldText L ln.told ≠ toldText L t) (h2 : bookOkB (b.set k ⟨t, ln.sum⟩) = true) : clashB (toldText L ln.told) (toldText L t) = true := by
  have hkn := (List.getElem?_eq_some_iff.1 hk).1
  have e1 := good_at h.1 hk
  have e2 := good_at (ln := ⟨t, ln.sum⟩) (k := k) (bookOkB_iff.1 h2).1 (List.getElem?_set_self hkn)
  rw [List.take_set_of_le (Nat.le_refl _)] at e2
  rw [← hL] at e1 e2
  exact clashB_iff.2 ⟨ht, (show hashText (toldText L ln.told) = hashText (toldText L t) from e1.symm.trans e2)⟩
/-- One line is not there. -/
theorem less_clash {b : List Ln} {k : Nat} {ln ln2 : Ln} {L : List UInt8} (h : bookOk b) (hk : b[k]? = some ln) (hk2 : b[k + 1]? = some ln2) (hL : L = lastOf [] (b.take k)) (hd : L ≠ ln.sum) (h2 : bookOkB (b.take k ++ b.drop (k + 1)) = true) : clashB (toldText ln.sum ln2.told) (toldText L ln2.told) = true := by
  have hkn := (List.getElem?_eq_some_iff.1 hk).1
  have hkl : (b.take k).length = k := by rw [List.length_take]; omega
  have e1 := good_at h.1 hk2
  rw [lastOf_next hk] at e1
  have e3 : (b.take k ++ b.drop (k + 1))[k]? = some ln2 := by
    rw [List.getElem?_append_right (by omega), hkl, List.getElem?_drop]
    simpa using hk2
  have e2 := good_at (bookOkB_iff.1 h2).1 e3
  rw [List.take_append_of_le_length (by omega), List.take_take, Nat.min_self, ← hL] at e2
  exact clashB_iff.2 ⟨fun e => hd (told_last e).symm, (show hashText (toldText ln.sum ln2.told) = hashText (toldText L ln2.told) from e1.symm.trans e2)⟩
theorem take_ok {b : List Ln} (h : bookOk b) (k : Nat) : bookOkB (b.take k) = true := bookOkB_iff.2 ⟨goodL_take h.1 k, by have := h.2; rw [List.length_take]; omega⟩
theorem sum_len {b : List Ln} {k : Nat} {ln : Ln} (h : bookOk b) (hk : b[k]? = some ln) : ln.sum.length = 64 := by rw [good_at h.1 hk]; exact lineHash_len _ _
theorem last_len {b : List Ln} {k : Nat} (h : bookOk b) : (lastOf [] (b.take k)).length ≤ 64 := goodL_last [] _ (by simp) (goodL_take h.1 k)

/-- A line's cells. -/
theorem cells_at {W : World} {gb k : Nat} {css : List (List Value)} {ln : Ln} {av : Value} (hs : ∀ (j : Nat) (u : Value), css.flatten[j]? = some u → W.cell? ((⟨gb, 0, none⟩ : Addr).add j) = some u) (hr : ∀ r ∈ css, r.length = 6) (hat : css[k]? = some [.int .i64 ln.told.gate, .int .i64 ln.told.epoch, .int .i64 ln.told.num, av, .int .i64 ln.told.verdict, .string ⟨ln.sum.toArray⟩]) :
    W.cell? ⟨gb, k * 6, none⟩ = some (.int .i64 ln.told.gate) ∧ W.cell? ⟨gb, k * 6 + 1, none⟩ = some (.int .i64 ln.told.epoch) ∧ W.cell? ⟨gb, k * 6 + 2, none⟩ = some (.int .i64 ln.told.num) ∧ W.cell? ⟨gb, k * 6 + 3, none⟩ = some av ∧ W.cell? ⟨gb, k * 6 + 4, none⟩ = some (.int .i64 ln.told.verdict) ∧ W.cell? ⟨gb, k * 6 + 5, none⟩ = some (.string ⟨ln.sum.toArray⟩) := by
  have go : ∀ (q : Nat) (v : Value), [Value.int .i64 ln.told.gate, .int .i64 ln.told.epoch, .int .i64 ln.told.num, av, .int .i64 ln.told.verdict, .string ⟨ln.sum.toArray⟩][q]? = some v → W.cell? ⟨gb, k * 6 + q, none⟩ = some v := fun q v hv => by
    have h := hs _ _ (flat_get css hr k _ hat q v hv)
    rw [Addr.add_mid] at h
    simpa using h
  exact ⟨go 0 _ rfl, go 1 _ rfl, go 2 _ rfl, go 3 _ rfl, go 4 _ rfl, go 5 _ rfl⟩
/-- What each operation yields where a line is left out of a copy. -/
def lessT (lo N k gb cb : Nat) (sa : Addr) (sc : Nat) (css : List (List Value)) : Nat → World → Value → Prop
  | 0, _, u => u = .slice (some ⟨lo, 0, none⟩) 0 0
  | 1, _, u => u = .slice (some ⟨gb, 0, none⟩) N cb
  | 2, _, u => u = .int .i64 k
  | 3, _, u => u = .slice (some ⟨gb, 0, none⟩) k cb
  | 4, w, u => w.ownsRow lo 32 6 u k (css.take k).flatten
  | 5, _, u => u = .slice (some ⟨gb, 0, none⟩) N cb
  | 6, _, u => u = .int .i64 k
  | 7, _, u => u = .int .i64 ((k : Int) + 1)
  | 8, _, u => u = .slice (some sa) (N - (k + 1)) sc
  | 9, w, u => w.ownsRow lo 32 6 u (k + (N - (k + 1))) ((css.take k).flatten ++ (css.drop (k + 1)).flatten)
  | 10, w, u => w.ownsRow lo 32 6 u (k + (N - (k + 1))) ((css.take k).flatten ++ (css.drop (k + 1)).flatten)
  | _, _, _ => True
def lessR (i : Nat) (w w' : World) : Prop := (i = 0 ∨ i = 4 ∨ i = 9) ∨ w = w'
def lessC : Nat → Option Nat
  | 4 => some 9
  | _ => none
def lessI (Z : World) (L : Nat → Bool) (_ : Nat) (w : World) : Prop :=
  (L 0 = false → w = Z.drew) ∧ (L 0 = true → L 4 = false → w = Z.drew.alloc (.cells #[] 32)) ∧ (L 4 = true → L 0 = true) ∧ Below Z.heap.size Z w
theorem lessI.put {Z w : World} {L : Nat → Bool} {k k' i : Nat} (h : lessI Z L k w) (h0 : i ≠ 0) (h4 : i ≠ 4) : lessI Z (putL L i) k' w := by
  have e0 : putL L i 0 = L 0 := by unfold putL; simp [Ne.symm h0]
  have e4 : putL L i 4 = L 4 := by unfold putL; simp [Ne.symm h4]
  unfold lessI
  rw [e0, e4]
  exact h
end Go.Proofs.YtaieopdfkapgdaaDoor
