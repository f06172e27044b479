/- How the laws draw programs of which one place is another one: l11Bent. -/
import Derived.Test.YtbgoppfanibdiaaDoorDrawCode
import Derived.Deep.RegionHeld3
namespace Go.Proofs.YtbgoppfanibdiaaDoor
open Go.RowKit
set_option linter.unusedSimpArgs false
set_option linter.unusedVariables false

theorem run_slH (b N c k : Nat) (hk : (k : Int) ≤ c) (W : World) : (Instr.slice 34 (.slice (some ⟨b, 0, none⟩) N c) none (some (.int .i64 (k : Int))) none).run Tryd.prog W = .ok (.slice (some ⟨b, 0, none⟩) k c) W := by
  have h0 : (0 : Int) ≤ k := by omega
  simp [go_sem, hk, h0]
theorem run_slL (b N c k : Nat) (hk : (k : Int) ≤ N) (hc : c ≠ k) (W : World) : (Instr.slice 34 (.slice (some ⟨b, 0, none⟩) N c) (some (.int .i64 (k : Int))) none none).run Tryd.prog W = .ok (.slice (some ⟨b, k * 4, none⟩) (N - k) (c - k)) W := by
  have h0 : (0 : Int) ≤ k := by omega
  simp [go_sem, hk, h0, hc]
theorem run_slE (b N k : Nat) (hk : (k : Int) ≤ N) (W : World) : (Instr.slice 34 (.slice (some ⟨b, 0, none⟩) N k) (some (.int .i64 (k : Int))) none none).run Tryd.prog W = .ok (.slice (some ⟨b, 0, none⟩) (N - k) (k - k)) W := by
  have h0 : (0 : Int) ≤ k := by omega
  simp [go_sem, hk, h0]
theorem ins_flat_len (gs : List In4) : (insR gs).flatten.length = gs.length * 4 := by
  rw [flat_len (size := 4) _ (insR_rows gs), insR_len]
theorem flat_backC {size : Nat} (cs : List (List Value)) (hs : ∀ r ∈ cs, r.length = size) (h0 : 0 < size) {j : Nat} {v : Value} (h : cs.flatten[j]? = some v) : ∃ k i r, j = k * size + i ∧ cs[k]? = some r ∧ r[i]? = some v := by
  have hj := (List.getElem?_eq_some_iff.1 h).1
  rw [flat_len cs hs] at hj
  have hk : j / size < cs.length := Nat.div_lt_of_lt_mul (by rw [Nat.mul_comm]; exact hj)
  have hi : j % size < size := Nat.mod_lt _ h0
  have hr : cs[j / size]? = some cs[j / size] := List.getElem?_eq_getElem hk
  have hl : cs[j / size].length = size := hs _ (List.getElem_mem hk)
  have hv : cs[j / size][j % size]? = some (cs[j / size][j % size]'(by omega)) := List.getElem?_eq_getElem _
  have hj2 : j = j / size * size + j % size := by rw [Nat.mul_comm]; exact (Nat.div_add_mod j size).symm
  refine ⟨j / size, j % size, _, hj2, hr, ?_⟩
  have h2 := flat_get cs hs _ _ hr _ _ hv
  rw [← hj2, h] at h2
  rw [hv, h2]
theorem SlA.newsC {w : World} {size n c : Nat} {a : Addr} {cs : List (List Value)} (h : SlA w size (some a) n c cs) (hs : ∀ r ∈ cs, r.length = size) (h0 : 0 < size) : ∀ (j : Nat) (u : Value), cs.flatten[j]? = some u → w.cell? (a.add j) = some u := by
  intro j u hj
  obtain ⟨k, i, r, rfl, hr, hv⟩ := flat_backC cs hs h0 hj
  have hk := (List.getElem?_eq_some_iff.1 hr).1
  obtain ⟨b, off, e, hb, he⟩ := h.at_ (by have := h.len; omega)
  cases e
  have := he k r hr i u hv
  rw [show ((⟨b, off, none⟩ : Addr).add (k * size + i)) = ⟨b, off + k * size + i, none⟩ by simp [Addr.add, Nat.add_assoc]]
  exact this
theorem ins_set : ∀ (gs : List In4) (k i : Nat) (m : Int), k < gs.length → i < 4 → ∃ gs' : List In4, gs'.length = gs.length ∧ (insR gs).flatten.set (k * 4 + i) (.int .i64 m) = (insR gs').flatten
  | [], k, i, m, hk, _ => by simp at hk
  | p :: gs, 0, i, m, _, hi => by
    obtain ⟨o, l, y, n⟩ := p
    have e : ∃ q : In4, ∀ rest : List Value, (In4.cells ⟨o, l, y, n⟩ ++ rest).set i (.int .i64 m) = q.cells ++ rest := by
      obtain rfl | rfl | rfl | rfl : i = 0 ∨ i = 1 ∨ i = 2 ∨ i = 3 := by omega
      · exact ⟨⟨m, l, y, n⟩, fun _ => rfl⟩
      · exact ⟨⟨o, m, y, n⟩, fun _ => rfl⟩
      · exact ⟨⟨o, l, m, n⟩, fun _ => rfl⟩
      · exact ⟨⟨o, l, y, m⟩, fun _ => rfl⟩
    obtain ⟨q, hq⟩ := e
    exact ⟨q :: gs, rfl, by simpa [insR] using hq _⟩
  | p :: gs, k + 1, i, m, hk, hi => by
    obtain ⟨gs', h1, h2⟩ := ins_set gs k i m (by simpa using hk) hi
    refine ⟨p :: gs', by simp [h1], ?_⟩
    have e1 : insR (p :: gs) = p.cells :: insR gs := rfl
    have e2 : insR (p :: gs') = p.cells :: insR gs' := rfl
    rw [e1, List.flatten_cons, e2, List.flatten_cons, ← h2, List.set_append_right _ _ (by simp [In4.cells]; omega)]
    congr 2
    simp [In4.cells]
    omega
theorem ins_int (gs : List In4) {k i : Nat} (hk : k < gs.length) (hi : i < 4) : ∃ m : Int, (insR gs).flatten[k * 4 + i]? = some (.int .i64 m) := by
  have hr : (insR gs)[k]? = some gs[k].cells := by simp [insR, hk]
  obtain rfl | rfl | rfl | rfl : i = 0 ∨ i = 1 ∨ i = 2 ∨ i = 3 := by omega
  · exact ⟨_, flat_get _ (insR_rows gs) _ _ hr 0 _ rfl⟩
  · exact ⟨_, flat_get _ (insR_rows gs) _ _ hr 1 _ rfl⟩
  · exact ⟨_, flat_get _ (insR_rows gs) _ _ hr 2 _ rfl⟩
  · exact ⟨_, flat_get _ (insR_rows gs) _ _ hr 3 _ rfl⟩
/-- A number of a place is another one. -/
theorem ins_store {w : World} {base b cap N : Nat} {gs : List In4} (hN : gs.length = N) (h : w.ownsRow base 94 4 (.slice (some ⟨b, 0, none⟩) N cap) N (insR gs).flatten) {k i : Nat} (hk : k < N) (hi : i < 4) :
    (∃ m : Int, w.cell? ⟨b, k * 4 + i, none⟩ = some (.int .i64 m)) ∧ w.frozen? ⟨b, k * 4 + i, none⟩ = false ∧ ∀ m : Int, ∃ gs' : List In4, gs'.length = N ∧ (w.setCell ⟨b, k * 4 + i, none⟩ (.int .i64 m)).ownsRow base 94 4 (.slice (some ⟨b, 0, none⟩) N cap) N (insR gs').flatten := by
  subst hN
  refine ⟨?_, h.frozenAt _, fun m => ?_⟩
  · rw [h.cellAt _ (by omega)]
    exact ins_int gs hk hi
  · obtain ⟨gs', h1, h2⟩ := ins_set gs k i m hk hi
    refine ⟨gs', h1, ?_⟩
    rw [← h2]
    exact (h.stored _ _).1

theorem ins_drop : ∀ (gs : List In4) (m : Nat), (insR (gs.drop m)).flatten = (insR gs).flatten.drop (m * 4)
  | gs, 0 => by simp
  | [], m + 1 => by simp [insR]
  | x :: gs, m + 1 => by
    have := ins_drop gs m
    rw [List.drop_succ_cons, this, Nat.add_mul]
    rfl
theorem ins_take : ∀ (gs : List In4) (m : Nat), (insR (gs.take m)).flatten = (insR gs).flatten.take (m * 4)
  | gs, 0 => by simp [insR]
  | [], m + 1 => by simp [insR]
  | x :: gs, m + 1 => by
    have := ins_take gs m
    show x.cells ++ (insR (gs.take m)).flatten = _
    rw [this, Nat.add_mul]
    rfl
theorem own_take_ins {w : World} {base b N cap : Nat} {gs : List In4} (hN : gs.length = N) (h : w.ownsRow base 94 4 (.slice (some ⟨b, 0, none⟩) N cap) N (insR gs).flatten) {k : Nat} (hk : k ≤ N) : w.ownsRow base 94 4 (.slice (some ⟨b, 0, none⟩) k cap) k (insR (gs.take k)).flatten := by
  refine ⟨by rw [ins_flat_len, List.length_take]; rw [Nat.min_eq_left (by omega)], ?_⟩
  rcases h.2 with ⟨e, _⟩ | ⟨g, cap', cur, e, h1, h2, h3, h4, h5, h6⟩
  · cases e
  · cases e
    refine .inr ⟨b, cap, cur, rfl, h1, h2, by omega, h4, h5, ?_⟩
    rw [ins_take, ← h6, List.take_take, Nat.min_eq_left (by omega)]
/-- 'append(x, y...)' inside a region. -/
theorem step_ownC {P : Program} {w : World} {ops : Array Oper} {o : Oper} {a : Act} {K : Act → World → Prop} {Q : Exit → Act → World → Prop} {E : Prop} (hgd : o.guard = none) (s x : Operand) (t : TypeId)
    (ho : o.op = .call { callee := .builtin .append, args := #[s, x], argTypes := #[t, t] })
    (base : Nat) (e : TypeId) (i : TypeInfo) (z : Value) (size bytes : Nat) (ht : P.underlying t = some (.slice e)) (hi : P.info? e = some i) (hz : i.zero = some z)
    (hsize : i.size = size) (hby : i.bytes = bytes) (hzs : z.cells.size = size) (hsz : 0 < size)
    (v : Value) (n : Nat) (xs : List Value) (hs : a.eval s = v) (hown : w.ownsRow base e size v n xs)
    (ad : Addr) (m c : Nat) (news : List Value) (hx : a.eval x = .slice (some ad) m c) (hl : news.length = m * size) (hnews : ∀ j u, news[j]? = some u → w.cell? (ad.add j) = some u) (h1 : ∀ u ∈ news, u.oneCell' = true)
    (h63 : n + m ≤ maxLen) (hbytes : (n + m) * bytes ≤ 140737488355328) (hbase : base ≤ w.heap.size)
    (h : ∀ v' w', w'.ownsRow base e size v' (n + m) (xs ++ news) → w.grownBy w' v.ownBlock → (v' = .slice none 0 0 ↔ v = .slice none 0 0 ∧ m = 0) → K (a.put o.dst v') w') :
    if Region.wanted o (yielded ops a.tmps) = true then Oper.wp P o a w K Q else E := by
  have hw : Region.wanted o (yielded ops a.tmps) = true := by simp [Region.wanted, hgd]
  rw [if_pos hw]
  exact wp_append_own w s x t ho base e i z size bytes ht hi hz hsize hby hzs hsz v n xs hs hown ad m c news hx hl hnews h1 h63 hbytes hbase h
theorem own_cap {w : World} {base b n cap m s : Nat} {e : TypeId} {xs : List Value} (h : w.ownsRow base e s (.slice (some ⟨b, 0, none⟩) n cap) m xs) : n ≤ cap ∧ cap ≤ 9223372036854775807 := by
  rcases h.2 with ⟨e, _⟩ | ⟨g, cap', cur, e, _, _, h1, h2, _⟩
  · cases e
  · cases e
    exact ⟨h1, h2⟩

end Go.Proofs.YtbgoppfanibdiaaDoor
