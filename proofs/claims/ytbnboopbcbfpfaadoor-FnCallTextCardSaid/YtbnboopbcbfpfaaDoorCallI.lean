/- impl.CallRead reads a call by its reader. -/
import Derived.Test.YtbnboopbcbfpfaaDoorCallS
import Derived.Test.YtbnboopbcbfpfaaDoorReader
namespace Go.Proofs.YtbnboopbcbfpfaaDoor
open Go.RowKit
set_option linter.unusedSimpArgs false
set_option linter.unusedVariables false

/-- What words read so far are written as. -/
def pref : List Int → List UInt8
  | [] => []
  | n :: xs => callText n xs
theorem pref_snoc (ws : List Int) (x : Int) (h : ws ≠ []) : pref (ws ++ [x]) = pref ws ++ (32 :: Lib.itoa x) := by
  cases ws with
  | nil => exact absurd rfl h
  | cons n xs => show callText n (xs ++ [x]) = _; unfold callText; rw [argText_snoc, ← List.append_assoc]; rfl
/-- What a call's text still holds behind k words. -/
def tailOf (n : Int) (ys : List Int) : Nat → List UInt8
  | 0 => callText n ys
  | k + 1 => argText (ys.drop k)
theorem noDig_argText (ys : List Int) : noDig (argText ys) := by
  intro x hx
  cases ys with
  | nil => simp [argText] at hx
  | cons y ys => simp [argText] at hx; subst hx; rfl
theorem argText_cons (y : Int) (ys : List Int) : argText (y :: ys) = 32 :: (Lib.itoa y ++ argText ys) := by simp [argText]
theorem tailOf_step {n : Int} {ys : List Int} {k : Nat} (h : k < ys.length) : tailOf n ys (k + 1) = 32 :: (Lib.itoa ys[k] ++ tailOf n ys (k + 2)) := by
  show argText (ys.drop k) = 32 :: (Lib.itoa ys[k] ++ argText (ys.drop (k + 1)))
  rw [List.drop_eq_getElem_cons h, argText_cons]

/-- What is known of a text of which words were read. -/
structure Parsed (text : List UInt8) (ws : List Int) (rest : List UInt8) : Prop where
  sound : text = pref ws ++ rest
  words : ∀ x ∈ ws, 0 ≤ x ∧ x ≤ 4294967295
  full : ∀ n ys, callOk n ys → text = callText n ys → ws = (n :: ys).take ws.length ∧ rest = tailOf n ys ws.length

theorem Parsed.start (text : List UInt8) : Parsed text [] text := ⟨rfl, fun x h => by simp at h, fun n ys _ h => ⟨rfl, h⟩⟩
theorem Parsed.first {text : List UInt8} {v : Int} {r : List UInt8} (h : NumAt 4294967295 text v r) : Parsed text [v] r := by
  refine ⟨?_, fun x hx => ?_, fun n ys hok ht => ?_⟩
  · rw [h.2.1]; simp [pref, callText, argText]
  · rw [List.mem_singleton] at hx; subst hx; exact h.1
  · have h2 : NumAt 4294967295 text n (argText ys) := ⟨hok.1, ht, noDig_argText ys⟩
    obtain ⟨e1, e2⟩ := h.unique h2
    subst e1; subst e2
    exact ⟨rfl, rfl⟩
theorem Parsed.no_first {text : List UInt8} (h : ¬ ∃ v r, NumAt 4294967295 text v r) : ¬ ∃ n xs, callOk n xs ∧ text = callText n xs :=
  fun ⟨n, ys, hok, ht⟩ => h ⟨n, argText ys, hok.1, ht, noDig_argText ys⟩
theorem Parsed.no_skip {text : List UInt8} {ws : List Int} {rest : List UInt8} (h : Parsed text ws rest) (h1 : 0 < ws.length) (h4 : ws.length ≤ 4) (hs : ¬ ∃ t, rest = [32] ++ t) : ¬ ∃ n xs, callOk n xs ∧ text = callText n xs := by
  rintro ⟨n, ys, hok, ht⟩
  obtain ⟨_, e⟩ := h.full n ys hok ht
  obtain ⟨k, hk⟩ : ∃ k, ws.length = k + 1 := ⟨ws.length - 1, by omega⟩
  rw [hk, tailOf_step (by have := hok.2.1; omega)] at e
  exact hs ⟨_, e⟩
theorem Parsed.no_next {text : List UInt8} {ws : List Int} {t : List UInt8} (h : Parsed text ws ([32] ++ t)) (h1 : 0 < ws.length) (h4 : ws.length ≤ 4) (hn : ¬ ∃ v r, NumAt 4294967295 t v r) : ¬ ∃ n xs, callOk n xs ∧ text = callText n xs := by
  rintro ⟨n, ys, hok, ht⟩
  obtain ⟨_, e⟩ := h.full n ys hok ht
  obtain ⟨k, hk⟩ : ∃ k, ws.length = k + 1 := ⟨ws.length - 1, by omega⟩
  have hky : k < ys.length := by have := hok.2.1; omega
  rw [hk, tailOf_step hky] at e
  simp only [List.cons_append, List.nil_append, List.cons.injEq, true_and] at e
  exact hn ⟨ys[k], _, hok.2.2 _ (List.getElem_mem _), e, noDig_argText _⟩
theorem Parsed.next {text : List UInt8} {ws : List Int} {t : List UInt8} {v : Int} {r : List UInt8} (h : Parsed text ws ([32] ++ t)) (h1 : 0 < ws.length) (h4 : ws.length ≤ 4) (hn : NumAt 4294967295 t v r) : Parsed text (ws ++ [v]) r := by
  have hne : ws ≠ [] := List.length_pos_iff.1 h1
  refine ⟨?_, fun x hx => ?_, fun n ys hok ht => ?_⟩
  · rw [pref_snoc ws v hne, h.sound, hn.2.1]; simp
  · rcases List.mem_append.1 hx with h' | h'
    · exact h.words x h'
    · rw [List.mem_singleton] at h'; subst h'; exact hn.1
  · obtain ⟨e0, e⟩ := h.full n ys hok ht
    obtain ⟨k, hk⟩ : ∃ k, ws.length = k + 1 := ⟨ws.length - 1, by omega⟩
    have hky : k < ys.length := by have := hok.2.1; omega
    rw [hk, tailOf_step hky] at e
    simp only [List.cons_append, List.nil_append, List.cons.injEq, true_and] at e
    obtain ⟨e1, e2⟩ := hn.unique (⟨hok.2.2 _ (List.getElem_mem _), e, noDig_argText _⟩ : NumAt 4294967295 t ys[k] (tailOf n ys (k + 2)))
    rw [hk] at e0
    rw [List.length_append, hk]
    refine ⟨?_, e2⟩
    rw [e0, e1]
    show _ = List.take (k + 1 + 1) (n :: ys)
    rw [List.take_succ_cons, List.take_succ_cons, List.take_succ_eq_append_getElem hky]
    rfl
theorem Parsed.end_yes {text : List UInt8} {n : Int} {xs : List Int} (h : Parsed text (n :: xs) []) (hl : xs.length = 4) : callOk n xs ∧ text = callText n xs :=
  ⟨⟨h.words n (by simp), hl, fun x hx => h.words x (by simp [hx])⟩, by have := h.sound; simpa [pref] using this⟩
theorem Parsed.end_no {text : List UInt8} {ws : List Int} {rest : List UInt8} (h : Parsed text ws rest) (hl : ws.length = 5) (hr : rest ≠ []) : ¬ ∃ n xs, callOk n xs ∧ text = callText n xs := by
  rintro ⟨n, ys, hok, ht⟩
  obtain ⟨_, e⟩ := h.full n ys hok ht
  rw [hl] at e
  apply hr
  rw [e]
  show argText (ys.drop 4) = []
  rw [List.drop_of_length_le (by rw [hok.2.1]; omega)]
  rfl

def lenOf : Value → Nat
  | .slice _ n _ => n
  | _ => 0
theorem lenOf_slice (o : Option Addr) (n c : Nat) : lenOf (.slice o n c) = n := rfl

theorem Blk.next (w : World) (o : Obj) (t : TypeId) (cs : Array Value) : Blk ((w.alloc o).alloc (.cells cs t)) (w.heap.size + 1) t cs := by
  have := Blk.new (w.alloc o) t cs
  rwa [show (w.alloc o).heap.size = w.heap.size + 1 by simp] at this
/-- How the world stands while the words are read. -/
structure St (w wr : World) (rest : ByteArray) (v : Value) (ws : List Int) : Prop where
  c : Blk wr w.heap.size 27 #[.int .i64 0, .slice none 0 0]
  r : Blk wr (w.heap.size + 1) 49 #[.string rest]
  own : wr.ownsRow (w.heap.size + 2) 3 1 v ws.length (ints ws).flatten
  b : Below w.heap.size w wr
theorem St.set_ {w wr : World} {rest : ByteArray} {v : Value} {ws : List Int} (h : St w wr rest v ws) (q : ByteArray) : St w (wr.setCell ⟨w.heap.size + 1, 0, none⟩ (.string q)) q v ws :=
  ⟨h.c.far (by simp) _, h.r.set_ 0 _, ownsRow_setCell_below h.own (by simp) _, h.b.setCell (by simp) _⟩
theorem St.app {w wr w2 : World} {rest : ByteArray} {v v2 : Value} {ws : List Int} {x : Int} (h : St w wr rest v ws) (ho : w2.ownsRow (w.heap.size + 2) 3 1 v2 (ws.length + 1) (ints ws ++ [[Value.int .i64 x]]).flatten) (hb : Below (w.heap.size + 2) wr w2) : St w w2 rest v2 (ws ++ [x]) :=
  ⟨h.c.below hb (by omega), h.r.below hb (by omega), by simpa [ints] using ho, h.b.trans (hb.mono (by omega))⟩

theorem St.ownL {w wr : World} {rest : ByteArray} {v : Value} {ws : List Int} {L : Nat} (h : St w wr rest v ws) (hL : Hid (ws.length = L)) : wr.ownsRow (w.heap.size + 2) 3 1 v L (ints ws).flatten := hL.out ▸ h.own
theorem St.appL {w wr w2 : World} {rest : ByteArray} {v v2 : Value} {ws : List Int} {x : Int} {L : Nat} (h : St w wr rest v ws) (hL : Hid (ws.length = L)) (ho : w2.ownsRow (w.heap.size + 2) 3 1 v2 (L + 1) (ints ws ++ [[Value.int .i64 x]]).flatten) (hb : Below (w.heap.size + 2) wr w2) : St w w2 rest v2 (ws ++ [x]) := h.app (hL.out.symm ▸ ho) hb
theorem St.cells {w wr : World} {rest : ByteArray} {v : Value} {ws : List Int} (h : St w wr rest v ws) : wr.cell? ⟨w.heap.size, 0, none⟩ = some (.int .i64 0) ∧ wr.cell? ⟨w.heap.size, 1, none⟩ = some (.slice none 0 0) ∧ wr.frozen? ⟨w.heap.size, 0, none⟩ = false ∧ wr.frozen? ⟨w.heap.size, 1, none⟩ = false :=
  ⟨h.c.cell 0, h.c.cell 1, h.c.frozen 0, h.c.frozen 1⟩
theorem St.wipe {w wr : World} {rest : ByteArray} {v : Value} {ws : List Int} (h : St w wr rest v ws) : St w ((wr.setCell ⟨w.heap.size, 0, none⟩ (.int .i64 0)).setCell ⟨w.heap.size, 1, none⟩ (.slice none 0 0)) rest v ws :=
  ⟨(h.c.set_ 0 _).set_ 1 _, (h.r.far (by simp) _).far (by simp) _, ownsRow_setCell_below (ownsRow_setCell_below h.own (by simp) _) (by simp) _, (h.b.setCell (by simp) _).setCell (by simp) _⟩
theorem num_rest {m : Int} {rest q : ByteArray} {x : Int} {r : List UInt8} (h : NumAt m rest.data.toList x r) (hq : q.data.toList = r) (hs : rest.size ≤ 1048576) : q.size ≤ 1048576 := by
  have e := congrArg List.length h.2.1
  have e1 := congrArg List.length hq
  simp at e e1
  omega
theorem skip_rest {rest q p : ByteArray} {r : List UInt8} (h : rest.data.toList = p.data.toList ++ r) (hq : q.data.toList = r) (hs : rest.size ≤ 1048576) : q.size ≤ 1048576 := by
  have e := congrArg List.length h
  have e1 := congrArg List.length hq
  simp at e e1
  omega
theorem St.room {w wr : World} {rest : ByteArray} {v : Value} {ws : List Int} (h : St w wr rest v ws) : w.heap.size + 2 ≤ wr.heap.size := by have := h.r.lt; omega
theorem St.skip {w wr : World} {rest : ByteArray} {v : Value} {ws : List Int} (h : St w wr rest v ws) (hs : rest.size ≤ 1048576) :
    Calls Tryd.prog 25 #[.pointer (some ⟨w.heap.size + 1, 0, none⟩), .string ⟨#[32]⟩] wr fun e w1 =>
      (∃ q : ByteArray, Hid (rest.data.toList = [32] ++ q.data.toList) ∧ e = .returned (.bool true) ∧ q.size ≤ 1048576 ∧ St w w1 q v ws) ∨ (Hid (¬ ∃ t, rest.data.toList = [32] ++ t) ∧ e = .returned (.bool false) ∧ St w w1 rest v ws) := by
  by_cases hp : ∃ t, rest.data.toList = [32] ++ t
  · obtain ⟨t, ht⟩ := hp
    exact (skip_yes rest ⟨#[32]⟩ t _ _ wr (h.r.cell 0) (h.r.frozen 0) ht).mono fun e w' ⟨he, hw⟩ => .inl ⟨_, by simpa [Hid] using ht, he, skip_rest (p := ⟨#[32]⟩) (q := ⟨t.toArray⟩) ht (by simp) hs, hw ▸ h.set_ ⟨t.toArray⟩⟩
  · exact (skip_no rest ⟨#[32]⟩ _ _ wr (h.r.cell 0) (h.r.frozen 0) hp).mono fun e w' ⟨he, hw⟩ => .inr ⟨hp, he, hw ▸ h.set_ _⟩
theorem St.number {w wr : World} {rest : ByteArray} {v : Value} {ws : List Int} (h : St w wr rest v ws) (hs : rest.size ≤ 1048576) :
    Calls Tryd.prog 26 #[.pointer (some ⟨w.heap.size + 1, 0, none⟩), .int .i64 4294967295] wr fun e w1 =>
      (∃ (x : Int) (q : ByteArray), Hid (NumAt 4294967295 rest.data.toList x q.data.toList) ∧ e = .returned (.tuple #[.int .i64 x, .bool true]) ∧ q.size ≤ 1048576 ∧ St w w1 q v ws) ∨ (Hid (¬ ∃ x r, NumAt 4294967295 rest.data.toList x r) ∧ e = .returned (.tuple #[.int .i64 0, .bool false]) ∧ St w w1 rest v ws) := by
  refine (number_any 4294967295 rest _ _ wr (h.r.cell 0) (h.r.frozen 0) (by omega) (by omega) (by omega)).mono ?_
  rintro e w1 (⟨x, r, hn, rfl, rfl⟩ | ⟨hn, rfl, rfl | rfl⟩)
  · exact .inl ⟨x, ⟨r.toArray⟩, by simpa [Hid] using hn, rfl, num_rest hn (by simp) hs, h.set_ _⟩
  · exact .inr ⟨hn, rfl, h⟩
  · exact .inr ⟨hn, rfl, h.set_ _⟩

set_option maxHeartbeats 4000000 in
theorem CallRead_any (s : ByteArray) (w : World) (hs : s.size ≤ 1048576) :
    Calls Tryd.prog 11 #[.string s] w (ReadPost s.data.toList 3 w) := by
  go_enter Tryd.func11, Tryd.ntmps11
  go_wp2
  go_loopw [5] (fun v wr => ∃ (ws : List Int) (rest : ByteArray), ws.length ≤ 5 ∧ rest.size ≤ 1048576 ∧ Hid (Parsed s.data.toList ws rest.data.toList) ∧ St w wr rest v ws) (fun v _ => 5 - lenOf v)
  case atStart => exact ⟨[], s, by simp, hs, Parsed.start _, (Blk.new w _ _).alloc _, Blk.next w _ _ _, World.ownsRow_nil _ _ _ _, by go_grown⟩
  case round =>
    obtain ⟨ws, rest, h5, hrs, hP, hst⟩ := hrel
    obtain ⟨A2, n2, c2, rfl, hA2⟩ := SlA.of_own hst.own (ints_len ws) (ints_rows ws)
    have HL : Hid (ws.length = n2) := by have := hA2.len; rw [ints_len] at this; exact this
    have hc2 := hA2.cap
    have hm2 := hA2.max
    have h5' : n2 ≤ 5 := HL.out ▸ h5
    unfold maxLen at hm2
    clear h5
    by_cases h4 : n2 ≤ 4
    · by_cases h0 : n2 = 0
      · subst h0
        go_wp2_with (first
          | (go_at_call 26; refine (hst.number hrs).mono ?_; rintro e w1 (⟨x, q, hnum, rfl, hq, hs1⟩ | ⟨hno, rfl, hs1⟩) <;> obtain ⟨p0, p1, p2, p3⟩ := hs1.cells)
          | (at_builtin; go_must (refine wpList_app1 (w0 := w1) rfl (.tmp 31) (.tmp 33) _ rfl (w.heap.size + 2) 3 Tryd.underlying22 info_int rfl (by omega) (by omega) _ 0 (ints ws) rfl (hs1.ownL HL) rfl (by simp [Value.oneCell']) rfl (by omega) hs1.room ?_); intro v2 w2 hown2 hb2 _; obtain ⟨g2, cap2, rfl, hg2, hg3⟩ := hown2.form (by omega)))
        · obtain rfl : ws = [] := List.length_eq_zero_iff.1 HL.out
          have hn : NumAt 4294967295 s.data.toList x q.data.toList := by have := hP.out.sound; rw [show s.data.toList = rest.data.toList from this]; exact hnum
          exact ⟨⟨[x], q, by simp, hq, Parsed.first hn, hs1.appL HL hown2 hb2⟩, by simp [lenOf]⟩
        · obtain rfl : ws = [] := List.length_eq_zero_iff.1 HL.out
          obtain ⟨z0, z1, -, -⟩ := hs1.wipe.cells
          refine bodyPost_ret (v := .tuple #[.agg #[.int .i64 0, .slice none 0 0], .bool false]) (by simp [results, Tryd.results11, go_sem, z0, z1]) rfl (.inr ⟨Parsed.no_first ?_, rfl, hs1.wipe.b⟩)
          have := hP.out.sound; rw [show s.data.toList = rest.data.toList from this]; exact hno
      · have hpos : 0 < n2 := by omega
        go_wp2_with (first
          | (go_at_call 25; refine (hst.skip hrs).mono ?_; rintro e w0 (⟨q0, hsk, rfl, hq0, hs0⟩ | ⟨hno, rfl, hs0⟩) <;> obtain ⟨p0, p1, p2, p3⟩ := hs0.cells)
          | (go_at_call 26; refine (hs0.number hq0).mono ?_; rintro e w1 (⟨x, q, hnum, rfl, hq, hs1⟩ | ⟨hno, rfl, hs1⟩) <;> obtain ⟨p0, p1, p2, p3⟩ := hs1.cells)
          | (at_builtin; go_must (refine wpList_app1 (w0 := w1) rfl (.tmp 31) (.tmp 33) _ rfl (w.heap.size + 2) 3 Tryd.underlying22 info_int rfl (by omega) (by omega) _ n2 (ints ws) rfl (hs1.ownL HL) rfl (by simp [Value.oneCell']) rfl (by omega) hs1.room ?_); intro v2 w2 hown2 hb2 _; obtain ⟨g2, cap2, rfl, hg2, hg3⟩ := hown2.form (by omega)))
        · have hl := HL.out
          have hP' : Parsed s.data.toList ws ([32] ++ q0.data.toList) := hsk.out ▸ hP.out
          exact ⟨⟨ws ++ [x], q, by simp; omega, hq, hP'.next (by omega) (by omega) hnum, hs1.appL HL hown2 hb2⟩, by simp [lenOf]; omega⟩
        · obtain ⟨z0, z1, -, -⟩ := hs1.wipe.cells
          have hl := HL.out
          have hP' : Parsed s.data.toList ws ([32] ++ q0.data.toList) := hsk.out ▸ hP.out
          exact bodyPost_ret (v := .tuple #[.agg #[.int .i64 0, .slice none 0 0], .bool false]) (by simp [results, Tryd.results11, go_sem, z0, z1]) rfl (.inr ⟨hP'.no_next (by omega) (by omega) hno, rfl, hs1.wipe.b⟩)
        · obtain ⟨z0, z1, -, -⟩ := hs0.wipe.cells
          have hl := HL.out
          exact bodyPost_ret (v := .tuple #[.agg #[.int .i64 0, .slice none 0 0], .bool false]) (by simp [results, Tryd.results11, go_sem, z0, z1]) rfl (.inr ⟨hP.out.no_skip (by omega) (by omega) hno, rfl, hs0.wipe.b⟩)
    · obtain rfl : n2 = 5 := by omega
      obtain ⟨p0, p1, p2, p3⟩ := hst.cells
      obtain ⟨n, xs, rfl⟩ : ∃ n xs, ws = n :: xs := by cases ws with | nil => exact absurd HL.out (by simp) | cons n xs => exact ⟨n, xs, rfl⟩
      have HX : Hid (xs.length = 4) := by have := HL.out; simpa [Hid] using this
      obtain ⟨g, cap, hform, hg1, hg2⟩ := (hst.ownL HL).form (by omega)
      obtain ⟨rfl, rfl⟩ : A2 = some ⟨g, 0, none⟩ ∧ c2 = cap := by simpa using hform
      have hcell : ∀ j, j < (n :: xs).length → wr.cell? ⟨g, j, none⟩ = some (.int .i64 ((n :: xs).getD j 0)) := fun j hj => by
        obtain ⟨b, off, x, e, _, hx, hc⟩ := ints_get hA2 (k := j) (HL.out ▸ hj)
        simp only [Option.some.injEq, Addr.mk.injEq] at e
        obtain ⟨rfl, rfl, _⟩ := e
        have := hc wr _ (Below.refl wr.heap.size wr) (by assumption)
        rw [Nat.zero_add] at this
        rw [this, List.getD_eq_getElem?_getD, hx]; rfl
      have hgw : g < wr.heap.size := by
        obtain ⟨b, off, x, e, hb, _, _⟩ := ints_get hA2 (k := 0) (by omega)
        simp only [Option.some.injEq, Addr.mk.injEq] at e
        exact e.1 ▸ hb
      have c0 : wr.cell? ⟨g, 0, none⟩ = some (.int .i64 n) := hcell 0 (by simp)
      have HC : Hid (∀ W, Below wr.heap.size wr W → Calls Tryd.prog 28 #[.slice (some ⟨g, 1, none⟩) 4 (c2 - 1)] W fun e w' => ∃ v', e = .returned v' ∧ w'.ownsRow W.heap.size 3 1 v' 4 (ints xs).flatten ∧ Below W.heap.size W w') := fun W hW => by
        have hx := HX.out
        refine (Tryd.slices_Clone_int g 1 4 (c2 - 1) xs W (by omega) (by omega) (fun j hj => ?_)).mono ?_
        · rw [hW.cell (p := ⟨g, 1 + j, none⟩) hgw, hcell (1 + j) (by simp; omega), Nat.add_comm]; rfl
        · rintro e w' ⟨v', he, ho, _, hb⟩
          refine ⟨v', he, ?_, hb⟩
          rw [ints_flat]
          rwa [List.take_of_length_le (by omega)] at ho
      have hc1 : ¬ c2 = 1 := by omega
      clear hcell
      cases hemp : rest.data.isEmpty
      · go_wp2_with (first
          | (go_at_call 27; refine (done_any rest _ _ _ (hst.r.cell 0)).mono ?_; rintro e w0 ⟨rfl, rfl⟩))
        all_goals
          obtain ⟨z0, z1, -, -⟩ := hst.wipe.cells
          refine bodyPost_ret (v := .tuple #[.agg #[.int .i64 0, .slice none 0 0], .bool false]) (by simp [results, Tryd.results11, go_sem, z0, z1]) rfl (.inr ⟨hP.out.end_no HL.out ?_, rfl, hst.wipe.b⟩)
          intro h
          rw [← Array.isEmpty_toList, h] at hemp
          cases hemp
      · go_wp2_with (first
          | (go_at_call 27; refine (done_any rest _ _ _ (hst.r.cell 0)).mono ?_; rintro e w0 ⟨rfl, rfl⟩))
        go_region_law (go_simp; go_at_call 28; refine (HC.out _ (by go_grown)).mono ?_; rintro e w3 ⟨v3, rfl, hown3, hb3⟩; obtain ⟨g3, cap3, rfl, hg3, hg3'⟩ := hown3.form (by omega); have c0' := (hb3.cell (p := ⟨g, 0, none⟩) hgw).trans c0; have hs3 : w.heap.size < w0.heap.size := Nat.lt_of_lt_of_le (by omega) hst.room; have p0' := (hb3.cell (p := ⟨w.heap.size, 0, none⟩) hs3).trans p0; have p1' := (hb3.cell (p := ⟨w.heap.size, 1, none⟩) hs3).trans p1; have p2' := (hb3.frozen (p := ⟨w.heap.size, 0, none⟩) hs3).trans p2; have p3' := (hb3.frozen (p := ⟨w.heap.size, 1, none⟩) hs3).trans p3)
        all_goals go_wp2
        all_goals
          have hr0 : rest.data.toList = [] := by rw [← Array.isEmpty_toList] at hemp; simpa using hemp
          obtain ⟨z1, z2⟩ := (hr0 ▸ hP.out).end_yes HX.out
          refine bodyPost_ret (v := .tuple #[.agg #[.int .i64 n, .slice (some ⟨g3, 0, none⟩) 4 cap3], .bool true]) (by simp [results, Tryd.results11, go_sem, p0', p1']) rfl (.inl ⟨n, xs, _, z1, z2, rfl, ?_, ?_⟩)
          · exact own_base (ownsRow_setCell_below (ownsRow_setCell_below hown3 (by show w.heap.size < w0.heap.size; omega) _) (by show w.heap.size < w0.heap.size; omega) _) (by show _ ≤ w0.heap.size; omega)
          · exact ((below_then hst.b.drew hb3).setCell (by simp) _).setCell (by simp) _
end Go.Proofs.YtbnboopbcbfpfaaDoor
