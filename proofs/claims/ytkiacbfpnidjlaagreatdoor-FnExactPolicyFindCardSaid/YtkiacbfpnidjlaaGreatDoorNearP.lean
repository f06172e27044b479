/- Near words and near calls in plain Lean: words put into an ascending row, and counters that go on. No program in sight. -/
import Derived.Test.YtkiacbfpnidjlaaGreatDoorKit
import Derived.Test.YtkiacbfpnidjlaaGreatDoorUp
namespace Go.Proofs.YtkiacbfpnidjlaaGreatDoor
open Go.RowKit
set_option linter.unusedSimpArgs false
set_option linter.unusedVariables false

/-! Words. -/
def wordB (n : Int) : Bool := decide (0 ≤ n) && decide (n ≤ 4294967295)
theorem wordB_iff {n : Int} : wordB n = true ↔ 0 ≤ n ∧ n ≤ 4294967295 := by simp [wordB]
def nearT (f : Int) (t : Ts) : List Int := if t.field = f then [t.value - 1, t.value, t.value + 1] else []
def nearR (f : Int) (r : Rl) : List Int := if f = 0 then [r.low - 1, r.low, r.high, r.high + 1] else r.tests.flatMap (nearT f)
def nearAll (rs : List Rl) (f : Int) : List Int := rs.flatMap (nearR f)
def nearW (rs : List Rl) (f : Int) : List Int := Lib.compact (((0 :: nearAll rs f).filter wordB).mergeSort fun x y => decide (x ≤ y))
theorem nearAll_snoc (rs : List Rl) (r : Rl) (f : Int) : nearAll (rs ++ [r]) f = nearAll rs f ++ nearR f r := by simp [nearAll]
theorem nearAll_take {rs : List Rl} {k : Nat} {x : Rl} (h : rs[k]? = some x) (f : Int) : nearAll (rs.take (k + 1)) f = nearAll (rs.take k) f ++ nearR f x := by
  rw [List.take_add_one, h]; exact nearAll_snoc _ _ _
theorem nearT_take {ts : List Ts} {j : Nat} {t : Ts} (h : ts[j]? = some t) (f : Int) : (ts.take (j + 1)).flatMap (nearT f) = (ts.take j).flatMap (nearT f) ++ nearT f t := by
  rw [List.take_add_one, h]; simp
theorem nearT_len (f : Int) (t : Ts) : (nearT f t).length ≤ 3 := by unfold nearT; split <;> simp
theorem nearTs_len (f : Int) : ∀ ts : List Ts, (ts.flatMap (nearT f)).length ≤ 3 * ts.length
  | [] => by simp
  | t :: ts => by
    have h1 := nearTs_len f ts
    have h2 := nearT_len f t
    simp only [List.flatMap_cons, List.length_append, List.length_cons]
    omega
theorem nearR_len (f : Int) {r : Rl} (h : r.tests.length ≤ 4) : (nearR f r).length ≤ 12 := by
  unfold nearR
  split
  · simp
  · have := nearTs_len f r.tests; omega
theorem nearAll_len (f : Int) : ∀ rs : List Rl, (∀ r ∈ rs, r.tests.length ≤ 4) → (nearAll rs f).length ≤ 12 * rs.length
  | [], _ => by simp [nearAll]
  | r :: rs, h => by
    have h1 := nearAll_len f rs (fun r hr => h r (by simp [hr]))
    have h2 := nearR_len f (h r (by simp))
    simp only [nearAll, List.flatMap_cons, List.length_append, List.length_cons] at h1 ⊢
    omega

/-- An ascending row, and what is in it: the words among zs, each once. -/
def WordsOf (zs l : List Int) : Prop := l.Pairwise (· < ·) ∧ ∀ v, v ∈ l ↔ v ∈ zs ∧ wordB v = true
theorem WordsOf.one {zs l l' : List Int} (h : WordsOf zs l) (h' : WordsOf zs l') : l = l' := up_one _ _ h.1 h'.1 (fun v => by rw [h.2, h'.2])
theorem WordsOf.start : WordsOf [0] [0] := ⟨by simp, fun v => by simp [wordB]; omega⟩
theorem WordsOf.near (rs : List Rl) (f : Int) : WordsOf (0 :: nearAll rs f) (nearW rs f) := by
  obtain ⟨h1, h2⟩ := compact_up _ (sorted_up ((0 :: nearAll rs f).filter wordB))
  exact ⟨h1, fun v => by unfold nearW; rw [h2, List.mem_mergeSort, List.mem_filter]⟩
theorem nodup_le : ∀ (l zs : List Int), l.Nodup → (∀ v ∈ l, v ∈ zs) → l.length ≤ zs.length
  | [], _, _, _ => by simp
  | x :: l, zs, hn, hz => by
    have hx := hz x (by simp)
    rw [List.nodup_cons] at hn
    have h1 := nodup_le l (zs.erase x) hn.2 (fun v hv => (List.mem_erase_of_ne (fun e => hn.1 (by rw [← e]; exact hv))).2 (hz v (by simp [hv])))
    have h2 := List.length_erase_of_mem hx
    have h3 := List.length_pos_of_mem hx
    simp only [List.length_cons]
    omega
theorem WordsOf.len {zs l : List Int} (h : WordsOf zs l) : l.length ≤ zs.length :=
  nodup_le l zs (h.1.imp (fun h => by omega)) (fun v hv => ((h.2 v).1 hv).1)
theorem WordsOf.word {zs l : List Int} (h : WordsOf zs l) {v : Int} (hv : v ∈ l) : 0 ≤ v ∧ v ≤ 4294967295 := wordB_iff.1 ((h.2 v).1 hv).2
theorem WordsOf.pos {zs l : List Int} (h : WordsOf (0 :: zs) l) : 0 < l.length := List.length_pos_of_mem ((h.2 0).2 ⟨by simp, by simp [wordB]⟩)
theorem WordsOf.no {zs l : List Int} {n : Int} (h : WordsOf zs l) (hn : wordB n = false) : WordsOf (zs ++ [n]) l := ⟨h.1, fun v => by
  rw [h.2, List.mem_append, List.mem_singleton]
  constructor
  · rintro ⟨a, b⟩; exact ⟨.inl a, b⟩
  · rintro ⟨a | rfl, b⟩
    · exact ⟨a, b⟩
    · rw [hn] at b; cases b⟩
theorem WordsOf.there {zs l : List Int} {n : Int} (h : WordsOf zs l) (hn : n ∈ l) : WordsOf (zs ++ [n]) l := ⟨h.1, fun v => by
  rw [h.2, List.mem_append, List.mem_singleton]
  constructor
  · rintro ⟨a, b⟩; exact ⟨.inl a, b⟩
  · rintro ⟨a | rfl, b⟩
    · exact ⟨a, b⟩
    · exact (h.2 _).1 hn⟩
theorem WordsOf.put {zs l : List Int} {n : Int} {k : Nat} (h : WordsOf zs l) (hw : wordB n = true) (hk : k ≤ l.length) (hlt : ∀ (j : Nat) (x : Int), j < k → l[j]? = some x → x < n) (hge : ∀ x, l[k]? = some x → n < x) : WordsOf (zs ++ [n]) (l.take k ++ n :: l.drop k) := by
  have e : l = l.take k ++ l.drop k := (List.take_append_drop k l).symm
  have hp := h.1
  rw [e, List.pairwise_append] at hp
  have h1 : ∀ a ∈ l.take k, a < n := fun a ha => by
    obtain ⟨j, hj, rfl⟩ := List.getElem_of_mem ha
    rw [List.length_take] at hj
    rw [List.getElem_take]
    exact hlt j _ (by omega) (List.getElem?_eq_getElem (by omega))
  have h2 : ∀ b ∈ l.drop k, n < b := fun b hb => by
    cases hd : l.drop k with
    | nil => rw [hd] at hb; simp at hb
    | cons x xs =>
      have hx : l[k]? = some x := by
        have : (l.drop k)[0]? = some x := by rw [hd]; rfl
        simpa using this
      have hnx := hge x hx
      have hpd := hp.2.1
      rw [hd, List.pairwise_cons] at hpd
      rw [hd] at hb
      rcases List.mem_cons.1 hb with rfl | hb
      · exact hnx
      · have := hpd.1 b hb; omega
  refine ⟨?_, fun v => ?_⟩
  · rw [List.pairwise_append]
    refine ⟨hp.1, List.pairwise_cons.2 ⟨h2, hp.2.1⟩, fun a ha b hb => ?_⟩
    rcases List.mem_cons.1 hb with rfl | hb
    · exact h1 a ha
    · exact hp.2.2 a ha b hb
  · have hm : v ∈ l ↔ v ∈ l.take k ∨ v ∈ l.drop k := by rw [← List.mem_append, List.take_append_drop]
    rw [List.mem_append, List.mem_cons, List.mem_append, List.mem_singleton]
    constructor
    · rintro (a | rfl | a)
      · have := (h.2 v).1 (hm.2 (.inl a)); exact ⟨.inl this.1, this.2⟩
      · exact ⟨.inr rfl, hw⟩
      · have := (h.2 v).1 (hm.2 (.inr a)); exact ⟨.inl this.1, this.2⟩
    · rintro ⟨a | rfl, b⟩
      · rcases hm.1 ((h.2 v).2 ⟨a, b⟩) with c | c
        · exact .inl c
        · exact .inr (.inr c)
      · exact .inr (.inl rfl)

/-! Counters: the last one goes on first. -/
def odo (ls us : List Nat) : Nat → Option (List Nat)
  | 0 => none
  | k + 1 => if (us[k]?).getD 0 + 1 = (ls[k]?).getD 0 then odo ls (us.set k 0) k else some (us.set k ((us[k]?).getD 0 + 1))
theorem odo_pos {ls us : List Nat} {k : Nat} (h : (us[k]?).getD 0 + 1 = (ls[k]?).getD 0) : odo ls us (k + 1) = odo ls (us.set k 0) k := by
  show (if _ then _ else _) = _
  rw [if_pos h]
theorem odo_neg {ls us : List Nat} {k : Nat} (h : ¬ (us[k]?).getD 0 + 1 = (ls[k]?).getD 0) : odo ls us (k + 1) = some (us.set k ((us[k]?).getD 0 + 1)) := by
  show (if _ then _ else _) = _
  rw [if_neg h]
/-- How far the counters have still to go, the last one first. -/
def remR : List Nat → List Nat → Nat
  | l :: ls, a :: us => (l - 1 - a) + l * remR ls us
  | _, _ => 0
def rem5 (ls us : List Nat) : Nat := remR ls.reverse us.reverse
structure Ctr (ls us : List Nat) : Prop where
  l5 : ls.length = 5
  a5 : us.length = 5
  lt : ∀ k : Nat, k < 5 → (us[k]?).getD 0 < (ls[k]?).getD 0
theorem five {us : List Nat} (h : us.length = 5) : ∃ a b c d e, us = [a, b, c, d, e] := by
  match us, h with
  | [a, b, c, d, e], _ => exact ⟨a, b, c, d, e, rfl⟩
theorem Ctr.start {ls : List Nat} (h : ls.length = 5) (hp : ∀ l ∈ ls, 0 < l) : Ctr ls [0, 0, 0, 0, 0] := ⟨h, rfl, fun k hk => by
  have h1 : ls[k]? = some (ls[k]'(by omega)) := List.getElem?_eq_getElem (by omega)
  have h2 := hp _ (List.getElem_mem (l := ls) (n := k) (by omega))
  rw [h1]
  have : (([0, 0, 0, 0, 0] : List Nat)[k]?).getD 0 = 0 := by
    rcases k with _ | _ | _ | _ | _ | k <;> first | rfl | omega
  rw [this]
  exact h2⟩
theorem Ctr.next {ls us bs : List Nat} (h : Ctr ls us) (ho : odo ls us 5 = some bs) : Ctr ls bs ∧ rem5 ls bs + 1 = rem5 ls us := by
  obtain ⟨a, b, c, d, e, rfl⟩ := five h.a5
  obtain ⟨l0, l1, l2, l3, l4, rfl⟩ := five h.l5
  have q0 := h.lt 0 (by omega); have q1 := h.lt 1 (by omega); have q2 := h.lt 2 (by omega); have q3 := h.lt 3 (by omega); have q4 := h.lt 4 (by omega)
  simp at q0 q1 q2 q3 q4
  have mk : ∀ {x0 x1 x2 x3 x4 : Nat}, x0 < l0 → x1 < l1 → x2 < l2 → x3 < l3 → x4 < l4 → Ctr [l0, l1, l2, l3, l4] [x0, x1, x2, x3, x4] := fun h0 h1 h2 h3 h4 => ⟨rfl, rfl, fun k hk => by
    rcases k with _ | _ | _ | _ | _ | k <;> simp <;> omega⟩
  have st : ∀ {l r : Nat}, 0 < l → l - 1 - 0 + l * r + 1 = l * (r + 1) := fun {l r} hl => by rw [Nat.mul_succ]; omega
  simp only [rem5, List.reverse_cons, List.reverse_nil, List.nil_append, List.cons_append, remR, Nat.mul_zero, Nat.add_zero]
  by_cases e4 : e + 1 = l4
  · rw [odo_pos (by exact e4)] at ho; simp only [List.set_cons_zero, List.set_cons_succ] at ho
    by_cases e3 : d + 1 = l3
    · rw [odo_pos (by exact e3)] at ho; simp only [List.set_cons_zero, List.set_cons_succ] at ho
      by_cases e2 : c + 1 = l2
      · rw [odo_pos (by exact e2)] at ho; simp only [List.set_cons_zero, List.set_cons_succ] at ho
        by_cases e1 : b + 1 = l1
        · rw [odo_pos (by exact e1)] at ho; simp only [List.set_cons_zero, List.set_cons_succ] at ho
          by_cases e0 : a + 1 = l0
          · rw [odo_pos (by exact e0)] at ho; simp only [List.set_cons_zero, odo] at ho; cases ho
          · rw [odo_neg (by exact e0)] at ho; simp only [List.set_cons_zero, List.set_cons_succ, List.getElem?_cons_zero, List.getElem?_cons_succ, Option.getD_some] at ho
            cases ho
            refine ⟨mk (by omega) (by omega) (by omega) (by omega) (by omega), ?_⟩
            simp only [List.reverse_cons, List.reverse_nil, List.nil_append, List.cons_append, remR, Nat.mul_zero, Nat.add_zero]
            have f1 : l0 - 1 - (a + 1) + 1 = l0 - 1 - a := by omega
            have f2 : l1 - 1 - b = 0 := by omega
            have f3 : l2 - 1 - c = 0 := by omega
            have f4 : l3 - 1 - d = 0 := by omega
            have f5 : l4 - 1 - e = 0 := by omega
            rw [f2, f3, f4, f5, ← f1]
            simp only [Nat.zero_add]
            rw [← st (l := l1) (by omega), ← st (l := l2) (by omega), ← st (l := l3) (by omega), ← st (l := l4) (by omega)]
        · rw [odo_neg (by exact e1)] at ho; simp only [List.set_cons_zero, List.set_cons_succ, List.getElem?_cons_zero, List.getElem?_cons_succ, Option.getD_some] at ho
          cases ho
          refine ⟨mk (by omega) (by omega) (by omega) (by omega) (by omega), ?_⟩
          simp only [List.reverse_cons, List.reverse_nil, List.nil_append, List.cons_append, remR, Nat.mul_zero, Nat.add_zero]
          have f2 : l1 - 1 - b + l1 * (l0 - 1 - a) = l1 - 1 - (b + 1) + l1 * (l0 - 1 - a) + 1 := by omega
          have f3 : l2 - 1 - c = 0 := by omega
          have f4 : l3 - 1 - d = 0 := by omega
          have f5 : l4 - 1 - e = 0 := by omega
          rw [f3, f4, f5, f2]
          simp only [Nat.zero_add]
          rw [← st (l := l2) (by omega), ← st (l := l3) (by omega), ← st (l := l4) (by omega)]
      · rw [odo_neg (by exact e2)] at ho; simp only [List.set_cons_zero, List.set_cons_succ, List.getElem?_cons_zero, List.getElem?_cons_succ, Option.getD_some] at ho
        cases ho
        refine ⟨mk (by omega) (by omega) (by omega) (by omega) (by omega), ?_⟩
        simp only [List.reverse_cons, List.reverse_nil, List.nil_append, List.cons_append, remR, Nat.mul_zero, Nat.add_zero]
        obtain ⟨R, hR⟩ : ∃ R, R = l1 - 1 - b + l1 * (l0 - 1 - a) := ⟨_, rfl⟩
        rw [← hR]
        have f3 : l2 - 1 - c + l2 * R = l2 - 1 - (c + 1) + l2 * R + 1 := by omega
        have f4 : l3 - 1 - d = 0 := by omega
        have f5 : l4 - 1 - e = 0 := by omega
        rw [f4, f5, f3]
        simp only [Nat.zero_add]
        rw [← st (l := l3) (by omega), ← st (l := l4) (by omega)]
    · rw [odo_neg (by exact e3)] at ho; simp only [List.set_cons_zero, List.set_cons_succ, List.getElem?_cons_zero, List.getElem?_cons_succ, Option.getD_some] at ho
      cases ho
      refine ⟨mk (by omega) (by omega) (by omega) (by omega) (by omega), ?_⟩
      simp only [List.reverse_cons, List.reverse_nil, List.nil_append, List.cons_append, remR, Nat.mul_zero, Nat.add_zero]
      obtain ⟨R, hR⟩ : ∃ R, R = l2 - 1 - c + l2 * (l1 - 1 - b + l1 * (l0 - 1 - a)) := ⟨_, rfl⟩
      rw [← hR]
      have f4 : l3 - 1 - d + l3 * R = l3 - 1 - (d + 1) + l3 * R + 1 := by omega
      have f5 : l4 - 1 - e = 0 := by omega
      rw [f5, f4]
      simp only [Nat.zero_add]
      rw [← st (l := l4) (by omega)]
  · rw [odo_neg (by exact e4)] at ho; simp only [List.set_cons_zero, List.set_cons_succ, List.getElem?_cons_zero, List.getElem?_cons_succ, Option.getD_some] at ho
    cases ho
    refine ⟨mk (by omega) (by omega) (by omega) (by omega) (by omega), ?_⟩
    simp only [List.reverse_cons, List.reverse_nil, List.nil_append, List.cons_append, remR, Nat.mul_zero, Nat.add_zero]
    omega

/-- The counters after so many calls; none where there is no further one. -/
def ctrAt (ls : List Nat) : Nat → Option (List Nat)
  | 0 => some [0, 0, 0, 0, 0]
  | m + 1 => (ctrAt ls m).bind fun us => odo ls us 5
theorem ctrAt_ok {ls : List Nat} (h : ls.length = 5) (hp : ∀ l ∈ ls, 0 < l) : ∀ (m : Nat) (us : List Nat), ctrAt ls m = some us → Ctr ls us ∧ rem5 ls us + m = rem5 ls [0, 0, 0, 0, 0]
  | 0, us, e => by cases e; exact ⟨Ctr.start h hp, by omega⟩
  | m + 1, us, e => by
    obtain ⟨bs, h1, h2⟩ := Option.bind_eq_some_iff.1 e
    obtain ⟨a, b⟩ := ctrAt_ok h hp m bs h1
    obtain ⟨c, d⟩ := a.next h2
    exact ⟨c, by omega⟩
theorem ctrAt_none {ls : List Nat} {m : Nat} (h : ctrAt ls m = none) : ∀ d, ctrAt ls (m + d) = none
  | 0 => h
  | d + 1 => by show (ctrAt ls (m + d)).bind _ = none; rw [ctrAt_none h d]; rfl

/-- A call: its number and its arguments. -/
structure Cl where
  num : Int
  args : List Int
def lensOf (ws : List (List Int)) : List Nat := ws.map List.length
def wordAt2 (ws : List (List Int)) (us : List Nat) (k : Nat) : Int := (((ws[k]?).getD [])[(us[k]?).getD 0]?).getD 0
def callAt (ws : List (List Int)) (us : List Nat) : Cl := ⟨wordAt2 ws us 0, [wordAt2 ws us 1, wordAt2 ws us 2, wordAt2 ws us 3, wordAt2 ws us 4]⟩
/-- The first m near calls. -/
def callsTo (ws : List (List Int)) : Nat → List Cl
  | 0 => []
  | m + 1 => callsTo ws m ++ (match ctrAt (lensOf ws) m with | some us => [callAt ws us] | none => [])
theorem callsTo_some {ws : List (List Int)} {m : Nat} {us : List Nat} (h : ctrAt (lensOf ws) m = some us) : callsTo ws (m + 1) = callsTo ws m ++ [callAt ws us] := by simp [callsTo, h]
theorem ctrAt_back {ls : List Nat} {m j : Nat} {us : List Nat} (h : ctrAt ls m = some us) (hj : j ≤ m) : ∃ bs, ctrAt ls j = some bs := by
  cases hc : ctrAt ls j with
  | some bs => exact ⟨bs, rfl⟩
  | none =>
    have := ctrAt_none hc (m - j)
    rw [show j + (m - j) = m from by omega, h] at this
    cases this
theorem callsTo_len {ws : List (List Int)} : ∀ {m : Nat} {us : List Nat}, ctrAt (lensOf ws) m = some us → (callsTo ws m).length = m ∧ (callsTo ws (m + 1)).length = m + 1
  | 0, us, h => ⟨rfl, by rw [callsTo_some h]; rfl⟩
  | m + 1, us, h => by
    obtain ⟨bs, hb⟩ := ctrAt_back h (Nat.le_succ m)
    have h1 := (callsTo_len hb).2
    exact ⟨h1, by rw [callsTo_some h, List.length_append, h1]; rfl⟩
/-- The near calls: all of them, but not more than so many. -/
def NearIs (ws : List (List Int)) (most : Nat) (cs : List Cl) : Prop := ∃ m, cs = callsTo ws m ∧ (∀ j < m, ctrAt (lensOf ws) j ≠ none) ∧ (m = most ∨ m < most ∧ ctrAt (lensOf ws) m = none)
theorem NearIs.one {ws : List (List Int)} {most : Nat} {a b : List Cl} (h : NearIs ws most a) (h' : NearIs ws most b) : a = b := by
  obtain ⟨m, rfl, h1, h2⟩ := h
  obtain ⟨n, rfl, h3, h4⟩ := h'
  rcases Nat.lt_trichotomy m n with e | e | e
  · exact absurd (h3 m e) (fun h => by
      rcases h2 with h2 | ⟨_, h2⟩
      · rcases h4 with h4 | ⟨h4, _⟩ <;> omega
      · exact h h2)
  · rw [e]
  · exact absurd (h1 n e) (fun h => by
      rcases h4 with h4 | ⟨_, h4⟩
      · rcases h2 with h2 | ⟨h2, _⟩ <;> omega
      · exact h h4)
/-- The words of a policy, field by field. -/
def nearWs (rs : List Rl) : List (List Int) := [nearW rs 0, nearW rs 1, nearW rs 2, nearW rs 3, nearW rs 4]
end Go.Proofs.YtkiacbfpnidjlaaGreatDoor
