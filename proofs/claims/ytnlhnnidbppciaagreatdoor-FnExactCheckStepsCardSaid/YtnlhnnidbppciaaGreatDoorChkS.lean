/- spec's check: a step, the room of some bits, what is told of a look. -/
import Derived.Test.YtnlhnnidbppciaaGreatDoorChkM
import Derived.Test.YtnlhnnidbppciaaGreatDoorKit
namespace Go.Proofs.YtnlhnnidbppciaaGreatDoor
open Go.RowKit
set_option linter.unusedSimpArgs false
set_option linter.unusedVariables false

/-- All values of what is known are words. -/
def KnW (l : List (Lk × Bool)) : Prop := ∀ x ∈ l, 0 ≤ x.1.value ∧ x.1.value ≤ 4294967295
theorem KnW.nil : KnW [] := fun x h => by cases h
theorem KnW.snoc {l : List (Lk × Bool)} (h : KnW l) {q : Lk} {b : Bool} (hq : 0 ≤ q.value ∧ q.value ≤ 4294967295) : KnW (l ++ [(q, b)]) := fun x hx => by
  rcases List.mem_append.1 hx with h1 | h1
  · exact h x h1
  · rw [List.mem_singleton] at h1; subst h1; exact hq

theorem take_next {α : Type} {l : List α} {k : Nat} {x : α} (h : l[k]? = some x) : l.take (k + 1) = l.take k ++ [x] := by
  rw [List.take_add_one, h]; rfl
/-- What one look more says of the room. -/
theorem room_next {l : List (Lk × Bool)} {q : Lk} {k : Nat} {f m o v : Int} {h : Bool} (hx : l[k]? = some (⟨f, m, o, v⟩, h)) (h1 : oneOf (l.take k) q = none) (hw : KnW l) :
    ((f ≠ q.field ∨ m ≠ q.mask ∨ (o = 1 ∧ h = false) ∨ (o ≠ 1 ∧ o ≠ 3) ∨ (o = 3 ∧ h = true ∧ ¬ lowOf (l.take k) q < v + 1) ∨ (o = 3 ∧ h = false ∧ ¬ v < highOf (l.take k) q)) → oneOf (l.take (k + 1)) q = none ∧ lowOf (l.take (k + 1)) q = lowOf (l.take k) q ∧ highOf (l.take (k + 1)) q = highOf (l.take k) q) ∧
    (f = q.field → m = q.mask → o = 3 → h = true → lowOf (l.take k) q < v + 1 → oneOf (l.take (k + 1)) q = none ∧ lowOf (l.take (k + 1)) q = v + 1 ∧ highOf (l.take (k + 1)) q = highOf (l.take k) q) ∧
    (f = q.field → m = q.mask → o = 3 → h = false → v < highOf (l.take k) q → oneOf (l.take (k + 1)) q = none ∧ lowOf (l.take (k + 1)) q = lowOf (l.take k) q ∧ highOf (l.take (k + 1)) q = v) ∧
    (f = q.field → m = q.mask → o = 1 → h = true → roomLow l q = v ∧ roomHigh l q = v) := by
  have hv := hw _ (List.mem_of_getElem? hx)
  simp only at hv
  have e1 := oneOf_snoc (l.take k) (⟨f, m, o, v⟩, h) q
  have e2 := lowOf_snoc (l.take k) (⟨f, m, o, v⟩, h) q (fun _ => by show 0 ≤ v + 1; omega)
  have e3 := highOf_snoc (l.take k) (⟨f, m, o, v⟩, h) q
  rw [← take_next hx] at e1 e2 e3
  rw [h1] at e1
  refine ⟨fun hc => ?_, fun a b c d e => ?_, fun a b c d e => ?_, fun a b c d => ?_⟩
  · rw [e1, e2, e3]
    refine ⟨?_, ?_, ?_⟩
    · simp only
      rw [if_neg]
      rintro ⟨a, b, c, d⟩
      simp only at a b c d
      rcases hc with hc | hc | ⟨_, hc⟩ | ⟨hc, _⟩ | ⟨hc, _⟩ | ⟨hc, _⟩
      · exact hc a
      · exact hc b
      · rw [d] at hc; cases hc
      · exact hc c
      · omega
      · omega
    · by_cases hs : selLow (⟨f, m, o, v⟩, h) q
      · rw [if_pos hs]
        obtain ⟨a, b, c, d⟩ := hs
        simp only at a b c d ⊢
        rcases hc with hc | hc | ⟨hc, _⟩ | ⟨_, hc⟩ | ⟨_, _, hc⟩ | ⟨_, hc, _⟩
        · exact absurd a hc
        · exact absurd b hc
        · omega
        · exact absurd c hc
        · omega
        · rw [d] at hc; cases hc
      · rw [if_neg hs]
    · by_cases hs : selHigh (⟨f, m, o, v⟩, h) q
      · rw [if_pos hs]
        obtain ⟨a, b, c, d⟩ := hs
        simp only at a b c d ⊢
        rcases hc with hc | hc | ⟨hc, _⟩ | ⟨_, hc⟩ | ⟨_, hc, _⟩ | ⟨_, _, hc⟩
        · exact absurd a hc
        · exact absurd b hc
        · omega
        · exact absurd c hc
        · rw [d] at hc; cases hc
        · omega
      · rw [if_neg hs]
  · have n1 : ¬ selOne (⟨f, m, o, v⟩, h) q := fun hs => by have := hs.2.2.1; simp only at this; omega
    have n2 : selLow (⟨f, m, o, v⟩, h) q := ⟨a, b, c, d⟩
    have n3 : ¬ selHigh (⟨f, m, o, v⟩, h) q := fun hs => by have := hs.2.2.2; simp only at this; rw [d] at this; cases this
    rw [e1, e2, e3, if_pos n2, if_neg n3]
    refine ⟨by simp only; rw [if_neg n1], by simp only; omega, rfl⟩
  · have n1 : ¬ selOne (⟨f, m, o, v⟩, h) q := fun hs => by have := hs.2.2.1; simp only at this; omega
    have n2 : ¬ selLow (⟨f, m, o, v⟩, h) q := fun hs => by have := hs.2.2.2; simp only at this; rw [d] at this; cases this
    have n3 : selHigh (⟨f, m, o, v⟩, h) q := ⟨a, b, c, d⟩
    rw [e1, e2, e3, if_neg n2, if_pos n3]
    refine ⟨by simp only; rw [if_neg n1], rfl, by simp only; omega⟩
  · have n1 : selOne (⟨f, m, o, v⟩, h) q := ⟨a, b, c, d⟩
    simp only at e1
    rw [if_pos n1] at e1
    have : oneOf l q = some v := by
      rw [← List.take_append_drop (k + 1) l]
      have hk : ∀ (x y : List (Lk × Bool)) (z : Int), oneOf x q = some z → oneOf (x ++ y) q = some z := fun x y z => by
        induction x with
        | nil => intro h; cases h
        | cons t x ih => intro h; simp only [List.cons_append, oneOf] at *; split <;> simp_all
      exact hk _ _ _ e1
    exact ⟨by simp [roomLow, this], by simp [roomHigh, this]⟩

theorem ret_ii {a b c d : Int} (h : a = c) (k : b = d) : Ending.returned (.tuple #[.int .i64 a, .int .i64 b]) = .returned (.tuple #[.int .i64 c, .int .i64 d]) := by rw [h, k]
section
variable (cg : Nat) (cv rv : Value) (last : Int)
set_option maxHeartbeats 1000000 in
theorem sStep_on (s : Nat) (w : World) (h : Blk w cg 84 #[cv, rv, .int .i64 last, .int .i64 (s : Int), .bool true]) (hs : s < 6000) :
    Calls Tryz.prog 160 #[.pointer (some ⟨cg, 0, none⟩)] w fun e w' => e = .returned (.bool true) ∧ Blk w' cg 84 #[cv, rv, .int .i64 last, .int .i64 ((s + 1 : Nat) : Int), .bool true] ∧ w.grownBy w' (some cg) := by
  have c3 := (show _ = some (Value.int .i64 (s : Int)) from h.cell 3); have c4 := (show _ = some (Value.bool true) from h.cell 4); have f3 := h.frozen 3; have f4 := h.frozen 4
  have HF := Lib.hid (h.set_ 3 (.int .i64 ((s + 1 : Nat) : Int)))
  have hd : ¬ (6000 : Int) < (s : Int) + 1 := by omega
  have hlt := h.lt
  clear h
  go_enter Tryz.func160, Tryz.ntmps160
  go_wp2
  go_ret
  exact ⟨rfl, HF.out, grown_set _ _ _ _⟩
set_option maxHeartbeats 1000000 in
theorem sStep_off (s : Nat) (ok : Bool) (w : World) (h : Blk w cg 84 #[cv, rv, .int .i64 last, .int .i64 (s : Int), .bool ok]) (hs : s ≤ 20000) (ho : 6000 ≤ s ∨ ok = false) :
    Calls Tryz.prog 160 #[.pointer (some ⟨cg, 0, none⟩)] w fun e w' => e = .returned (.bool false) ∧ Blk w' cg 84 #[cv, rv, .int .i64 last, .int .i64 ((s + 1 : Nat) : Int), .bool false] ∧ w.grownBy w' (some cg) := by
  have c3 := (show _ = some (Value.int .i64 (s : Int)) from h.cell 3); have c4 := (show _ = some (Value.bool ok) from h.cell 4); have f3 := h.frozen 3; have f4 := h.frozen 4
  have HF := Lib.hid (h.set_ 3 (.int .i64 ((s + 1 : Nat) : Int))); have HG := Lib.hid ((h.set_ 3 (.int .i64 ((s + 1 : Nat) : Int))).set_ 4 (.bool false))
  clear h
  by_cases hd : (6000 : Int) < (s : Int) + 1
  · clear ho
    go_enter Tryz.func160, Tryz.ntmps160
    go_wp2
    go_ret
    exact ⟨rfl, HG.out, (grown_set _ _ _ _).trans (grown_set _ _ _ _)⟩
  · obtain rfl : ok = false := by rcases ho with h | h; omega; exact h
    clear ho
    go_enter Tryz.func160, Tryz.ntmps160
    go_wp2
    go_ret
    exact ⟨rfl, HF.out, grown_set _ _ _ _⟩
end

set_option maxHeartbeats 4000000 in
theorem l6Room_any (lv : Value) (l : List (Lk × Bool)) (q : Lk) (w : World) (hl : Sl w 5 lv (knR l)) (hw : KnW l) :
    Calls Tryz.prog 220 #[lv, .int .i64 q.field, .int .i64 q.mask] w fun e w' => e = .returned (.tuple #[.int .i64 (roomLow l q), .int .i64 (roomHigh l q)]) ∧ Below w.heap.size w w' := by
  obtain ⟨A, n, c, rfl, hA⟩ := hl
  have hn : l.length = n := by have := hA.len; rwa [knR_len] at this
  have hc := hA.cap
  have hm := hA.max
  unfold maxLen at hm
  have HL := Lib.hid hn; have HA := Lib.hid hA; have HW := Lib.hid hw
  clear hn hA hw
  obtain ⟨qf, qm, qo, qv⟩ := q
  simp only
  go_enter Tryz.func220, Tryz.ntmps220
  go_wp2
  go_loopw [8, 9, 10] (fun lo hi i wr => ∃ (k : Nat) (zl zh : Int), k ≤ n ∧ i = .int .i64 k ∧ lo = .int .i64 zl ∧ hi = .int .i64 zh ∧ Hid (oneOf (l.take k) ⟨qf, qm, qo, qv⟩ = none ∧ lowOf (l.take k) ⟨qf, qm, qo, qv⟩ = zl ∧ highOf (l.take k) ⟨qf, qm, qo, qv⟩ = zh) ∧ Below w.heap.size w wr) (fun _ _ i _ => n - (intOf i).toNat)
  case atStart => exact ⟨0, 0, qm, Nat.zero_le _, rfl, rfl, rfl, Lib.hid ⟨rfl, rfl, rfl⟩, Below.refl _ _⟩
  case round =>
    obtain ⟨k, zl, zh, hk, rfl, rfl, rfl, HR, hb⟩ := hrel
    have hsz := hb.size
    by_cases hlt : k < n
    · obtain ⟨b, off, ⟨⟨xf, xm, xo, xv⟩, xh⟩, rfl, hab, hgp, hcell⟩ := kn_get (cg := 0) HA.out hlt
      obtain ⟨c0, c1, c2, c3, c4⟩ := hcell wr _ hb hab
      simp only at c0 c1 c2 c3 c4
      have hv := HW.out _ (List.mem_of_getElem? hgp)
      simp only at hv
      have HN := Lib.hid (room_next hgp HR.out.1 HW.out)
      rw [HR.out.2.1, HR.out.2.2] at HN
      have fin : ∀ (zl' zh' : Int) (w' : World), Below w.heap.size w w' → oneOf (l.take (k + 1)) ⟨qf, qm, qo, qv⟩ = none ∧ lowOf (l.take (k + 1)) ⟨qf, qm, qo, qv⟩ = zl' ∧ highOf (l.take (k + 1)) ⟨qf, qm, qo, qv⟩ = zh' → (∃ (k' : Nat) (zl zh : Int), k' ≤ n ∧ Value.int .i64 ((k : Int) + 1) = .int .i64 k' ∧ Value.int .i64 zl' = .int .i64 zl ∧ Value.int .i64 zh' = .int .i64 zh ∧ Hid (oneOf (l.take k') ⟨qf, qm, qo, qv⟩ = none ∧ lowOf (l.take k') ⟨qf, qm, qo, qv⟩ = zl ∧ highOf (l.take k') ⟨qf, qm, qo, qv⟩ = zh) ∧ Below w.heap.size w w') ∧ n - (intOf (.int .i64 ((k : Int) + 1))).toNat < n - (intOf (.int .i64 (k : Int))).toNat := fun zl' zh' w' hb' h =>
        ⟨⟨k + 1, zl', zh', by omega, by go_num, rfl, rfl, Lib.hid h, hb'⟩, by simp [intOf]; omega⟩
      have FIN := Lib.hid fin
      clear hcell hgp HR fin
      by_cases h1 : xf = qf
      · by_cases h2 : xm = qm
        · subst h1 h2
          by_cases h3 : xo = 1
          · subst h3
            cases xh
            · have HS := Lib.hid (HN.out.1 (.inr (.inr (.inl ⟨rfl, rfl⟩))))
              go_wp2
              exact FIN.out _ _ _ (by go_grown) HS.out
            · obtain ⟨r1, r2⟩ := HN.out.2.2.2 rfl rfl rfl rfl
              have R1 := Lib.hid r1; have R2 := Lib.hid r2; clear r1 r2
              go_wp2
              go_region
              all_goals go_wp2
              all_goals
                go_ret2
                exact ⟨ret_ii R1.out.symm R2.out.symm, by go_grown⟩
          · by_cases h4 : xo = 3
            · subst h4
              cases xh
              · by_cases h5 : xv < zh
                · have HS := Lib.hid (HN.out.2.2.1 rfl rfl rfl rfl h5)
                  go_wp2
                  exact FIN.out _ _ _ (by go_grown) HS.out
                · have HS := Lib.hid (HN.out.1 (.inr (.inr (.inr (.inr (.inr ⟨rfl, rfl, h5⟩))))))
                  go_wp2
                  exact FIN.out _ _ _ (by go_grown) HS.out
              · by_cases h5 : zl < xv + 1
                · have HS := Lib.hid (HN.out.2.1 rfl rfl rfl rfl h5)
                  go_wp2
                  exact FIN.out _ _ _ (by go_grown) HS.out
                · have HS := Lib.hid (HN.out.1 (.inr (.inr (.inr (.inr (.inl ⟨rfl, rfl, h5⟩))))))
                  go_wp2
                  exact FIN.out _ _ _ (by go_grown) HS.out
            · have HS := Lib.hid (HN.out.1 (.inr (.inr (.inr (.inl ⟨h3, h4⟩)))))
              go_wp2
              exact FIN.out _ _ _ (by go_grown) HS.out
        · have HS := Lib.hid (HN.out.1 (.inr (.inl h2)))
          subst h1
          go_wp2
          exact FIN.out _ _ _ (by go_grown) HS.out
      · have HS := Lib.hid (HN.out.1 (.inl h1))
        go_wp2
        exact FIN.out _ _ _ (by go_grown) HS.out
    · obtain rfl : k = n := by omega
      have HE := Lib.hid (show oneOf l ⟨qf, qm, qo, qv⟩ = none ∧ lowOf l ⟨qf, qm, qo, qv⟩ = zl ∧ highOf l ⟨qf, qm, qo, qv⟩ = zh by have := HR.out; rwa [List.take_of_length_le (by rw [HL.out]; omega)] at this)
      clear HR
      go_wp2
      go_ret2
      exact ⟨ret_ii (by simp only [roomLow, HE.out.1, HE.out.2.1, Option.getD_none]) (by simp only [roomHigh, HE.out.1, HE.out.2.2, Option.getD_none]), hb⟩
end Go.Proofs.YtnlhnnidbppciaaGreatDoor
