/- Decimals: what figures say, and how they are written; reading a number at the head of a text is unique. No program in sight. -/
import Derived.Test.YtoibocaaeimplaaDoorDec
namespace Go.Proofs.YtoibocaaeimplaaDoor
open Go.RowKit
set_option linter.unusedSimpArgs false
set_option linter.unusedVariables false

theorem ofNat_dig {d : Nat} (h : d < 10) : (UInt8.ofNat (48 + d)).toNat = 48 + d := by
  have e : (UInt8.ofNat (48 + d)).toNat = (48 + d) % 256 := rfl
  rw [e]; omega
theorem isDig_ofNat {d : Nat} (h : d < 10) : isDig (UInt8.ofNat (48 + d)) = true := isDig_iff.2 (by rw [ofNat_dig h]; omega)
theorem dec_digits (u : Nat) : ∀ x ∈ Lib.decDigits u, isDig x = true := by
  induction u using Nat.strongRecOn with
  | _ u ih =>
    intro x hx
    by_cases h : u < 10
    · rw [decDigits_small h] at hx
      rw [List.mem_singleton] at hx; subst hx; exact isDig_ofNat h
    · rw [decDigits_big h] at hx
      rcases List.mem_append.1 hx with h1 | h1
      · exact ih _ (by omega) x h1
      · rw [List.mem_singleton] at h1; subst h1; exact isDig_ofNat (Nat.mod_lt _ (by omega))
theorem dec_val (u : Nat) : valOn 0 (Lib.decDigits u) = u := by
  induction u using Nat.strongRecOn with
  | _ u ih =>
    by_cases h : u < 10
    · rw [decDigits_small h]; simp only [valOn]; rw [ofNat_dig h]; omega
    · rw [decDigits_big h, valOn_snoc, ih _ (by omega), ofNat_dig (Nat.mod_lt _ (by omega))]; omega
theorem dec_ne (u : Nat) : Lib.decDigits u ≠ [] := by
  by_cases h : u < 10
  · rw [decDigits_small h]; simp
  · rw [decDigits_big h]; simp
theorem dec_head (u : Nat) (h : 0 < u) : (Lib.decDigits u)[0]? ≠ some 48 := by
  induction u using Nat.strongRecOn with
  | _ u ih =>
    by_cases hs : u < 10
    · rw [decDigits_small hs]
      intro e
      have := congrArg UInt8.toNat (Option.some.inj e)
      rw [ofNat_dig hs] at this
      have h2 : (48 : UInt8).toNat = 48 := rfl
      omega
    · rw [decDigits_big hs, List.getElem?_append_left (List.length_pos_iff.2 (dec_ne _))]
      exact ih _ (by omega) (by omega)

/-- Figures without noughts ahead are the number's own. -/
theorem dec_of_digits (l : List UInt8) (h0 : l ≠ []) (hd : ∀ x ∈ l, isDig x = true) (hz : 1 < l.length → l[0]? ≠ some 48) : Lib.decDigits (valOn 0 l).toNat = l := by
  induction hn : l.length using Nat.strongRecOn generalizing l with
  | _ n ih =>
    rcases List.eq_nil_or_concat l with h | ⟨l', x, h⟩
    · exact absurd h h0
    · rw [List.concat_eq_append] at h
      have hx := isDig_iff.1 (hd x (by rw [h]; simp))
      have hxe : UInt8.ofNat (48 + (x.toNat - 48)) = x := by
        apply UInt8.toNat_inj.1
        rw [ofNat_dig (by omega)]; omega
      by_cases hl : l' = []
      · subst hl
        subst h
        simp only [List.nil_append, valOn]
        rw [decDigits_small (by omega), show (0 * 10 + ((x.toNat : Int) - 48)).toNat = x.toNat - 48 by omega, hxe]
      · have hd' : ∀ y ∈ l', isDig y = true := fun y hy => hd y (by rw [h]; simp [hy])
        have hlen : l'.length < l.length := by rw [h]; simp
        have hz0 : l'[0]? ≠ some 48 := by
          have := hz (by rw [h]; simp; exact List.length_pos_iff.2 hl)
          rwa [h, List.getElem?_append_left (List.length_pos_iff.2 hl)] at this
        have e := ih l'.length (by omega) l' hl hd' (fun _ => hz0) rfl
        have hb := valOn_bd l' 0 (by omega) hd'
        have hpos : valOn 0 l' ≠ 0 := by
          intro h0'
          rw [h0'] at e
          rw [show (0 : Int).toNat = 0 from rfl, decDigits_small (by omega)] at e
          rw [← e] at hz0
          exact hz0 rfl
        rw [h, valOn_snoc]
        rw [decDigits_big (by omega)]
        rw [show (valOn 0 l' * 10 + ((x.toNat : Int) - 48)).toNat / 10 = (valOn 0 l').toNat by omega, e]
        rw [show (valOn 0 l' * 10 + ((x.toNat : Int) - 48)).toNat % 10 = x.toNat - 48 by omega, hxe]

theorem itoa_val (n : Int) (h : 0 ≤ n) : Lib.itoa n = Lib.decDigits n.toNat := by unfold Lib.itoa; rw [if_neg (by omega)]
theorem itoa_digits (n : Int) (h : 0 ≤ n) : ∀ x ∈ Lib.itoa n, isDig x = true := by rw [itoa_val n h]; exact dec_digits _
theorem itoa_ne (n : Int) (h : 0 ≤ n) : Lib.itoa n ≠ [] := by rw [itoa_val n h]; exact dec_ne _
theorem itoa_valOn (n : Int) (h : 0 ≤ n) : valOn 0 (Lib.itoa n) = n := by rw [itoa_val n h, dec_val]; omega

/-- A number that a text reads as is written just so. -/
theorem numOf_itoa (n : Int) (h0 : 0 ≤ n) (h1 : n ≤ 4294967295) : numOf (Lib.itoa n) = n := by
  have hl : (Lib.itoa n).length ≤ 10 := by rw [itoa_val n h0]; exact decDigits_le 9 _ (by omega)
  have hp : 1 ≤ (Lib.itoa n).length := List.length_pos_iff.2 (itoa_ne n h0)
  rw [numOf_yes ⟨hp, hl⟩ ?_ (itoa_digits n h0), itoa_valOn n h0, if_pos h1]
  rintro ⟨h2, h3⟩
  by_cases hz : n = 0
  · subst hz
    have : Lib.itoa 0 = [48] := by rw [itoa_val 0 (by omega), show (0 : Int).toNat = 0 from rfl, decDigits_small (by omega)]; rfl
    rw [this] at h2; simp at h2
  · rw [itoa_val n h0] at h3
    exact dec_head _ (by omega) h3
theorem itoa_numOf (l : List UInt8) (h : 0 ≤ numOf l) : Lib.itoa (numOf l) = l ∧ numOf l ≤ 4294967295 := by
  by_cases h1 : 1 ≤ l.length ∧ l.length ≤ 10
  · by_cases h2 : 1 < l.length ∧ l[0]? = some 48
    · rw [numOf_no2 h2] at h; omega
    · by_cases h3 : ∀ x ∈ l, isDig x = true
      · rw [numOf_yes h1 h2 h3] at h ⊢
        split
        · rename_i hb
          have hv := (valOn_bd l 0 (by omega) h3).1
          refine ⟨?_, hb⟩
          rw [itoa_val _ hv]
          exact dec_of_digits l (by intro e; rw [e] at h1; simp at h1) h3 (fun h4 h5 => h2 ⟨h4, h5⟩)
        · rename_i hb
          rw [if_neg hb] at h; omega
      · have : ∃ x ∈ l, isDig x = false := by
          apply Classical.byContradiction
          intro hn
          apply h3
          intro x hx
          cases hd : isDig x with
          | true => rfl
          | false => exact absurd ⟨x, hx, hd⟩ hn
        obtain ⟨x, hx, hd⟩ := this
        rw [numOf_no3 hx hd] at h; omega
  · rw [numOf_no1 h1] at h; omega

/-- What stands behind a number does not begin with a figure. -/
def noDig (r : List UInt8) : Prop := ∀ x, r[0]? = some x → isDig x = false
/-- A text begins with a number, written as it must be, and 'r' is what is left. -/
def NumAt (most : Int) (l : List UInt8) (v : Int) (r : List UInt8) : Prop := (0 ≤ v ∧ v ≤ most) ∧ l = Lib.itoa v ++ r ∧ noDig r

theorem digits_split : ∀ (a b r s : List UInt8), (∀ x ∈ a, isDig x = true) → (∀ x ∈ b, isDig x = true) → noDig r → noDig s → a ++ r = b ++ s → a = b ∧ r = s
  | [], [], r, s, _, _, _, _, h => ⟨rfl, by simpa using h⟩
  | [], y :: b, r, s, _, hb, hr, _, h => by
    have := hr y (by simp at h; rw [h]; rfl)
    rw [hb y (by simp)] at this; cases this
  | x :: a, [], r, s, ha, _, _, hs, h => by
    have := hs x (by simp at h; rw [← h]; rfl)
    rw [ha x (by simp)] at this; cases this
  | x :: a, y :: b, r, s, ha, hb, hr, hs, h => by
    simp only [List.cons_append, List.cons.injEq] at h
    obtain ⟨e1, e2⟩ := digits_split a b r s (fun z hz => ha z (by simp [hz])) (fun z hz => hb z (by simp [hz])) hr hs h.2
    exact ⟨by rw [h.1, e1], e2⟩
theorem NumAt.unique {m m' : Int} {l r r' : List UInt8} {v v' : Int} (h : NumAt m l v r) (h' : NumAt m' l v' r') : v = v' ∧ r = r' := by
  obtain ⟨⟨a0, _⟩, e, n⟩ := h
  obtain ⟨⟨b0, _⟩, e', n'⟩ := h'
  obtain ⟨x, y⟩ := digits_split _ _ _ _ (itoa_digits v a0) (itoa_digits v' b0) n n' (e.symm.trans e')
  refine ⟨?_, y⟩
  rw [← itoa_valOn v a0, x, itoa_valOn v' b0]

theorem valOn_append : ∀ (a b : List UInt8) (v : Int), valOn v (a ++ b) = valOn (valOn v a) b
  | [], _, _ => rfl
  | x :: a, b, v => valOn_append a b _
theorem NumAt.pre {most : Int} {l : List UInt8} {v : Int} {r : List UInt8} (h : NumAt most l v r) {k : Nat} (hk : k ≤ l.length) (hd : ∀ x ∈ l.take k, isDig x = true) : ∃ t, Lib.itoa v = l.take k ++ t := by
  obtain ⟨⟨h0, _⟩, e, n⟩ := h
  have hle : k ≤ (Lib.itoa v).length := by
    apply Classical.byContradiction
    intro hn
    have hlt : (Lib.itoa v).length < k := by omega
    have h1 : l[(Lib.itoa v).length]? = r[0]? := by rw [e, List.getElem?_append_right (Nat.le_refl _), Nat.sub_self]
    have h2 : l[(Lib.itoa v).length]? = some (l[(Lib.itoa v).length]'(by omega)) := List.getElem?_eq_getElem (by omega)
    have h3 := n _ (h1.symm.trans h2)
    have h4 := hd (l[(Lib.itoa v).length]'(by omega)) (by
      rw [List.mem_take_iff_getElem]
      exact ⟨_, by omega, rfl⟩)
    rw [h3] at h4; cases h4
  refine ⟨(Lib.itoa v).drop k, ?_⟩
  rw [e, List.take_append_of_le_length hle, List.take_append_drop]
theorem no_num_zero {most : Int} {l : List UInt8} {k : Nat} (hk : k < l.length) (h1 : 0 < k) (hd : ∀ x ∈ l.take (k + 1), isDig x = true) (hv : valOn 0 (l.take k) = 0) : ¬ ∃ v r, NumAt most l v r := by
  rintro ⟨v, r, h⟩
  obtain ⟨t, ht⟩ := h.pre (k := k + 1) (by omega) hd
  have h0 := h.1.1
  rw [itoa_val v h0] at ht
  have hlen : k + 1 ≤ (Lib.decDigits v.toNat).length := by rw [ht]; simp; omega
  by_cases hz : v.toNat = 0
  · rw [hz, decDigits_small (by omega)] at hlen; simp at hlen; omega
  · apply dec_head v.toNat (by omega)
    rw [ht, List.getElem?_append_left (by simp; omega), List.getElem?_take_of_lt (by omega)]
    obtain ⟨k', rfl⟩ : ∃ k', k = k' + 1 := ⟨k - 1, by omega⟩
    cases l with
    | nil => simp at hk
    | cons x l' =>
      have hx := isDig_iff.1 (hd x (by simp))
      rw [List.take_succ_cons] at hv
      have hv' : valOn ((x.toNat : Int) - 48) (l'.take k') = 0 := by simpa [valOn] using hv
      have hb := (valOn_bd (l'.take k') ((x.toNat : Int) - 48) (by omega) (fun y hy => hd y (by
        rw [List.take_succ_cons]
        refine List.mem_cons_of_mem _ ?_
        rw [List.mem_take_iff_getElem] at hy ⊢
        obtain ⟨i, hi, e⟩ := hy
        exact ⟨i, by omega, e⟩))).1
      rw [hv'] at hb
      show some x = some 48
      congr 1
      apply UInt8.toNat_inj.1
      show _ = 48
      omega
theorem no_num_over {most : Int} {l : List UInt8} {k : Nat} (hk : k ≤ l.length) (hd : ∀ x ∈ l.take k, isDig x = true) (hv : most < valOn 0 (l.take k)) : ¬ ∃ v r, NumAt most l v r := by
  rintro ⟨v, r, h⟩
  obtain ⟨t, ht⟩ := h.pre hk hd
  have h1 := itoa_valOn v h.1.1
  have hdt := itoa_digits v h.1.1
  rw [ht] at h1 hdt
  rw [valOn_append] at h1
  have h2 := (valOn_bd (l.take k) 0 (by omega) hd).1
  have h3 := (valOn_bd t (valOn 0 (l.take k)) h2 (fun x hx => hdt x (by simp [hx]))).1
  have := h.1.2
  omega
theorem no_num_none {most : Int} {l : List UInt8} (h : noDig l) : ¬ ∃ v r, NumAt most l v r := by
  rintro ⟨v, r, ⟨h0, _⟩, e, n⟩
  have hne := itoa_ne v h0
  have hd := itoa_digits v h0
  cases hi : Lib.itoa v with
  | nil => exact hne hi
  | cons x t =>
    rw [hi] at e hd
    have := h x (by rw [e]; rfl)
    rw [hd x (by simp)] at this; cases this
theorem num_yes {most : Int} {l : List UInt8} {k : Nat} (hk : k ≤ l.length) (h1 : 0 < k) (hd : ∀ x ∈ l.take k, isDig x = true) (hz : 1 < k → l[0]? ≠ some 48) (hm : valOn 0 (l.take k) ≤ most) (hn : noDig (l.drop k)) : NumAt most l (valOn 0 (l.take k)) (l.drop k) := by
  have h0 := (valOn_bd (l.take k) 0 (by omega) hd).1
  refine ⟨⟨h0, hm⟩, ?_, hn⟩
  rw [itoa_val _ h0, dec_of_digits (l.take k) (by intro e; have := congrArg List.length e; rw [List.length_take, List.length_nil] at this; omega) hd (fun hl => by
    have hl' : 1 < k := by simp at hl; omega
    rw [List.getElem?_take_of_lt h1]; exact hz hl'), List.take_append_drop]
end Go.Proofs.YtoibocaaeimplaaDoor
