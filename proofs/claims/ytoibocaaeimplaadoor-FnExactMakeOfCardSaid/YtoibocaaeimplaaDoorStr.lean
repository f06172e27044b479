/- Texts as lists of bytes: spec.l2Cut cuts a text at each byte; spec.l2Num reads a number; spec.l1Dec writes one. -/
import Derived.Test.YtoibocaaeimplaaDoorBase
import Derived.Lib.ItoaNum
import Derived.Lib.Strings
import Derived.Deep.DeepMust
namespace Go.Proofs.YtoibocaaeimplaaDoor
open Go.RowKit
set_option linter.unusedSimpArgs false
set_option linter.unusedVariables false

/-- A text cut at each byte 'at_'; 'cur' is what stands since the last cut. -/
def cutGo (b : UInt8) (cur : List UInt8) : List UInt8 → List (List UInt8)
  | [] => [cur]
  | x :: l => if x = b then cur :: cutGo b [] l else cutGo b (cur ++ [x]) l
def cut (b : UInt8) (l : List UInt8) : List (List UInt8) := cutGo b [] l
theorem cutGo_hit (b : UInt8) (cur l : List UInt8) : cutGo b cur (b :: l) = cur :: cutGo b [] l := by simp [cutGo]
theorem cutGo_miss {b x : UInt8} (h : ¬ x = b) (cur l : List UInt8) : cutGo b cur (x :: l) = cutGo b (cur ++ [x]) l := by simp [cutGo, h]
theorem cutGo_len (b : UInt8) : ∀ (l cur : List UInt8), (cutGo b cur l).length ≤ l.length + 1
  | [], cur => by simp [cutGo]
  | x :: l, cur => by
    unfold cutGo
    split
    · simp; exact cutGo_len b l []
    · have := cutGo_len b l (cur ++ [x]); simp; omega
theorem cut_len (b : UInt8) (l : List UInt8) : (cut b l).length ≤ l.length + 1 := cutGo_len b l []
theorem cutGo_ne (b : UInt8) : ∀ (l cur : List UInt8), cutGo b cur l ≠ []
  | [], cur => by simp [cutGo]
  | x :: l, cur => by
    unfold cutGo
    split
    · simp
    · exact cutGo_ne b l _
theorem cut_ne (b : UInt8) (l : List UInt8) : cut b l ≠ [] := cutGo_ne b l []

/-- The cells of texts. -/
def strs (ls : List (List UInt8)) : List (List Value) := ls.map fun l => [.string ⟨l.toArray⟩]
theorem strs_rows (ls : List (List UInt8)) : ∀ r ∈ strs ls, r.length = 1 := by simp [strs]
theorem strs_len (ls : List (List UInt8)) : (strs ls).length = ls.length := by simp [strs]
theorem strs_flat (ls : List (List UInt8)) : (strs ls).flatten = ls.map fun l => Value.string ⟨l.toArray⟩ := by
  induction ls with
  | nil => rfl
  | cons x xs ih => simp [strs] at ih ⊢; exact ih

theorem info_string : (Tryd.prog.info? 9).map (fun i => (i.zero, i.size, i.bytes)) = some (some (.string ByteArray.empty), 1, 16) := by kernel_rfl

theorem byteEq {a b : UInt8} : ((a.toNat : Int) == (b.toNat : Int)) = decide (a = b) := by
  rw [Bool.eq_iff_iff]
  simp only [beq_iff_eq, decide_eq_true_eq]
  exact ⟨fun h => UInt8.toNat_inj.1 (by omega), fun h => by rw [h]⟩
theorem drop_cons {l : List UInt8} {k : Nat} (h : k < l.length) : l.drop k = l[k] :: l.drop (k + 1) := List.drop_eq_getElem_cons h
theorem take_more {l : List UInt8} {f k : Nat} (hf : f ≤ k) (h : k < l.length) : (l.drop f).take (k + 1 - f) = (l.drop f).take (k - f) ++ [l[k]] := by
  rw [show k + 1 - f = (k - f) + 1 by omega, List.take_succ_eq_append_getElem (by simp; omega)]
  congr 2
  simp [show f + (k - f) = k by omega]

set_option maxHeartbeats 1000000 in
theorem l2Cut_any (s : ByteArray) (b : UInt8) (w : World) (hs : s.size ≤ 16777216) :
    Calls Tryd.prog 47 #[.string s, .int .u8 b.toNat] w fun e w' => ∃ v, e = .returned v ∧ w'.ownsRow w.heap.size 9 1 v (cut b s.data.toList).length (strs (cut b s.data.toList)).flatten ∧ Below w.heap.size w w' := by
  obtain ⟨i0, hi0, hz0, hz1, hz2⟩ := info_parts info_string
  have hlen : s.data.toList.length = s.size := by simp
  have HLEN := Lib.hid hlen; clear hlen
  go_enter Tryd.func47, Tryd.ntmps47
  go_wp2
  go_loopw [5, 6, 7] (fun o f i wr => ∃ (k fr : Nat) (P : List (List UInt8)), fr ≤ k ∧ k ≤ s.size ∧ P.length ≤ k ∧ i = .int .i64 k ∧ f = .int .i64 fr ∧ wr.ownsRow w.heap.size 9 1 o P.length (strs P).flatten ∧
      Hid (cut b s.data.toList = P ++ cutGo b ((s.data.toList.drop fr).take (k - fr)) (s.data.toList.drop k)) ∧ Below w.heap.size w wr) (fun _ _ i _ => s.size - (intOf i).toNat)
  case atStart =>
    refine ⟨0, 0, [], Nat.le_refl _, Nat.zero_le _, Nat.le_refl _, rfl, rfl, ?_, by simp [Hid, cut], by go_grown⟩
    exact World.ownsRow_made w #[] 0 (Nat.le_refl _) (Nat.zero_le _) rfl
  case round =>
    obtain ⟨k, fr, P, hfk, hk, hpl, rfl, rfl, hown, hcut, hb⟩ := hrel
    have hsz := hb.size
    by_cases hlt : k < s.size
    · have hd0 : s.data.toList.drop k = s[k] :: s.data.toList.drop (k + 1) := drop_cons (by rw [HLEN.out]; exact hlt)
      have HD := Lib.hid hd0; clear hd0
      by_cases hx : s[k] = b
      · have hd : ((s[k].toNat : Int) == (b.toNat : Int)) = true := by rw [byteEq]; simp [hx]
        have HX := Lib.hid hx; clear hx
        go_wp2_with (at_builtin; go_must (refine wpList_app1 (w0 := wr) rfl (.tmp 20) (.tmp 25) _ rfl w.heap.size 9 Tryd.underlying65 info_string rfl (by omega) (by omega) _ P.length (strs P) rfl hown rfl (by simp [Value.oneCell']) rfl (by omega) hsz ?_); intro v1 w1 hown1 hb1 _)
        refine ⟨⟨k + 1, k + 1, P ++ [(s.data.toList.drop fr).take (k - fr)], Nat.le_refl _, by omega, by simp; omega, by go_num, by go_num, ?_, ?_, hb.trans hb1⟩, by simp [intOf]; omega⟩
        · rw [Lib.extract_eq] at hown1
          simpa [strs] using hown1
        · refine hcut.out.trans ?_
          rw [HD.out, HX.out, cutGo_hit]
          simp
      · have hd : ((s[k].toNat : Int) == (b.toNat : Int)) = false := by rw [byteEq]; simp [hx]
        go_wp2
        refine ⟨⟨k + 1, fr, P, by omega, by omega, by omega, by go_num, rfl, hown, ?_, hb⟩, by simp [intOf]; omega⟩
        refine hcut.out.trans ?_
        rw [HD.out, cutGo_miss hx, take_more hfk (by rw [HLEN.out]; exact hlt)]
        rfl
    · obtain rfl : k = s.size := by omega
      go_wp2_with (at_builtin; go_must (refine wpList_app1 (w0 := wr) rfl (.tmp 29) (.tmp 33) _ rfl w.heap.size 9 Tryd.underlying65 info_string rfl (by omega) (by omega) _ P.length (strs P) rfl hown rfl (by simp [Value.oneCell']) rfl (by omega) hsz ?_); intro v1 w1 hown1 hb1 _)
      go_ret
      have hc : cut b s.data.toList = P ++ [(s.data.toList.drop fr).take (s.size - fr)] := by
        refine hcut.out.trans ?_
        have hn : s.data.toList.drop s.size = [] := List.drop_eq_nil_of_le (by rw [HLEN.out]; omega)
        rw [hn]
        rfl
      refine ⟨_, rfl, ?_, hb.trans hb1⟩
      rw [Lib.extract_eq] at hown1
      rw [hc]
      simpa [strs] using hown1

/-! ### spec.l2Num -/
def isDig (x : UInt8) : Bool := 48 ≤ x && x ≤ 57
/-- The number that figures write, onto what stands ahead. -/
def valOn (v : Int) : List UInt8 → Int
  | [] => v
  | x :: l => valOn (v * 10 + ((x.toNat : Int) - 48)) l
theorem valOn_snoc : ∀ (l : List UInt8) (v : Int) (x : UInt8), valOn v (l ++ [x]) = valOn v l * 10 + ((x.toNat : Int) - 48)
  | [], v, x => rfl
  | y :: l, v, x => valOn_snoc l _ x
theorem isDig_iff {x : UInt8} : isDig x = true ↔ 48 ≤ x.toNat ∧ x.toNat ≤ 57 := by
  simp [isDig, UInt8.le_iff_toNat_le]
theorem valOn_bd : ∀ (l : List UInt8) (v : Int), 0 ≤ v → (∀ x ∈ l, isDig x = true) → v ≤ valOn v l ∧ valOn v l < (v + 1) * 10 ^ l.length
  | [], v, _, _ => by simp [valOn]; omega
  | x :: l, v, h0, h => by
    have hx := isDig_iff.1 (h x (by simp))
    have ih := valOn_bd l (v * 10 + ((x.toNat : Int) - 48)) (by omega) (fun y hy => h y (by simp [hy]))
    simp only [valOn, List.length_cons, Int.pow_succ]
    have hp : (0 : Int) < 10 ^ l.length := Int.pow_pos (by omega)
    have h2 : (v * 10 + ((x.toNat : Int) - 48) + 1) * 10 ^ l.length ≤ ((v + 1) * 10) * 10 ^ l.length := Int.mul_le_mul_of_nonneg_right (by omega) (by omega)
    refine ⟨by omega, ?_⟩
    rw [show (v + 1) * ((10 : Int) ^ l.length * 10) = ((v + 1) * 10) * 10 ^ l.length by rw [Int.mul_comm (10 ^ l.length) 10, Int.mul_assoc]]
    omega

/-- The number of at most ten figures without noughts ahead, up to the greatest word; -1 of any other text. -/
def numOf (l : List UInt8) : Int :=
  if l.length = 0 ∨ 10 < l.length ∨ (1 < l.length ∧ l[0]? = some 48) then -1
  else if l.all isDig then (if valOn 0 l ≤ 4294967295 then valOn 0 l else -1) else -1

theorem numOf_no1 {l : List UInt8} (h : ¬ (1 ≤ l.length ∧ l.length ≤ 10)) : numOf l = -1 := by unfold numOf; rw [if_pos (by omega)]
theorem numOf_no2 {l : List UInt8} (h : 1 < l.length ∧ l[0]? = some 48) : numOf l = -1 := by unfold numOf; rw [if_pos (by right; right; exact h)]
theorem numOf_no3 {l : List UInt8} {x : UInt8} (hx : x ∈ l) (h : isDig x = false) : numOf l = -1 := by
  unfold numOf
  split
  · rfl
  · rw [if_neg]
    intro ha
    have := List.all_eq_true.1 ha x hx
    rw [h] at this; cases this
theorem numOf_yes {l : List UInt8} (h1 : 1 ≤ l.length ∧ l.length ≤ 10) (h2 : ¬ (1 < l.length ∧ l[0]? = some 48)) (h3 : ∀ x ∈ l, isDig x = true) : numOf l = if valOn 0 l ≤ 4294967295 then valOn 0 l else -1 := by
  unfold numOf
  rw [if_neg (by intro h; rcases h with h | h | h <;> first | omega | exact h2 h), if_pos (List.all_eq_true.2 h3)]

theorem l2Num_any (s : ByteArray) (w : World) :
    Calls Tryd.prog 66 #[.string s] w fun e w' => e = .returned (.int .i64 (numOf s.data.toList)) ∧ w = w' := by
  have hlen : s.data.toList.length = s.size := by simp
  by_cases h1 : 1 ≤ s.size ∧ s.size ≤ 10
  · have hi : inB (s.size : Int) 1 10 = true := inB_iff.2 (by omega)
    obtain ⟨h1, h1'⟩ := h1
    by_cases h2 : 1 < s.size ∧ s[0] = 48
    · have hn := numOf_no2 (l := s.data.toList) ⟨by omega, by
        have : s.data.toList[0]? = some s[0] := by rw [List.getElem?_eq_getElem (by omega)]; rfl
        rw [this, h2.2]⟩
      have h3 : ((s[0].toNat : Int) == 48) = true := by rw [h2.2]; rfl
      have h4 := h2.1
      have HN := Lib.hid hn; clear hn h2 hlen
      go_enter Tryd.func66, Tryd.ntmps66
      go_wp2_with (go_at_call 39; refine (l1In_any _ _ _ _).mono ?_; rintro e w' ⟨rfl, rfl⟩)
      go_ret
      exact ⟨ret_int HN.out.symm, rfl⟩
    · have hz : s.data.toList[0]? = some s[0] := by rw [List.getElem?_eq_getElem (by omega)]; rfl
      have hg : ∀ (v : Int), (∀ x ∈ s.data.toList, isDig x = true) → valOn 0 s.data.toList = v → numOf s.data.toList = if v ≤ 4294967295 then v else -1 := fun v hv e => by
        rw [← e]; exact numOf_yes (by omega) (by rw [hlen, hz]; simpa using h2) hv
      have HG := Lib.hid hg; have HLEN := Lib.hid hlen; clear hg hlen hz
      have h5 : (1 < s.size ∧ ((s[0].toNat : Int) == 48) = false) ∨ ¬ 1 < s.size := by
        by_cases h4 : 1 < s.size
        · refine .inl ⟨h4, ?_⟩
          have : ¬ s[0] = 48 := fun e => h2 ⟨h4, e⟩
          simp only [beq_eq_false_iff_ne]
          intro e; apply this; apply UInt8.toNat_inj.1; show s[0].toNat = 48; omega
        · exact .inr h4
      clear h2
      rcases h5 with ⟨h4, h3⟩ | h4
      all_goals
        go_enter Tryd.func66, Tryd.ntmps66
        go_wp2_with (go_at_call 39; refine (l1In_any _ _ _ _).mono ?_; rintro e w' ⟨rfl, rfl⟩)
        go_loop [3, 4] (fun v i => ∃ k : Nat, k ≤ s.size ∧ i = .int .i64 k ∧ v = .int .i64 (valOn 0 (s.data.toList.take k)) ∧ Hid (∀ x ∈ s.data.toList.take k, isDig x = true)) (fun _ i => s.size - (intOf i).toNat)
        case atStart => exact ⟨0, Nat.zero_le _, rfl, rfl, by simp [Hid]⟩
        case round =>
          obtain ⟨k, hk, rfl, rfl, hd⟩ := hrel
          have hbd := valOn_bd (s.data.toList.take k) 0 (by omega) hd.out
          have hlk : (s.data.toList.take k).length = k := by rw [List.length_take, HLEN.out]; omega
          rw [hlk] at hbd
          obtain ⟨b0, b1⟩ := hbd
          by_cases hlt : k < s.size
          · have hp : (10 : Int) ^ k ≤ 10 ^ 9 := by exact_mod_cast Nat.pow_le_pow_right (n := 10) (by omega) (show k ≤ 9 by omega)
            have b2 : valOn 0 (s.data.toList.take k) ≤ 999999999 := by have : (10 : Int) ^ 9 = 1000000000 := rfl; omega
            have ht : s.data.toList.take (k + 1) = s.data.toList.take k ++ [s[k]] := by
              rw [List.take_succ_eq_append_getElem (by rw [HLEN.out]; exact hlt)]; rfl
            have hmem : s[k] ∈ s.data.toList := by
              have : s[k] = s.data.toList[k]'(by rw [HLEN.out]; exact hlt) := rfl
              rw [this]; exact List.getElem_mem _
            have HT := Lib.hid ht; have HM := Lib.hid hmem; clear ht hmem b1 hp hlk
            by_cases hdig : isDig s[k] = true
            · have hx := isDig_iff.1 hdig
              obtain ⟨x1, x2⟩ := hx
              have x3 : (48 : Int) ≤ s[k].toNat := by omega
              have x4 : (s[k].toNat : Int) ≤ 57 := by omega
              have HX := Lib.hid hdig; clear hdig
              go_wp2
              go_round
              case rel =>
                refine ⟨k + 1, by omega, by go_num, ?_, ?_⟩
                · rw [HT.out, valOn_snoc]
                · intro x hx
                  rw [HT.out] at hx
                  rcases List.mem_append.1 hx with h | h
                  · exact hd.out x h
                  · have : x = s[k] := by simpa using h
                    rw [this]; exact HX.out
              case measure => simp [intOf]; omega
            · have hn : numOf s.data.toList = -1 := numOf_no3 HM.out (by simpa using hdig)
              have HN := Lib.hid hn; clear hn
              have hx : ¬ (48 ≤ s[k].toNat ∧ s[k].toNat ≤ 57) := fun h => hdig (isDig_iff.2 h)
              have HX := Lib.hid hdig; clear hdig
              by_cases x1 : (s[k].toNat : Int) < 48
              · clear hx
                go_wp2
                go_ret
                exact ⟨ret_int HN.out.symm, rfl⟩
              · have x2 : (57 : Int) < s[k].toNat := by omega
                clear hx
                go_wp2
                go_ret
                exact ⟨ret_int HN.out.symm, rfl⟩
          · obtain rfl : k = s.size := by omega
            have hall : s.data.toList.take s.size = s.data.toList := by rw [← HLEN.out]; exact List.take_length
            have he := HG.out (valOn 0 (s.data.toList.take s.size)) (by rw [← hall]; exact hd.out) (by rw [hall])
            have HE := Lib.hid he; clear he hall b1 hlk
            by_cases hbig : valOn 0 (s.data.toList.take s.size) ≤ 4294967295
            · go_wp2
              go_ret
              exact ⟨ret_int (by rw [HE.out, if_pos hbig]), rfl⟩
            · go_wp2
              go_ret
              exact ⟨ret_int (by rw [HE.out, if_neg (by omega)]), rfl⟩
  · have hi : inB (s.size : Int) 1 10 = false := inB_not.2 (by omega)
    have hn := numOf_no1 (l := s.data.toList) (by omega)
    have HN := Lib.hid hn; clear hn hlen h1
    go_enter Tryd.func66, Tryd.ntmps66
    go_wp2_with (go_at_call 39; refine (l1In_any _ _ _ _).mono ?_; rintro e w' ⟨rfl, rfl⟩)
    go_ret
    exact ⟨ret_int HN.out.symm, rfl⟩
end Go.Proofs.YtoibocaaeimplaaDoor
