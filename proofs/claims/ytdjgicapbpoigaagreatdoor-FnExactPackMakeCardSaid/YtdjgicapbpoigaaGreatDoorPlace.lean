/- impl's reader reads one place of a program. -/
import Derived.Test.YtdjgicapbpoigaaGreatDoorTxt
import Derived.Test.YtdjgicapbpoigaaGreatDoorReader
import Derived.Test.YtdjgicapbpoigaaGreatDoorKit
namespace Go.Proofs.YtdjgicapbpoigaaGreatDoor
open Go.RowKit
set_option linter.unusedSimpArgs false
set_option linter.unusedVariables false

theorem place_op {j : Int} {rest x r} (hj : 1 ≤ j ∧ j ≤ 6) (h : PlaceAt (opNm j ++ 32 :: rest) x r) : x.op = j ∧ NumAt 4294967295 rest x.k (tailW x ++ 10 :: r) := by
 obtain ⟨hw, e⟩ := h
 rw [insText_split] at e
 obtain ⟨ho, e1⟩ := opNm_one hj hw.op e
 exact ⟨ho.symm, hw.1, e1, noDig_tailW x r⟩
theorem place_none {rest : List UInt8} (h : ∀ j : Nat, 1 ≤ j → j ≤ 6 → ¬ ∃ t, rest = opNm (j : Int) ++ 32 :: t) : ¬ ∃ x r, PlaceAt rest x r := by
 rintro ⟨x, r, hw, e⟩
 have ho := hw.op
 rw [insText_split] at e
 refine h x.op.toNat (by omega) (by omega) ⟨Lib.itoa x.k ++ (tailW x ++ 10 :: r), ?_⟩
 rw [e, show ((x.op.toNat : Nat) : Int) = x.op by omega]
theorem place_tail {j k : Int} {m : List UInt8} {rest1 x r} (hj : 1 ≤ j ∧ j ≤ 6) (hk : NumAt 4294967295 rest1 k m) (h : PlaceAt (opNm j ++ 32 :: rest1) x r) : x.op = j ∧ x.k = k ∧ m = tailW x ++ 10 :: r ∧ insWord x := by
 obtain ⟨h1, h2⟩ := place_op hj h
 obtain ⟨h3, h4⟩ := hk.unique h2
 exact ⟨h1, h3.symm, h4, h.1⟩
theorem tailW_two {x : In4} (h : x.op = 3 ∨ x.op = 4) : tailW x = 32 :: (Lib.itoa x.yes ++ 32 :: Lib.itoa x.no) := by unfold tailW; rw [if_pos h]
theorem tailW_one {x : In4} (h : ¬ (x.op = 3 ∨ x.op = 4)) : tailW x = [] := by unfold tailW; rw [if_neg h]

def Two (m rest : List UInt8) (yes no : Int) : Nat → Prop
 | 0 => rest = m ∧ yes = 0 ∧ no = 0
 | 1 => (0 ≤ yes ∧ yes ≤ 6) ∧ no = 0 ∧ m = 32 :: (Lib.itoa yes ++ rest) ∧ noDig rest
 | _ => (0 ≤ yes ∧ yes ≤ 6) ∧ (0 ≤ no ∧ no ≤ 6) ∧ m = 32 :: (Lib.itoa yes ++ 32 :: (Lib.itoa no ++ rest)) ∧ noDig rest
theorem insWord.two {x : In4} (h : insWord x) (ho : x.op = 3 ∨ x.op = 4) : (0 ≤ x.yes ∧ x.yes ≤ 6) ∧ (0 ≤ x.no ∧ x.no ≤ 6) := by unfold insWord at h; omega

theorem two_rest {m rest : List UInt8} {yes no : Int} {i : Nat} {x : In4} {r : List UInt8} (h : Two m rest yes no i) (hi : i < 2) (ho : x.op = 3 ∨ x.op = 4) (hw : insWord x) (hm : m = tailW x ++ 10 :: r) :
   ∃ t v s, rest = [32] ++ t ∧ NumAt 6 t v s := by
 obtain ⟨h1, h2⟩ := hw.two ho
 rw [tailW_two ho] at hm
 obtain rfl | rfl : i = 0 ∨ i = 1 := by omega
 · obtain ⟨rfl, _, _⟩ := h
   exact ⟨Lib.itoa x.yes ++ 32 :: (Lib.itoa x.no ++ 10 :: r), x.yes, 32 :: (Lib.itoa x.no ++ 10 :: r), by rw [hm]; simp, h1, rfl, noDig_cons (by decide)⟩
 · obtain ⟨h3, _, h4, h5⟩ := h
   rw [h4] at hm
   simp only [List.cons_append, List.append_assoc, List.cons.injEq, true_and] at hm
   obtain ⟨e1, e2⟩ := NumAt.unique (⟨h3, rfl, h5⟩ : NumAt 6 (Lib.itoa yes ++ rest) yes rest) (⟨h1, hm, noDig_cons (by decide)⟩ : NumAt 6 _ x.yes (32 :: (Lib.itoa x.no ++ 10 :: r)))
   exact ⟨_, x.no, 10 :: r, by rw [e2]; rfl, h2, rfl, noDig_cons (by decide)⟩
theorem two_no0 {m rest : List UInt8} {yes no : Int} (h : Two m rest yes no 0) : no = 0 := h.2.2
theorem two_zero {m rest t s : List UInt8} {yes no v : Int} (h : Two m rest yes no 0) (hr : rest = [32] ++ t) (hn : NumAt 6 t v s) : Two m s v 0 1 := by
 obtain ⟨rfl, _, _⟩ := h
 exact ⟨hn.1, rfl, by rw [hr, hn.2.1]; rfl, hn.2.2⟩
theorem two_one {m rest t s : List UInt8} {yes no v : Int} (h : Two m rest yes no 1) (hr : rest = [32] ++ t) (hn : NumAt 6 t v s) : Two m s yes v 2 := by
 obtain ⟨h1, _, h3, _⟩ := h
 exact ⟨h1, hn.1, by rw [h3, hr, hn.2.1]; rfl, hn.2.2⟩

theorem place_yes_two {j k : Int} {rest1 m rest r : List UInt8} {yes no : Int} (hj : j = 3 ∨ j = 4) (hk : NumAt 4294967295 rest1 k m) (h : Two m rest yes no 2) (hr : rest = [10] ++ r) : PlaceAt (opNm j ++ 32 :: rest1) ⟨j, k, yes, no⟩ r := by
 obtain ⟨h1, h2, h3, _⟩ := h
 refine ⟨?_, ?_⟩
 · unfold insWord; exact ⟨hk.1, .inl ⟨hj, h1, h2⟩⟩
 · rw [insText_split, tailW_two hj, hk.2.1, h3, hr]; simp
theorem place_no_two {j k : Int} {rest1 m rest : List UInt8} {yes no : Int} (hj : j = 3 ∨ j = 4) (hk : NumAt 4294967295 rest1 k m) (h : Two m rest yes no 2) (hr : ¬ ∃ r, rest = [10] ++ r) : ¬ ∃ x r, PlaceAt (opNm j ++ 32 :: rest1) x r := by
 rintro ⟨x, r, hp⟩
 obtain ⟨ho, _, hm, hw⟩ := place_tail (by omega) hk hp
 have ho' : x.op = 3 ∨ x.op = 4 := by omega
 obtain ⟨w1, w2⟩ := hw.two ho'
 obtain ⟨h1, h2, h3, h4⟩ := h
 rw [tailW_two ho', h3] at hm
 simp only [List.cons_append, List.append_assoc, List.cons.injEq, true_and] at hm
 obtain ⟨e1, e2⟩ := NumAt.unique (⟨h1, rfl, noDig_cons (by decide)⟩ : NumAt 6 (Lib.itoa yes ++ 32 :: (Lib.itoa no ++ rest)) yes _) (⟨w1, hm, noDig_cons (by decide)⟩ : NumAt 6 _ x.yes (32 :: (Lib.itoa x.no ++ 10 :: r)))
 simp only [List.cons.injEq, true_and] at e2
 obtain ⟨e3, e4⟩ := NumAt.unique (⟨h2, rfl, h4⟩ : NumAt 6 (Lib.itoa no ++ rest) no rest) (⟨w2, e2, noDig_cons (by decide)⟩ : NumAt 6 _ x.no (10 :: r))
 exact hr ⟨r, e4⟩
theorem place_yes_one {j k : Int} {rest1 m r : List UInt8} (hj : j = 1 ∨ j = 2 ∨ j = 5 ∨ j = 6) (hk : NumAt 4294967295 rest1 k m) (hr : m = [10] ++ r) : PlaceAt (opNm j ++ 32 :: rest1) ⟨j, k, 0, 0⟩ r := by
 refine ⟨?_, ?_⟩
 · unfold insWord; exact ⟨hk.1, .inr ⟨hj, rfl, rfl⟩⟩
 · rw [insText_split, tailW_one (by simp only; omega), hk.2.1, hr]; simp
theorem place_no_one {j k : Int} {rest1 m : List UInt8} (hj : j = 1 ∨ j = 2 ∨ j = 5 ∨ j = 6) (hk : NumAt 4294967295 rest1 k m) (hr : ¬ ∃ r, m = [10] ++ r) : ¬ ∃ x r, PlaceAt (opNm j ++ 32 :: rest1) x r := by
 rintro ⟨x, r, hp⟩
 obtain ⟨ho, _, hm, hw⟩ := place_tail (by omega) hk hp
 rw [tailW_one (by omega)] at hm
 exact hr ⟨r, hm⟩
theorem place_no_k {j : Int} {rest1 : List UInt8} (hj : 1 ≤ j ∧ j ≤ 6) (hn : ¬ ∃ v s, NumAt 4294967295 rest1 v s) : ¬ ∃ x r, PlaceAt (opNm j ++ 32 :: rest1) x r := by
 rintro ⟨x, r, hp⟩
 exact hn ⟨_, _, (place_op hj hp).2⟩
theorem place_no_way {j k : Int} {rest1 m rest : List UInt8} {yes no : Int} {i : Nat} (hj : j = 3 ∨ j = 4) (hk : NumAt 4294967295 rest1 k m) (h : Two m rest yes no i) (hi : i < 2) (hr : ¬ ∃ t v s, rest = [32] ++ t ∧ NumAt 6 t v s) : ¬ ∃ x r, PlaceAt (opNm j ++ 32 :: rest1) x r := by
 rintro ⟨x, r, hp⟩
 obtain ⟨ho, _, hm, hw⟩ := place_tail (by omega) hk hp
 exact hr (two_rest h hi (by omega) hw hm)

theorem opName_any (j : Int) (w : World) :
   Calls Tryz.prog 88 #[.int .i64 j] w fun e w' => e = .returned (.string ⟨(opNm j).toArray⟩) ∧ w = w' := by
 have ho : (j = 1 ∨ j = 2 ∨ j = 3 ∨ j = 4 ∨ j = 5 ∨ j = 6) ∨ ¬ (1 ≤ j ∧ j ≤ 6) := by omega
 rcases ho with (rfl | rfl | rfl | rfl | rfl | rfl) | ho
 case inr =>
   have e1 : (j == 1) = false := by simp; omega
   have e2 : (j == 2) = false := by simp; omega
   have e3 : (j == 3) = false := by simp; omega
   have e4 : (j == 4) = false := by simp; omega
   have e5 : (j == 5) = false := by simp; omega
   have e6 : (j == 6) = false := by simp; omega
   have hnm : opNm j = [] := by
     unfold opNm
     rw [if_neg (by omega), if_neg (by omega), if_neg (by omega), if_neg (by omega), if_neg (by omega), if_neg (by omega)]
   go_enter Tryz.func88, Tryz.ntmps88
   go_wp2
   all_goals (go_ret; exact ⟨by rw [hnm]; rfl, rfl⟩)
 all_goals
   go_enter Tryz.func88, Tryz.ntmps88
   go_wp2
   all_goals (go_ret; exact ⟨rfl, rfl⟩)
end Go.Proofs.YtdjgicapbpoigaaGreatDoor
