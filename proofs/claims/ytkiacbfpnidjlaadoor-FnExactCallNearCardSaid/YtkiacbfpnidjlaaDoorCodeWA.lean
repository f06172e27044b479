/- Joined texts: CodeW CodeW2. -/
import Derived.Test.YtkiacbfpnidjlaaDoorTxt
-- impl's programs: doingOf, codeWays.
namespace Go.Proofs.YtkiacbfpnidjlaaDoor
open Go.RowKit
set_option linter.unusedSimpArgs false
set_option linter.unusedVariables false

/-- What is done at a place, as a value. -/
noncomputable def actOf (x : In4) : Value :=
  if x.op = 1 then .iface 179 (.agg #[.int .i64 x.k]) else if x.op = 2 then .iface 181 (.agg #[.int .i64 x.k]) else
  if x.op = 3 then .iface 183 (.agg #[.int .i64 1, .int .i64 x.k, .int .i64 x.yes, .int .i64 x.no]) else if x.op = 4 then .iface 183 (.agg #[.int .i64 3, .int .i64 x.k, .int .i64 x.yes, .int .i64 x.no]) else
  if x.op = 5 then .iface 185 (.agg #[.int .i64 x.k]) else if x.op = 6 then .iface 187 (.agg #[.int .i64 x.k]) else .nilIface
def knownOf (x : In4) : Bool := if x.op = 3 ∨ x.op = 4 then true else if 1 ≤ x.op ∧ x.op ≤ 6 then decide (x.yes = 0 ∧ x.no = 0) else false

set_option maxHeartbeats 1000000 in
theorem doingOf_any (x : In4) (w : World) :
    Calls Tryd.prog 125 #[.agg #[.int .i64 x.op, .int .i64 x.k, .int .i64 x.yes, .int .i64 x.no]] w fun e w' => e = .returned (.tuple #[actOf x, .bool (knownOf x)]) ∧ Below w.heap.size w w' := by
  obtain ⟨op, k, yes, no⟩ := x
  have ho : (op = 1 ∨ op = 2 ∨ op = 3 ∨ op = 4 ∨ op = 5 ∨ op = 6) ∨ ¬ (1 ≤ op ∧ op ≤ 6) := by omega
  have hf : ∀ c : Bool, c = true ∨ c = false := fun c => by cases c <;> simp
  have hy : (yes == 0) = true ∧ yes = 0 ∨ (yes == 0) = false ∧ ¬ yes = 0 := by by_cases h : yes = 0 <;> simp [h]
  have hn : (no == 0) = true ∧ no = 0 ∨ (no == 0) = false ∧ ¬ no = 0 := by by_cases h : no = 0 <;> simp [h]
  rcases ho with (rfl | rfl | rfl | rfl | rfl | rfl) | ho
  case inr =>
    have e1 : (op == 1) = false := by simp; omega
    have e2 : (op == 2) = false := by simp; omega
    have e3 : (op == 3) = false := by simp; omega
    have e4 : (op == 4) = false := by simp; omega
    have e5 : (op == 5) = false := by simp; omega
    have e6 : (op == 6) = false := by simp; omega
    obtain ⟨y1, y2⟩ | ⟨y1, y2⟩ := hy <;> obtain ⟨n1, n2⟩ | ⟨n1, n2⟩ := hn
    all_goals
      go_enter Tryd.func125, Tryd.ntmps125
      go_wp2
      all_goals
        go_ret2
        refine ⟨?_, by go_grown⟩
        have a1 : ¬ op = 1 := by omega
        have a2 : ¬ op = 2 := by omega
        have a3 : ¬ op = 3 := by omega
        have a4 : ¬ op = 4 := by omega
        have a5 : ¬ op = 5 := by omega
        have a6 : ¬ op = 6 := by omega
        simp [actOf, knownOf, a1, a2, a3, a4, a5, a6, ho]
  all_goals
    obtain ⟨y1, y2⟩ | ⟨y1, y2⟩ := hy <;> obtain ⟨n1, n2⟩ | ⟨n1, n2⟩ := hn
    all_goals
      go_enter Tryd.func125, Tryd.ntmps125
      go_wp2
      all_goals
        go_ret2
        refine ⟨?_, by go_grown⟩
        simp [actOf, knownOf, y2, n2]
end Go.Proofs.YtkiacbfpnidjlaaDoor

-- impl's programs: what is done at a place, codeWays.
namespace Go.Proofs.YtkiacbfpnidjlaaDoor
open Go.RowKit
set_option linter.unusedSimpArgs false
set_option linter.unusedVariables false

theorem wordOkC_any (n : Int) (w : World) :
    Calls Tryd.prog 48 #[.int .i64 n] w fun e w' => e = .returned (.bool (inB n 0 4294967295)) ∧ w = w' := by
  go_enter Tryd.func48, Tryd.ntmps48
  go_wp2
  all_goals (go_ret; exact ⟨ret_bool (by simp [inB]; omega), rfl⟩)
theorem verdictOkC_any (n : Int) (w : World) :
    Calls Tryd.prog 112 #[.int .i64 n] w fun e w' => e = .returned (.bool (inB n 1 4)) ∧ w = w' := by
  go_enter Tryd.func112, Tryd.ntmps112
  go_wp2
  all_goals (go_ret; exact ⟨ret_bool (by simp [inB]; omega), rfl⟩)

theorem loading_fits (k : Int) (w : World) :
    Calls Tryd.prog 180 #[.agg #[.int .i64 k]] w fun e w' => e = .returned (.bool (inB k 0 4)) ∧ Below w.heap.size w w' := by
  go_enter Tryd.func180, Tryd.ntmps180
  go_wp2
  all_goals (go_ret; exact ⟨ret_bool (by simp [inB]; omega), by go_grown⟩)
theorem masking_fits (k : Int) (w : World) :
    Calls Tryd.prog 183 #[.agg #[.int .i64 k]] w fun e w' => e = .returned (.bool (inB k 0 4294967295)) ∧ Below w.heap.size w w' := by
  go_enter Tryd.func183, Tryd.ntmps183
  go_wp2_with (go_at_call 48; refine (wordOkC_any _ _).mono ?_; rintro e w' ⟨rfl, rfl⟩)
  all_goals (go_ret; exact ⟨rfl, by go_grown⟩)
theorem jumping_fits (k : Int) (w : World) :
    Calls Tryd.prog 189 #[.agg #[.int .i64 k]] w fun e w' => e = .returned (.bool (decide (0 ≤ k))) ∧ Below w.heap.size w w' := by
  go_enter Tryd.func189, Tryd.ntmps189
  go_wp2
  all_goals (go_ret; exact ⟨ret_bool (by simp), by go_grown⟩)
theorem ending_fits (k : Int) (w : World) :
    Calls Tryd.prog 192 #[.agg #[.int .i64 k]] w fun e w' => e = .returned (.bool (inB k 1 4)) ∧ Below w.heap.size w w' := by
  go_enter Tryd.func192, Tryd.ntmps192
  go_wp2_with (go_at_call 112; refine (verdictOkC_any _ _).mono ?_; rintro e w' ⟨rfl, rfl⟩)
  all_goals (go_ret; exact ⟨rfl, by go_grown⟩)
def fitsLook (k yes no : Int) : Bool := decide ((0 ≤ k ∧ k ≤ 4294967295) ∧ (0 ≤ yes ∧ yes ≤ 6) ∧ (0 ≤ no ∧ no ≤ 6))
theorem looking_fits (o k yes no : Int) (w : World) :
    Calls Tryd.prog 186 #[.agg #[.int .i64 o, .int .i64 k, .int .i64 yes, .int .i64 no]] w fun e w' => e = .returned (.bool (fitsLook k yes no)) ∧ Below w.heap.size w w' := by
  go_enter Tryd.func186, Tryd.ntmps186
  go_wp2_with (go_at_call 48; refine (wordOkC_any _ _).mono ?_; rintro e w' ⟨rfl, rfl⟩)
  all_goals (go_ret; refine ⟨ret_bool ?_, by go_grown⟩)
  all_goals (rw [Bool.eq_iff_iff]; simp only [fitsLook, inB_iff, inB_not] at *; simp at * <;> omega)

noncomputable def fitsB (x : In4) : Bool := @decide ((x.op = 1 ∧ 0 ≤ x.k ∧ x.k ≤ 4) ∨ (x.op = 2 ∧ 0 ≤ x.k ∧ x.k ≤ 4294967295) ∨ ((x.op = 3 ∨ x.op = 4) ∧ fitsLook x.k x.yes x.no = true) ∨ (x.op = 5 ∧ 0 ≤ x.k) ∨ (x.op = 6 ∧ 1 ≤ x.k ∧ x.k ≤ 4)) (Classical.propDecidable _)
def waysL (x : In4) : List Int := if x.op = 1 ∨ x.op = 2 then [0] else if x.op = 3 ∨ x.op = 4 then [x.yes, x.no] else if x.op = 5 then [x.k] else []
theorem fitsB_iff {x : In4} : fitsB x = true ↔ ((x.op = 1 ∧ 0 ≤ x.k ∧ x.k ≤ 4) ∨ (x.op = 2 ∧ 0 ≤ x.k ∧ x.k ≤ 4294967295) ∨ ((x.op = 3 ∨ x.op = 4) ∧ fitsLook x.k x.yes x.no = true) ∨ (x.op = 5 ∧ 0 ≤ x.k) ∨ (x.op = 6 ∧ 1 ≤ x.k ∧ x.k ≤ 4)) := by simp [fitsB]
theorem fitsEq_1 (k yes no : Int) : fitsB ⟨1, k, yes, no⟩ = inB k 0 4 := by rw [Bool.eq_iff_iff, fitsB_iff, inB_iff]; simp
theorem fitsEq_2 (k yes no : Int) : fitsB ⟨2, k, yes, no⟩ = inB k 0 4294967295 := by rw [Bool.eq_iff_iff, fitsB_iff, inB_iff]; simp
theorem fitsEq_3 (k yes no : Int) : fitsB ⟨3, k, yes, no⟩ = fitsLook k yes no := by rw [Bool.eq_iff_iff, fitsB_iff]; simp
theorem fitsEq_4 (k yes no : Int) : fitsB ⟨4, k, yes, no⟩ = fitsLook k yes no := by rw [Bool.eq_iff_iff, fitsB_iff]; simp
theorem fitsEq_5 (k yes no : Int) : fitsB ⟨5, k, yes, no⟩ = decide (0 ≤ k) := by rw [Bool.eq_iff_iff, fitsB_iff]; simp
theorem fitsEq_6 (k yes no : Int) : fitsB ⟨6, k, yes, no⟩ = inB k 1 4 := by rw [Bool.eq_iff_iff, fitsB_iff, inB_iff]; simp

theorem insOk_iff {x : In4} {left : Int} (ho : 1 ≤ x.op ∧ x.op ≤ 6) : insOk x left ↔ knownOf x = true ∧ fitsB x = true ∧ ∀ y ∈ waysL x, y ≤ left := by
  rw [fitsB_iff]
  obtain ⟨op, k, yes, no⟩ := x
  simp only at ho
  obtain rfl | rfl | rfl | rfl | rfl | rfl : op = 1 ∨ op = 2 ∨ op = 3 ∨ op = 4 ∨ op = 5 ∨ op = 6 := by omega
  all_goals (simp [insOk, knownOf, fitsLook, waysL]; try omega)
theorem insOk_none {x : In4} {left : Int} (ho : ¬ (1 ≤ x.op ∧ x.op ≤ 6)) : ¬ insOk x left ∧ knownOf x = false ∧ actOf x = .nilIface := by
  obtain ⟨op, k, yes, no⟩ := x
  simp only at ho
  have a1 : ¬ op = 1 := by omega
  have a2 : ¬ op = 2 := by omega
  have a3 : ¬ op = 3 := by omega
  have a4 : ¬ op = 4 := by omega
  have a5 : ¬ op = 5 := by omega
  have a6 : ¬ op = 6 := by omega
  simp [insOk, knownOf, actOf, a1, a2, a3, a4, a5, a6, ho]

theorem own_lit1 {w : World} {t : TypeId} {base g : Nat} (a : Int) (hb : base ≤ w.heap.size) (hg : g = w.heap.size) : (w.alloc (.cells #[.int .i64 a] t)).ownsRow base t 1 (.slice (some ⟨g, 0, none⟩) 1 1) 1 (ints [a]).flatten := by
  subst hg
  exact ⟨by simp [ints], .inr ⟨_, 1, #[.int .i64 a], rfl, hb, Blk.new w _ _, by omega, by simp [maxLen], rfl, by simp [ints]⟩⟩
theorem own_lit2 {w : World} {t : TypeId} {base g : Nat} (a b : Int) (hb : base ≤ w.heap.size) (hg : g = w.heap.size) : (w.alloc (.cells #[.int .i64 a, .int .i64 b] t)).ownsRow base t 1 (.slice (some ⟨g, 0, none⟩) 2 2) 2 (ints [a, b]).flatten := by
  subst hg
  exact ⟨by simp [ints], .inr ⟨_, 2, #[.int .i64 a, .int .i64 b], rfl, hb, Blk.new w _ _, by omega, by simp [maxLen], rfl, by simp [ints]⟩⟩

def WaysPost (L : List Int) (w : World) (e : Ending) (w' : World) : Prop := ∃ v, e = .returned v ∧ w'.ownsRow w.heap.size 3 1 v L.length (ints L).flatten ∧ Below w.heap.size w w'
theorem loading_ways (k : Int) (w : World) : Calls Tryd.prog 181 #[.agg #[.int .i64 k]] w (WaysPost [0] w) := by
  go_enter Tryd.func181, Tryd.ntmps181
  go_wp2
  go_ret
  refine ⟨_, rfl, own_lit1 0 ?_ ?_, by go_grown⟩ <;> simp
theorem masking_ways (k : Int) (w : World) : Calls Tryd.prog 184 #[.agg #[.int .i64 k]] w (WaysPost [0] w) := by
  go_enter Tryd.func184, Tryd.ntmps184
  go_wp2
  go_ret
  refine ⟨_, rfl, own_lit1 0 ?_ ?_, by go_grown⟩ <;> simp
theorem looking_ways (o k yes no : Int) (w : World) : Calls Tryd.prog 187 #[.agg #[.int .i64 o, .int .i64 k, .int .i64 yes, .int .i64 no]] w (WaysPost [yes, no] w) := by
  go_enter Tryd.func187, Tryd.ntmps187
  go_wp2
  go_ret
  refine ⟨_, rfl, own_lit2 yes no ?_ ?_, by go_grown⟩ <;> simp
theorem jumping_ways (k : Int) (w : World) : Calls Tryd.prog 190 #[.agg #[.int .i64 k]] w (WaysPost [k] w) := by
  go_enter Tryd.func190, Tryd.ntmps190
  go_wp2
  go_ret
  refine ⟨_, rfl, own_lit1 k ?_ ?_, by go_grown⟩ <;> simp
theorem ending_ways (k : Int) (w : World) : Calls Tryd.prog 193 #[.agg #[.int .i64 k]] w (WaysPost [] w) := by
  go_enter Tryd.func193, Tryd.ntmps193
  go_wp2
  go_ret
  exact ⟨_, rfl, World.ownsRow_nil _ _ _ _, by go_grown⟩

noncomputable def waysB (g : List In4) : Bool := @decide (waysOk g) (Classical.propDecidable _)
theorem waysB_iff {g : List In4} : waysB g = true ↔ waysOk g := by simp [waysB]
theorem waysB_of {g : List In4} {b : Bool} (h : b = true ↔ waysOk g) : b = waysB g := by rw [Bool.eq_iff_iff, h, waysB_iff]
theorem waysB_no {g : List In4} (h : ¬ waysOk g) : waysB g = false := by rw [← Bool.not_eq_true, waysB_iff]; exact h
theorem not_waysOk {g : List In4} {k : Nat} {x : In4} (hx : g[k]? = some x) (h : ¬ insOk x ((g.length : Int) - k - 2)) : ¬ waysOk g := fun ho =>
  h (ho.2.2 k x (List.getElem?_eq_some_iff.1 hx).1 hx)
theorem all_to {L : List Int} {y left : Int} {j : Nat} (h : ∀ i z, i < j → L[i]? = some z → z ≤ left) (hy : L[j]? = some y) (h' : y ≤ left) : ∀ i z, i < j + 1 → L[i]? = some z → z ≤ left := fun i z hi hz => by
  by_cases e : i = j
  · subst e; rw [hy] at hz; cases hz; exact h'
  · exact h i z (by omega) hz
theorem intsAt {w : World} {A : Option Addr} {n c : Nat} {xs : List Int} (h : SlA w 1 A n c (ints xs)) {k : Nat} (hk : k < n) :
    ∃ b off x, A = some ⟨b, off, none⟩ ∧ b < w.heap.size ∧ xs[k]? = some x ∧ (∀ (w' : World) (B : Nat), Below B w w' → b < B → w'.cell? ⟨b, off + k, none⟩ = some (.int .i64 x)) := ints_get h hk

set_option maxHeartbeats 8000000 in
theorem codeWays_any (v : Value) (g : List In4) (w : World) (hs : Sl w 4 v (insR g)) :
    Calls Tryd.prog 107 #[v] w fun e w' => e = .returned (.bool (waysB g)) ∧ Below w.heap.size w w' := by
  obtain ⟨A, n, c, rfl, hA⟩ := hs
  have hn : g.length = n := by have := hA.len; rwa [insR_len] at this
  have hc := hA.cap
  have hm := hA.max
  unfold maxLen at hm
  by_cases hr : 1 ≤ n ∧ n ≤ 160
  · have HL := Lib.hid hn; clear hn
    go_enter Tryd.func107, Tryd.ntmps107
    go_wp2
    go_loopw [19] (fun i wr => ∃ k : Nat, k ≤ n ∧ i = .int .i64 k ∧ waysTo g k ∧ Below w.heap.size w wr) (fun i _ => n - (intOf i).toNat)
    case atStart => exact ⟨0, by omega, rfl, waysTo_zero g, by go_grown⟩
    case round =>
      obtain ⟨k, hk, rfl, hto, hb⟩ := hrel
      by_cases hlt : k < n
      · obtain ⟨b, off, x, rfl, hab, hgp, hcell⟩ := ins_get hA hlt
        obtain ⟨c0, c1, c2, c3⟩ := hcell wr _ hb hab
        have HP := Lib.hid hgp; clear hcell hgp
        have hoc : Below wr.heap.size wr (wr.alloc (.cells #[.int .i64 x.op, .int .i64 x.k, .int .i64 x.yes, .int .i64 x.no] 83)) := by go_grown
        by_cases ho : 1 ≤ x.op ∧ x.op ≤ 6
        · obtain ⟨op, kk, yes, no⟩ := x
          simp only at ho c0 c1 c2 c3
          obtain rfl | rfl | rfl | rfl | rfl | rfl : op = 1 ∨ op = 2 ∨ op = 3 ∨ op = 4 ∨ op = 5 ∨ op = 6 := by omega
          · have hD : ∀ W : World, Calls Tryd.prog 125 #[.agg #[.int .i64 1, .int .i64 kk, .int .i64 yes, .int .i64 no]] W fun e w' => e = .returned (.tuple #[.iface 179 (.agg #[.int .i64 kk]), .bool (knownOf ⟨1, kk, yes, no⟩)]) ∧ Below W.heap.size W w' := fun W => by simpa [actOf] using doingOf_any ⟨1, kk, yes, no⟩ W
            have hF : ∀ W : World, Calls Tryd.prog 180 #[.agg #[.int .i64 kk]] W fun e w' => e = .returned (.bool (fitsB ⟨1, kk, yes, no⟩)) ∧ Below W.heap.size W w' := fun W => by
              have e : fitsB ⟨1, kk, yes, no⟩ = _ := fitsEq_1 kk yes no
              rw [e]; exact loading_fits kk W
            have hY : ∀ W : World, Calls Tryd.prog 181 #[.agg #[.int .i64 kk]] W (WaysPost [0] W) := fun W => loading_ways kk W
            have hI : ∀ left : Int, insOk ⟨1, kk, yes, no⟩ left ↔ knownOf ⟨1, kk, yes, no⟩ = true ∧ fitsB ⟨1, kk, yes, no⟩ = true ∧ ∀ y ∈ ([0] : List Int), y ≤ left := fun left => by rw [insOk_iff (by simp)]; simp [waysL]
            have HD := Lib.hid hD; have HF := Lib.hid hF; have HY := Lib.hid hY; have HI := Lib.hid hI; clear hD hF hY hI hoc
            go_wp2_with fail
            refine (HD.out _).mono ?_; rintro e w1 ⟨rfl, hb1⟩
            have hb01 : Below w.heap.size w w1 := below_then (below_then hb (show Below wr.heap.size wr _ by go_grown)) hb1
            have hlt1 : wr.heap.size < w1.heap.size := by have := hb1.size; simp at this; omega
            cases hk : knownOf ⟨1, kk, yes, no⟩
            · have HN := Lib.hid (waysB_no (not_waysOk HP.out (by rw [HL.out]; intro h; have := ((HI.out _).1 h).1; rw [hk] at this; cases this)))
              clear hk
              go_wp2
              go_ret
              exact ⟨ret_bool HN.out.symm, hb01⟩
            · have HK := Lib.hid hk; clear hk
              go_wp2_with fail
              refine (HF.out _).mono ?_; rintro e w2 ⟨rfl, hb2⟩
              cases hf : fitsB ⟨1, kk, yes, no⟩
              · have HN := Lib.hid (waysB_no (not_waysOk HP.out (by rw [HL.out]; intro h; have := ((HI.out _).1 h).2.1; rw [hf] at this; cases this)))
                clear hf
                go_wp2
                go_ret
                exact ⟨ret_bool HN.out.symm, below_then hb01 hb2⟩
              · have HFT := Lib.hid hf; clear hf
                go_wp2_with fail
                refine (HY.out _).mono ?_; rintro e w3 ⟨v9, rfl, o9, hb3⟩
                obtain ⟨A9, n9, c9, rfl, hA9⟩ := SlA.of_own o9 (ints_len _) (ints_rows _)
                have hn9 : ([0] : List Int).length = n9 := by have := hA9.len; rwa [ints_len] at this
                have hc9 := hA9.cap
                have hm9 := hA9.max
                unfold maxLen at hm9
                have hb03 := below_then (below_then hb01 hb2) hb3
                clear o9
                obtain ⟨L, hL⟩ : ∃ L : List Int, L = [0] := ⟨_, rfl⟩
                rw [← hL] at hA9 hn9
                have HI2 := Lib.hid (fun left => hL ▸ HI.out left : ∀ left : Int, insOk ⟨1, kk, yes, no⟩ left ↔ knownOf ⟨1, kk, yes, no⟩ = true ∧ fitsB ⟨1, kk, yes, no⟩ = true ∧ ∀ y ∈ L, y ≤ left)
                have HN9 := Lib.hid hn9; clear hn9 hL
                go_wp2
                go_loopw [39] (fun i wq => ∃ j : Nat, j ≤ n9 ∧ i = .int .i64 j ∧ (∀ i z, i < j → L[i]? = some z → z ≤ (n : Int) - k - 2) ∧ Below w3.heap.size w3 wq) (fun i _ => n9 - (intOf i).toNat)
                case atStart => exact ⟨0, by omega, rfl, fun _ _ h => absurd h (by omega), Below.refl _ _⟩
                case round =>
                  obtain ⟨j, hj, rfl, hall, hbq⟩ := hrel
                  by_cases hjl : j < n9
                  · obtain ⟨b9, o9, y, rfl, hab9, hy, hcell9⟩ := ints_get hA9 hjl
                    have d0 := hcell9 _ _ hbq hab9
                    have HY9 := Lib.hid hy; clear hcell9 hy
                    have HALL := Lib.hid hall; clear hall
                    by_cases hyl : y ≤ (n : Int) - k - 2
                    · have hyl2 : ¬ (n : Int) - 2 - k < y := by omega
                      have HYL := Lib.hid hyl; clear hyl
                      go_wp2
                      exact ⟨⟨j + 1, by omega, by go_num, all_to HALL.out HY9.out HYL.out, hbq⟩, by simp [intOf]; omega⟩
                    · have hyl2 : (n : Int) - 2 - k < y := by omega
                      have HN := Lib.hid (waysB_no (not_waysOk HP.out (by rw [HL.out]; intro h; exact hyl (((HI2.out _).1 h).2.2 y (List.mem_of_getElem? HY9.out)))))
                      clear hyl
                      go_wp2
                      go_ret
                      exact ⟨ret_bool HN.out.symm, below_then hb03 hbq⟩
                  · obtain rfl : j = n9 := by omega
                    have hok : insOk ⟨1, kk, yes, no⟩ ((n : Int) - k - 2) := (HI2.out _).2 ⟨HK.out, HFT.out, fun y hy => by
                      obtain ⟨i, hi, e⟩ := List.getElem_of_mem hy
                      exact hall i y (by have := HN9.out; omega) (by rw [← e]; exact List.getElem?_eq_getElem hi)⟩
                    have HOK := Lib.hid hok; clear hok hall
                    go_wp2
                    exact ⟨⟨k + 1, by omega, by go_num, waysTo_succ hto HP.out (by rw [HL.out]; exact HOK.out), below_then hb03 hbq⟩, by simp [intOf]; omega⟩
          · have hD : ∀ W : World, Calls Tryd.prog 125 #[.agg #[.int .i64 2, .int .i64 kk, .int .i64 yes, .int .i64 no]] W fun e w' => e = .returned (.tuple #[.iface 181 (.agg #[.int .i64 kk]), .bool (knownOf ⟨2, kk, yes, no⟩)]) ∧ Below W.heap.size W w' := fun W => by simpa [actOf] using doingOf_any ⟨2, kk, yes, no⟩ W
            have hF : ∀ W : World, Calls Tryd.prog 183 #[.agg #[.int .i64 kk]] W fun e w' => e = .returned (.bool (fitsB ⟨2, kk, yes, no⟩)) ∧ Below W.heap.size W w' := fun W => by
              have e : fitsB ⟨2, kk, yes, no⟩ = _ := fitsEq_2 kk yes no
              rw [e]; exact masking_fits kk W
            have hY : ∀ W : World, Calls Tryd.prog 184 #[.agg #[.int .i64 kk]] W (WaysPost [0] W) := fun W => masking_ways kk W
            have hI : ∀ left : Int, insOk ⟨2, kk, yes, no⟩ left ↔ knownOf ⟨2, kk, yes, no⟩ = true ∧ fitsB ⟨2, kk, yes, no⟩ = true ∧ ∀ y ∈ ([0] : List Int), y ≤ left := fun left => by rw [insOk_iff (by simp)]; simp [waysL]
            have HD := Lib.hid hD; have HF := Lib.hid hF; have HY := Lib.hid hY; have HI := Lib.hid hI; clear hD hF hY hI hoc
            go_wp2_with fail
            refine (HD.out _).mono ?_; rintro e w1 ⟨rfl, hb1⟩
            have hb01 : Below w.heap.size w w1 := below_then (below_then hb (show Below wr.heap.size wr _ by go_grown)) hb1
            have hlt1 : wr.heap.size < w1.heap.size := by have := hb1.size; simp at this; omega
            cases hk : knownOf ⟨2, kk, yes, no⟩
            · have HN := Lib.hid (waysB_no (not_waysOk HP.out (by rw [HL.out]; intro h; have := ((HI.out _).1 h).1; rw [hk] at this; cases this)))
              clear hk
              go_wp2
              go_ret
              exact ⟨ret_bool HN.out.symm, hb01⟩
            · have HK := Lib.hid hk; clear hk
              go_wp2_with fail
              refine (HF.out _).mono ?_; rintro e w2 ⟨rfl, hb2⟩
              cases hf : fitsB ⟨2, kk, yes, no⟩
              · have HN := Lib.hid (waysB_no (not_waysOk HP.out (by rw [HL.out]; intro h; have := ((HI.out _).1 h).2.1; rw [hf] at this; cases this)))
                clear hf
                go_wp2
                go_ret
                exact ⟨ret_bool HN.out.symm, below_then hb01 hb2⟩
              · have HFT := Lib.hid hf; clear hf
                go_wp2_with fail
                refine (HY.out _).mono ?_; rintro e w3 ⟨v9, rfl, o9, hb3⟩
                obtain ⟨A9, n9, c9, rfl, hA9⟩ := SlA.of_own o9 (ints_len _) (ints_rows _)
                have hn9 : ([0] : List Int).length = n9 := by have := hA9.len; rwa [ints_len] at this
                have hc9 := hA9.cap
                have hm9 := hA9.max
                unfold maxLen at hm9
                have hb03 := below_then (below_then hb01 hb2) hb3
                clear o9
                obtain ⟨L, hL⟩ : ∃ L : List Int, L = [0] := ⟨_, rfl⟩
                rw [← hL] at hA9 hn9
                have HI2 := Lib.hid (fun left => hL ▸ HI.out left : ∀ left : Int, insOk ⟨2, kk, yes, no⟩ left ↔ knownOf ⟨2, kk, yes, no⟩ = true ∧ fitsB ⟨2, kk, yes, no⟩ = true ∧ ∀ y ∈ L, y ≤ left)
                have HN9 := Lib.hid hn9; clear hn9 hL
                go_wp2
                go_loopw [39] (fun i wq => ∃ j : Nat, j ≤ n9 ∧ i = .int .i64 j ∧ (∀ i z, i < j → L[i]? = some z → z ≤ (n : Int) - k - 2) ∧ Below w3.heap.size w3 wq) (fun i _ => n9 - (intOf i).toNat)
                case atStart => exact ⟨0, by omega, rfl, fun _ _ h => absurd h (by omega), Below.refl _ _⟩
                case round =>
                  obtain ⟨j, hj, rfl, hall, hbq⟩ := hrel
                  by_cases hjl : j < n9
                  · obtain ⟨b9, o9, y, rfl, hab9, hy, hcell9⟩ := ints_get hA9 hjl
                    have d0 := hcell9 _ _ hbq hab9
                    have HY9 := Lib.hid hy; clear hcell9 hy
                    have HALL := Lib.hid hall; clear hall
                    by_cases hyl : y ≤ (n : Int) - k - 2
                    · have hyl2 : ¬ (n : Int) - 2 - k < y := by omega
                      have HYL := Lib.hid hyl; clear hyl
                      go_wp2
                      exact ⟨⟨j + 1, by omega, by go_num, all_to HALL.out HY9.out HYL.out, hbq⟩, by simp [intOf]; omega⟩
                    · have hyl2 : (n : Int) - 2 - k < y := by omega
                      have HN := Lib.hid (waysB_no (not_waysOk HP.out (by rw [HL.out]; intro h; exact hyl (((HI2.out _).1 h).2.2 y (List.mem_of_getElem? HY9.out)))))
                      clear hyl
                      go_wp2
                      go_ret
                      exact ⟨ret_bool HN.out.symm, below_then hb03 hbq⟩
                  · obtain rfl : j = n9 := by omega
                    have hok : insOk ⟨2, kk, yes, no⟩ ((n : Int) - k - 2) := (HI2.out _).2 ⟨HK.out, HFT.out, fun y hy => by
                      obtain ⟨i, hi, e⟩ := List.getElem_of_mem hy
                      exact hall i y (by have := HN9.out; omega) (by rw [← e]; exact List.getElem?_eq_getElem hi)⟩
                    have HOK := Lib.hid hok; clear hok hall
                    go_wp2
                    exact ⟨⟨k + 1, by omega, by go_num, waysTo_succ hto HP.out (by rw [HL.out]; exact HOK.out), below_then hb03 hbq⟩, by simp [intOf]; omega⟩
          · have hD : ∀ W : World, Calls Tryd.prog 125 #[.agg #[.int .i64 3, .int .i64 kk, .int .i64 yes, .int .i64 no]] W fun e w' => e = .returned (.tuple #[.iface 183 (.agg #[.int .i64 1, .int .i64 kk, .int .i64 yes, .int .i64 no]), .bool (knownOf ⟨3, kk, yes, no⟩)]) ∧ Below W.heap.size W w' := fun W => by simpa [actOf] using doingOf_any ⟨3, kk, yes, no⟩ W
            have hF : ∀ W : World, Calls Tryd.prog 186 #[.agg #[.int .i64 1, .int .i64 kk, .int .i64 yes, .int .i64 no]] W fun e w' => e = .returned (.bool (fitsB ⟨3, kk, yes, no⟩)) ∧ Below W.heap.size W w' := fun W => by
              have e : fitsB ⟨3, kk, yes, no⟩ = _ := fitsEq_3 kk yes no
              rw [e]; exact looking_fits 1 kk yes no W
            have hY : ∀ W : World, Calls Tryd.prog 187 #[.agg #[.int .i64 1, .int .i64 kk, .int .i64 yes, .int .i64 no]] W (WaysPost [yes, no] W) := fun W => looking_ways 1 kk yes no W
            have hI : ∀ left : Int, insOk ⟨3, kk, yes, no⟩ left ↔ knownOf ⟨3, kk, yes, no⟩ = true ∧ fitsB ⟨3, kk, yes, no⟩ = true ∧ ∀ y ∈ ([yes, no] : List Int), y ≤ left := fun left => by rw [insOk_iff (by simp)]; simp [waysL]
            have HD := Lib.hid hD; have HF := Lib.hid hF; have HY := Lib.hid hY; have HI := Lib.hid hI; clear hD hF hY hI hoc
            go_wp2_with fail
            refine (HD.out _).mono ?_; rintro e w1 ⟨rfl, hb1⟩
            have hb01 : Below w.heap.size w w1 := below_then (below_then hb (show Below wr.heap.size wr _ by go_grown)) hb1
            have hlt1 : wr.heap.size < w1.heap.size := by have := hb1.size; simp at this; omega
            cases hk : knownOf ⟨3, kk, yes, no⟩
            · have HN := Lib.hid (waysB_no (not_waysOk HP.out (by rw [HL.out]; intro h; have := ((HI.out _).1 h).1; rw [hk] at this; cases this)))
              clear hk
              go_wp2
              go_ret
              exact ⟨ret_bool HN.out.symm, hb01⟩
            · have HK := Lib.hid hk; clear hk
              go_wp2_with fail
              refine (HF.out _).mono ?_; rintro e w2 ⟨rfl, hb2⟩
              cases hf : fitsB ⟨3, kk, yes, no⟩
              · have HN := Lib.hid (waysB_no (not_waysOk HP.out (by rw [HL.out]; intro h; have := ((HI.out _).1 h).2.1; rw [hf] at this; cases this)))
                clear hf
                go_wp2
                go_ret
                exact ⟨ret_bool HN.out.symm, below_then hb01 hb2⟩
              · have HFT := Lib.hid hf; clear hf
                go_wp2_with fail
                refine (HY.out _).mono ?_; rintro e w3 ⟨v9, rfl, o9, hb3⟩
                obtain ⟨A9, n9, c9, rfl, hA9⟩ := SlA.of_own o9 (ints_len _) (ints_rows _)
                have hn9 : ([yes, no] : List Int).length = n9 := by have := hA9.len; rwa [ints_len] at this
                have hc9 := hA9.cap
                have hm9 := hA9.max
                unfold maxLen at hm9
                have hb03 := below_then (below_then hb01 hb2) hb3
                clear o9
                obtain ⟨L, hL⟩ : ∃ L : List Int, L = [yes, no] := ⟨_, rfl⟩
                rw [← hL] at hA9 hn9
                have HI2 := Lib.hid (fun left => hL ▸ HI.out left : ∀ left : Int, insOk ⟨3, kk, yes, no⟩ left ↔ knownOf ⟨3, kk, yes, no⟩ = true ∧ fitsB ⟨3, kk, yes, no⟩ = true ∧ ∀ y ∈ L, y ≤ left)
                have HN9 := Lib.hid hn9; clear hn9 hL
                go_wp2
                go_loopw [39] (fun i wq => ∃ j : Nat, j ≤ n9 ∧ i = .int .i64 j ∧ (∀ i z, i < j → L[i]? = some z → z ≤ (n : Int) - k - 2) ∧ Below w3.heap.size w3 wq) (fun i _ => n9 - (intOf i).toNat)
                case atStart => exact ⟨0, by omega, rfl, fun _ _ h => absurd h (by omega), Below.refl _ _⟩
                case round =>
                  obtain ⟨j, hj, rfl, hall, hbq⟩ := hrel
                  by_cases hjl : j < n9
                  · obtain ⟨b9, o9, y, rfl, hab9, hy, hcell9⟩ := ints_get hA9 hjl
                    have d0 := hcell9 _ _ hbq hab9
                    have HY9 := Lib.hid hy; clear hcell9 hy
                    have HALL := Lib.hid hall; clear hall
                    by_cases hyl : y ≤ (n : Int) - k - 2
                    · have hyl2 : ¬ (n : Int) - 2 - k < y := by omega
                      have HYL := Lib.hid hyl; clear hyl
                      go_wp2
                      exact ⟨⟨j + 1, by omega, by go_num, all_to HALL.out HY9.out HYL.out, hbq⟩, by simp [intOf]; omega⟩
                    · have hyl2 : (n : Int) - 2 - k < y := by omega
                      have HN := Lib.hid (waysB_no (not_waysOk HP.out (by rw [HL.out]; intro h; exact hyl (((HI2.out _).1 h).2.2 y (List.mem_of_getElem? HY9.out)))))
                      clear hyl
                      go_wp2
                      go_ret
                      exact ⟨ret_bool HN.out.symm, below_then hb03 hbq⟩
                  · obtain rfl : j = n9 := by omega
                    have hok : insOk ⟨3, kk, yes, no⟩ ((n : Int) - k - 2) := (HI2.out _).2 ⟨HK.out, HFT.out, fun y hy => by
                      obtain ⟨i, hi, e⟩ := List.getElem_of_mem hy
                      exact hall i y (by have := HN9.out; omega) (by rw [← e]; exact List.getElem?_eq_getElem hi)⟩
                    have HOK := Lib.hid hok; clear hok hall
                    go_wp2
                    exact ⟨⟨k + 1, by omega, by go_num, waysTo_succ hto HP.out (by rw [HL.out]; exact HOK.out), below_then hb03 hbq⟩, by simp [intOf]; omega⟩
          · have hD : ∀ W : World, Calls Tryd.prog 125 #[.agg #[.int .i64 4, .int .i64 kk, .int .i64 yes, .int .i64 no]] W fun e w' => e = .returned (.tuple #[.iface 183 (.agg #[.int .i64 3, .int .i64 kk, .int .i64 yes, .int .i64 no]), .bool (knownOf ⟨4, kk, yes, no⟩)]) ∧ Below W.heap.size W w' := fun W => by simpa [actOf] using doingOf_any ⟨4, kk, yes, no⟩ W
            have hF : ∀ W : World, Calls Tryd.prog 186 #[.agg #[.int .i64 3, .int .i64 kk, .int .i64 yes, .int .i64 no]] W fun e w' => e = .returned (.bool (fitsB ⟨4, kk, yes, no⟩)) ∧ Below W.heap.size W w' := fun W => by
              have e : fitsB ⟨4, kk, yes, no⟩ = _ := fitsEq_4 kk yes no
              rw [e]; exact looking_fits 3 kk yes no W
            have hY : ∀ W : World, Calls Tryd.prog 187 #[.agg #[.int .i64 3, .int .i64 kk, .int .i64 yes, .int .i64 no]] W (WaysPost [yes, no] W) := fun W => looking_ways 3 kk yes no W
            have hI : ∀ left : Int, insOk ⟨4, kk, yes, no⟩ left ↔ knownOf ⟨4, kk, yes, no⟩ = true ∧ fitsB ⟨4, kk, yes, no⟩ = true ∧ ∀ y ∈ ([yes, no] : List Int), y ≤ left := fun left => by rw [insOk_iff (by simp)]; simp [waysL]
            have HD := Lib.hid hD; have HF := Lib.hid hF; have HY := Lib.hid hY; have HI := Lib.hid hI; clear hD hF hY hI hoc
            go_wp2_with fail
            refine (HD.out _).mono ?_; rintro e w1 ⟨rfl, hb1⟩
            have hb01 : Below w.heap.size w w1 := below_then (below_then hb (show Below wr.heap.size wr _ by go_grown)) hb1
            have hlt1 : wr.heap.size < w1.heap.size := by have := hb1.size; simp at this; omega
            cases hk : knownOf ⟨4, kk, yes, no⟩
            · have HN := Lib.hid (waysB_no (not_waysOk HP.out (by rw [HL.out]; intro h; have := ((HI.out _).1 h).1; rw [hk] at this; cases this)))
              clear hk
              go_wp2
              go_ret
              exact ⟨ret_bool HN.out.symm, hb01⟩
            · have HK := Lib.hid hk; clear hk
              go_wp2_with fail
              refine (HF.out _).mono ?_; rintro e w2 ⟨rfl, hb2⟩
              cases hf : fitsB ⟨4, kk, yes, no⟩
              · have HN := Lib.hid (waysB_no (not_waysOk HP.out (by rw [HL.out]; intro h; have := ((HI.out _).1 h).2.1; rw [hf] at this; cases this)))
                clear hf
                go_wp2
                go_ret
                exact ⟨ret_bool HN.out.symm, below_then hb01 hb2⟩
              · have HFT := Lib.hid hf; clear hf
                go_wp2_with fail
                refine (HY.out _).mono ?_; rintro e w3 ⟨v9, rfl, o9, hb3⟩
                obtain ⟨A9, n9, c9, rfl, hA9⟩ := SlA.of_own o9 (ints_len _) (ints_rows _)
                have hn9 : ([yes, no] : List Int).length = n9 := by have := hA9.len; rwa [ints_len] at this
                have hc9 := hA9.cap
                have hm9 := hA9.max
                unfold maxLen at hm9
                have hb03 := below_then (below_then hb01 hb2) hb3
                clear o9
                obtain ⟨L, hL⟩ : ∃ L : List Int, L = [yes, no] := ⟨_, rfl⟩
                rw [← hL] at hA9 hn9
                have HI2 := Lib.hid (fun left => hL ▸ HI.out left : ∀ left : Int, insOk ⟨4, kk, yes, no⟩ left ↔ knownOf ⟨4, kk, yes, no⟩ = true ∧ fitsB ⟨4, kk, yes, no⟩ = true ∧ ∀ y ∈ L, y ≤ left)
                have HN9 := Lib.hid hn9; clear hn9 hL
                go_wp2
                go_loopw [39] (fun i wq => ∃ j : Nat, j ≤ n9 ∧ i = .int .i64 j ∧ (∀ i z, i < j → L[i]? = some z → z ≤ (n : Int) - k - 2) ∧ Below w3.heap.size w3 wq) (fun i _ => n9 - (intOf i).toNat)
                case atStart => exact ⟨0, by omega, rfl, fun _ _ h => absurd h (by omega), Below.refl _ _⟩
                case round =>
                  obtain ⟨j, hj, rfl, hall, hbq⟩ := hrel
                  by_cases hjl : j < n9
                  · obtain ⟨b9, o9, y, rfl, hab9, hy, hcell9⟩ := ints_get hA9 hjl
                    have d0 := hcell9 _ _ hbq hab9
                    have HY9 := Lib.hid hy; clear hcell9 hy
                    have HALL := Lib.hid hall; clear hall
                    by_cases hyl : y ≤ (n : Int) - k - 2
                    · have hyl2 : ¬ (n : Int) - 2 - k < y := by omega
                      have HYL := Lib.hid hyl; clear hyl
                      go_wp2
                      exact ⟨⟨j + 1, by omega, by go_num, all_to HALL.out HY9.out HYL.out, hbq⟩, by simp [intOf]; omega⟩
                    · have hyl2 : (n : Int) - 2 - k < y := by omega
                      have HN := Lib.hid (waysB_no (not_waysOk HP.out (by rw [HL.out]; intro h; exact hyl (((HI2.out _).1 h).2.2 y (List.mem_of_getElem? HY9.out)))))
                      clear hyl
                      go_wp2
                      go_ret
                      exact ⟨ret_bool HN.out.symm, below_then hb03 hbq⟩
                  · obtain rfl : j = n9 := by omega
                    have hok : insOk ⟨4, kk, yes, no⟩ ((n : Int) - k - 2) := (HI2.out _).2 ⟨HK.out, HFT.out, fun y hy => by
                      obtain ⟨i, hi, e⟩ := List.getElem_of_mem hy
                      exact hall i y (by have := HN9.out; omega) (by rw [← e]; exact List.getElem?_eq_getElem hi)⟩
                    have HOK := Lib.hid hok; clear hok hall
                    go_wp2
                    exact ⟨⟨k + 1, by omega, by go_num, waysTo_succ hto HP.out (by rw [HL.out]; exact HOK.out), below_then hb03 hbq⟩, by simp [intOf]; omega⟩
          · have hD : ∀ W : World, Calls Tryd.prog 125 #[.agg #[.int .i64 5, .int .i64 kk, .int .i64 yes, .int .i64 no]] W fun e w' => e = .returned (.tuple #[.iface 185 (.agg #[.int .i64 kk]), .bool (knownOf ⟨5, kk, yes, no⟩)]) ∧ Below W.heap.size W w' := fun W => by simpa [actOf] using doingOf_any ⟨5, kk, yes, no⟩ W
            have hF : ∀ W : World, Calls Tryd.prog 189 #[.agg #[.int .i64 kk]] W fun e w' => e = .returned (.bool (fitsB ⟨5, kk, yes, no⟩)) ∧ Below W.heap.size W w' := fun W => by
              have e : fitsB ⟨5, kk, yes, no⟩ = _ := fitsEq_5 kk yes no
              rw [e]; exact jumping_fits kk W
            have hY : ∀ W : World, Calls Tryd.prog 190 #[.agg #[.int .i64 kk]] W (WaysPost [kk] W) := fun W => jumping_ways kk W
            have hI : ∀ left : Int, insOk ⟨5, kk, yes, no⟩ left ↔ knownOf ⟨5, kk, yes, no⟩ = true ∧ fitsB ⟨5, kk, yes, no⟩ = true ∧ ∀ y ∈ ([kk] : List Int), y ≤ left := fun left => by rw [insOk_iff (by simp)]; simp [waysL]
            have HD := Lib.hid hD; have HF := Lib.hid hF; have HY := Lib.hid hY; have HI := Lib.hid hI; clear hD hF hY hI hoc
            go_wp2_with fail
            refine (HD.out _).mono ?_; rintro e w1 ⟨rfl, hb1⟩
            have hb01 : Below w.heap.size w w1 := below_then (below_then hb (show Below wr.heap.size wr _ by go_grown)) hb1
            have hlt1 : wr.heap.size < w1.heap.size := by have := hb1.size; simp at this; omega
            cases hk : knownOf ⟨5, kk, yes, no⟩
            · have HN := Lib.hid (waysB_no (not_waysOk HP.out (by rw [HL.out]; intro h; have := ((HI.out _).1 h).1; rw [hk] at this; cases this)))
              clear hk
              go_wp2
              go_ret
              exact ⟨ret_bool HN.out.symm, hb01⟩
            · have HK := Lib.hid hk; clear hk
              go_wp2_with fail
              refine (HF.out _).mono ?_; rintro e w2 ⟨rfl, hb2⟩
              cases hf : fitsB ⟨5, kk, yes, no⟩
              · have HN := Lib.hid (waysB_no (not_waysOk HP.out (by rw [HL.out]; intro h; have := ((HI.out _).1 h).2.1; rw [hf] at this; cases this)))
                clear hf
                go_wp2
                go_ret
                exact ⟨ret_bool HN.out.symm, below_then hb01 hb2⟩
              · have HFT := Lib.hid hf; clear hf
                go_wp2_with fail
                refine (HY.out _).mono ?_; rintro e w3 ⟨v9, rfl, o9, hb3⟩
                obtain ⟨A9, n9, c9, rfl, hA9⟩ := SlA.of_own o9 (ints_len _) (ints_rows _)
                have hn9 : ([kk] : List Int).length = n9 := by have := hA9.len; rwa [ints_len] at this
                have hc9 := hA9.cap
                have hm9 := hA9.max
                unfold maxLen at hm9
                have hb03 := below_then (below_then hb01 hb2) hb3
                clear o9
                obtain ⟨L, hL⟩ : ∃ L : List Int, L = [kk] := ⟨_, rfl⟩
                rw [← hL] at hA9 hn9
                have HI2 := Lib.hid (fun left => hL ▸ HI.out left : ∀ left : Int, insOk ⟨5, kk, yes, no⟩ left ↔ knownOf ⟨5, kk, yes, no⟩ = true ∧ fitsB ⟨5, kk, yes, no⟩ = true ∧ ∀ y ∈ L, y ≤ left)
                have HN9 := Lib.hid hn9; clear hn9 hL
                go_wp2
                go_loopw [39] (fun i wq => ∃ j : Nat, j ≤ n9 ∧ i = .int .i64 j ∧ (∀ i z, i < j → L[i]? = some z → z ≤ (n : Int) - k - 2) ∧ Below w3.heap.size w3 wq) (fun i _ => n9 - (intOf i).toNat)
                case atStart => exact ⟨0, by omega, rfl, fun _ _ h => absurd h (by omega), Below.refl _ _⟩
                case round =>
                  obtain ⟨j, hj, rfl, hall, hbq⟩ := hrel
                  by_cases hjl : j < n9
                  · obtain ⟨b9, o9, y, rfl, hab9, hy, hcell9⟩ := ints_get hA9 hjl
                    have d0 := hcell9 _ _ hbq hab9
                    have HY9 := Lib.hid hy; clear hcell9 hy
                    have HALL := Lib.hid hall; clear hall
                    by_cases hyl : y ≤ (n : Int) - k - 2
                    · have hyl2 : ¬ (n : Int) - 2 - k < y := by omega
                      have HYL := Lib.hid hyl; clear hyl
                      go_wp2
                      exact ⟨⟨j + 1, by omega, by go_num, all_to HALL.out HY9.out HYL.out, hbq⟩, by simp [intOf]; omega⟩
                    · have hyl2 : (n : Int) - 2 - k < y := by omega
                      have HN := Lib.hid (waysB_no (not_waysOk HP.out (by rw [HL.out]; intro h; exact hyl (((HI2.out _).1 h).2.2 y (List.mem_of_getElem? HY9.out)))))
                      clear hyl
                      go_wp2
                      go_ret
                      exact ⟨ret_bool HN.out.symm, below_then hb03 hbq⟩
                  · obtain rfl : j = n9 := by omega
                    have hok : insOk ⟨5, kk, yes, no⟩ ((n : Int) - k - 2) := (HI2.out _).2 ⟨HK.out, HFT.out, fun y hy => by
                      obtain ⟨i, hi, e⟩ := List.getElem_of_mem hy
                      exact hall i y (by have := HN9.out; omega) (by rw [← e]; exact List.getElem?_eq_getElem hi)⟩
                    have HOK := Lib.hid hok; clear hok hall
                    go_wp2
                    exact ⟨⟨k + 1, by omega, by go_num, waysTo_succ hto HP.out (by rw [HL.out]; exact HOK.out), below_then hb03 hbq⟩, by simp [intOf]; omega⟩
          · have hD : ∀ W : World, Calls Tryd.prog 125 #[.agg #[.int .i64 6, .int .i64 kk, .int .i64 yes, .int .i64 no]] W fun e w' => e = .returned (.tuple #[.iface 187 (.agg #[.int .i64 kk]), .bool (knownOf ⟨6, kk, yes, no⟩)]) ∧ Below W.heap.size W w' := fun W => by simpa [actOf] using doingOf_any ⟨6, kk, yes, no⟩ W
            have hF : ∀ W : World, Calls Tryd.prog 192 #[.agg #[.int .i64 kk]] W fun e w' => e = .returned (.bool (fitsB ⟨6, kk, yes, no⟩)) ∧ Below W.heap.size W w' := fun W => by
              have e : fitsB ⟨6, kk, yes, no⟩ = _ := fitsEq_6 kk yes no
              rw [e]; exact ending_fits kk W
            have hY : ∀ W : World, Calls Tryd.prog 193 #[.agg #[.int .i64 kk]] W (WaysPost [] W) := fun W => ending_ways kk W
            have hI : ∀ left : Int, insOk ⟨6, kk, yes, no⟩ left ↔ knownOf ⟨6, kk, yes, no⟩ = true ∧ fitsB ⟨6, kk, yes, no⟩ = true ∧ ∀ y ∈ ([] : List Int), y ≤ left := fun left => by rw [insOk_iff (by simp)]; simp [waysL]
            have HD := Lib.hid hD; have HF := Lib.hid hF; have HY := Lib.hid hY; have HI := Lib.hid hI; clear hD hF hY hI hoc
            go_wp2_with fail
            refine (HD.out _).mono ?_; rintro e w1 ⟨rfl, hb1⟩
            have hb01 : Below w.heap.size w w1 := below_then (below_then hb (show Below wr.heap.size wr _ by go_grown)) hb1
            have hlt1 : wr.heap.size < w1.heap.size := by have := hb1.size; simp at this; omega
            cases hk : knownOf ⟨6, kk, yes, no⟩
            · have HN := Lib.hid (waysB_no (not_waysOk HP.out (by rw [HL.out]; intro h; have := ((HI.out _).1 h).1; rw [hk] at this; cases this)))
              clear hk
              go_wp2
              go_ret
              exact ⟨ret_bool HN.out.symm, hb01⟩
            · have HK := Lib.hid hk; clear hk
              go_wp2_with fail
              refine (HF.out _).mono ?_; rintro e w2 ⟨rfl, hb2⟩
              cases hf : fitsB ⟨6, kk, yes, no⟩
              · have HN := Lib.hid (waysB_no (not_waysOk HP.out (by rw [HL.out]; intro h; have := ((HI.out _).1 h).2.1; rw [hf] at this; cases this)))
                clear hf
                go_wp2
                go_ret
                exact ⟨ret_bool HN.out.symm, below_then hb01 hb2⟩
              · have HFT := Lib.hid hf; clear hf
                go_wp2_with fail
                refine (HY.out _).mono ?_; rintro e w3 ⟨v9, rfl, o9, hb3⟩
                obtain ⟨A9, n9, c9, rfl, hA9⟩ := SlA.of_own o9 (ints_len _) (ints_rows _)
                have hn9 : ([] : List Int).length = n9 := by have := hA9.len; rwa [ints_len] at this
                have hc9 := hA9.cap
                have hm9 := hA9.max
                unfold maxLen at hm9
                have hb03 := below_then (below_then hb01 hb2) hb3
                clear o9
                obtain ⟨L, hL⟩ : ∃ L : List Int, L = [] := ⟨_, rfl⟩
                rw [← hL] at hA9 hn9
                have HI2 := Lib.hid (fun left => hL ▸ HI.out left : ∀ left : Int, insOk ⟨6, kk, yes, no⟩ left ↔ knownOf ⟨6, kk, yes, no⟩ = true ∧ fitsB ⟨6, kk, yes, no⟩ = true ∧ ∀ y ∈ L, y ≤ left)
                have HN9 := Lib.hid hn9; clear hn9 hL
                go_wp2
                go_loopw [39] (fun i wq => ∃ j : Nat, j ≤ n9 ∧ i = .int .i64 j ∧ (∀ i z, i < j → L[i]? = some z → z ≤ (n : Int) - k - 2) ∧ Below w3.heap.size w3 wq) (fun i _ => n9 - (intOf i).toNat)
                case atStart => exact ⟨0, by omega, rfl, fun _ _ h => absurd h (by omega), Below.refl _ _⟩
                case round =>
                  obtain ⟨j, hj, rfl, hall, hbq⟩ := hrel
                  by_cases hjl : j < n9
                  · obtain ⟨b9, o9, y, rfl, hab9, hy, hcell9⟩ := ints_get hA9 hjl
                    have d0 := hcell9 _ _ hbq hab9
                    have HY9 := Lib.hid hy; clear hcell9 hy
                    have HALL := Lib.hid hall; clear hall
                    by_cases hyl : y ≤ (n : Int) - k - 2
                    · have hyl2 : ¬ (n : Int) - 2 - k < y := by omega
                      have HYL := Lib.hid hyl; clear hyl
                      go_wp2
                      exact ⟨⟨j + 1, by omega, by go_num, all_to HALL.out HY9.out HYL.out, hbq⟩, by simp [intOf]; omega⟩
                    · have hyl2 : (n : Int) - 2 - k < y := by omega
                      have HN := Lib.hid (waysB_no (not_waysOk HP.out (by rw [HL.out]; intro h; exact hyl (((HI2.out _).1 h).2.2 y (List.mem_of_getElem? HY9.out)))))
                      clear hyl
                      go_wp2
                      go_ret
                      exact ⟨ret_bool HN.out.symm, below_then hb03 hbq⟩
                  · obtain rfl : j = n9 := by omega
                    have hok : insOk ⟨6, kk, yes, no⟩ ((n : Int) - k - 2) := (HI2.out _).2 ⟨HK.out, HFT.out, fun y hy => by
                      obtain ⟨i, hi, e⟩ := List.getElem_of_mem hy
                      exact hall i y (by have := HN9.out; omega) (by rw [← e]; exact List.getElem?_eq_getElem hi)⟩
                    have HOK := Lib.hid hok; clear hok hall
                    go_wp2
                    exact ⟨⟨k + 1, by omega, by go_num, waysTo_succ hto HP.out (by rw [HL.out]; exact HOK.out), below_then hb03 hbq⟩, by simp [intOf]; omega⟩
        · obtain ⟨hni, hnk, hna⟩ := insOk_none (left := (n : Int) - k - 2) ho
          have HN := Lib.hid (waysB_no (not_waysOk HP.out (by rw [HL.out]; exact hni)))
          have hD := fun W => doingOf_any x W
          rw [hnk, hna] at hD
          have HD := Lib.hid hD; clear hD hni ho hnk hna
          go_wp2_with fail
          refine (HD.out _).mono ?_; rintro e w1 ⟨rfl, hb1⟩
          go_wp2
          go_ret
          exact ⟨ret_bool HN.out.symm, below_then hb (below_then hoc hb1)⟩
      · obtain rfl : k = n := by omega
        go_wp2
        go_ret
        exact ⟨ret_bool (waysB_of (by simpa using ⟨by rw [HL.out]; omega, by rw [HL.out]; omega, by rw [HL.out]; exact hto⟩)), hb⟩
  · have hno : ¬ waysOk g := fun h => hr ⟨hn ▸ h.1, hn ▸ h.2.1⟩
    have HN := Lib.hid (waysB_no hno); clear hno
    go_enter Tryd.func107, Tryd.ntmps107
    go_wp2
    all_goals (go_ret; exact ⟨ret_bool HN.out.symm, by go_grown⟩)
end Go.Proofs.YtkiacbfpnidjlaaDoor
