/- Joined texts: PolI0 PolI1. -/
import Derived.Test.YtkiacbfpnidjlaaGreatDoorPolSA
import Derived.Test.YtkiacbfpnidjlaaGreatDoorPts
-- impl's policies: testOk, ruleOk, the names of verdicts and signs.
namespace Go.Proofs.YtkiacbfpnidjlaaGreatDoor
open Go.RowKit
set_option linter.unusedSimpArgs false
set_option linter.unusedVariables false

theorem bits_clear {v m : Int} (hv : 0 ≤ v ∧ v ≤ 4294967295) (hm : 0 ≤ m ∧ m ≤ 4294967295) : (bits .andNot .i64 v m == 0) = (bits .and .i64 v m == v) := by
  obtain ⟨a, rfl⟩ := Int.eq_ofNat_of_zero_le hv.1
  obtain ⟨b, rfl⟩ := Int.eq_ofNat_of_zero_le hm.1
  have ha : a < 2 ^ 32 := by have : (2 : Nat) ^ 32 = 4294967296 := by decide
                             omega
  have ha2 : a % 2 ^ 64 = a := Nat.mod_eq_of_lt (Nat.lt_trans ha (by decide))
  simp only [bits, IntKind.bits, BitVec.ofInt_natCast]
  have hx : (BitVec.ofNat 64 a).toNat = a := by rw [BitVec.toNat_ofNat, ha2]
  have small : ∀ z : BitVec 64, (∀ i : Nat, z.getLsbD i = true → (BitVec.ofNat 64 a).getLsbD i = true) → z.toNat ≤ a := by
    intro z hz
    have hle : z &&& BitVec.ofNat 64 a = z := by
      apply BitVec.eq_of_getLsbD_eq
      intro i hi
      rw [BitVec.getLsbD_and]
      cases h : z.getLsbD i with
      | false => rfl
      | true => rw [hz i h]; rfl
    have h2 := congrArg BitVec.toNat hle
    rw [BitVec.toNat_and, hx] at h2
    rw [← h2]
    exact Nat.and_le_right
  have h1 : (BitVec.ofNat 64 a &&& ~~~BitVec.ofNat 64 b).toNat ≤ a := small _ (fun i h => by rw [BitVec.getLsbD_and] at h; exact (Bool.and_eq_true _ _ ▸ h).1)
  have h2 : (BitVec.ofNat 64 a &&& BitVec.ofNat 64 b).toNat ≤ a := small _ (fun i h => by rw [BitVec.getLsbD_and] at h; exact (Bool.and_eq_true _ _ ▸ h).1)
  have hp : (2 : Nat) ^ 32 = 4294967296 := by decide
  have w1 : IntKind.i64.wrap (((BitVec.ofNat 64 a &&& ~~~BitVec.ofNat 64 b).toNat : Nat) : Int) = ((BitVec.ofNat 64 a &&& ~~~BitVec.ofNat 64 b).toNat : Nat) := wrap_small _ (Int.natCast_nonneg _) (by omega)
  have w2 : IntKind.i64.wrap (((BitVec.ofNat 64 a &&& BitVec.ofNat 64 b).toNat : Nat) : Int) = ((BitVec.ofNat 64 a &&& BitVec.ofNat 64 b).toNat : Nat) := wrap_small _ (Int.natCast_nonneg _) (by omega)
  change (IntKind.i64.wrap (((BitVec.ofNat 64 a &&& ~~~BitVec.ofNat 64 b).toNat : Nat) : Int) == 0) = (IntKind.i64.wrap (((BitVec.ofNat 64 a &&& BitVec.ofNat 64 b).toNat : Nat) : Int) == (a : Int))
  rw [w1, w2]
  have key : (BitVec.ofNat 64 a &&& ~~~BitVec.ofNat 64 b).toNat = 0 ↔ (BitVec.ofNat 64 a &&& BitVec.ofNat 64 b).toNat = a := by
    constructor
    · intro h
      have e : BitVec.ofNat 64 a &&& ~~~BitVec.ofNat 64 b = 0#64 := BitVec.eq_of_toNat_eq (by rw [h]; rfl)
      have e2 : BitVec.ofNat 64 a &&& BitVec.ofNat 64 b = BitVec.ofNat 64 a := by
        apply BitVec.eq_of_getLsbD_eq
        intro i hi
        have h3 := congrArg (fun z : BitVec 64 => z.getLsbD i) e
        simp only [BitVec.getLsbD_and, BitVec.getLsbD_not, BitVec.getLsbD_zero] at h3
        rw [BitVec.getLsbD_and]
        cases h4 : (BitVec.ofNat 64 a).getLsbD i <;> cases h5 : (BitVec.ofNat 64 b).getLsbD i <;> simp_all
      rw [e2, hx]
    · intro h
      have e : BitVec.ofNat 64 a &&& BitVec.ofNat 64 b = BitVec.ofNat 64 a := BitVec.eq_of_toNat_eq (by rw [h, hx])
      have e2 : BitVec.ofNat 64 a &&& ~~~BitVec.ofNat 64 b = 0#64 := by
        apply BitVec.eq_of_getLsbD_eq
        intro i hi
        have h3 := congrArg (fun z : BitVec 64 => z.getLsbD i) e
        simp only [BitVec.getLsbD_and] at h3
        simp only [BitVec.getLsbD_and, BitVec.getLsbD_not, BitVec.getLsbD_zero]
        cases h4 : (BitVec.ofNat 64 a).getLsbD i <;> cases h5 : (BitVec.ofNat 64 b).getLsbD i <;> simp_all
      rw [e2]; rfl
  rw [Bool.eq_iff_iff, beq_iff_eq, beq_iff_eq]
  constructor
  · intro h; have := key.1 (by omega); omega
  · intro h; have := key.2 (by omega); omega

theorem verdictName_any (n : Int) (w : World) :
    Calls Tryz.prog 61 #[.int .i64 n] w fun e w' => e = .returned (.string ⟨(verdNm n).toArray⟩) ∧ w = w' := by
  by_cases hn : 1 ≤ n ∧ n ≤ 4
  · obtain rfl | rfl | rfl | rfl : n = 1 ∨ n = 2 ∨ n = 3 ∨ n = 4 := by omega
    all_goals
      go_enter Tryz.func61, Tryz.ntmps61
      go_wp2
      all_goals (go_ret; exact ⟨rfl, rfl⟩)
  · have e1 : (n == 1) = false := by simp; omega
    have e2 : (n == 2) = false := by simp; omega
    have e3 : (n == 3) = false := by simp; omega
    have e4 : (n == 4) = false := by simp; omega
    have hnm : verdNm n = [] := by
      unfold verdNm
      rw [if_neg (by omega), if_neg (by omega), if_neg (by omega), if_neg (by omega)]
    have HN := Lib.hid hnm
    clear hnm
    go_enter Tryz.func61, Tryz.ntmps61
    go_wp2
    all_goals (go_ret; exact ⟨by rw [HN.out]; rfl, rfl⟩)

theorem sign_any (n : Int) (w : World) :
    Calls Tryz.prog 72 #[.int .i64 n] w fun e w' => e = .returned (.string ⟨(signNm n).toArray⟩) ∧ w = w' := by
  by_cases hn : 1 ≤ n ∧ n ≤ 3
  · obtain rfl | rfl | rfl : n = 1 ∨ n = 2 ∨ n = 3 := by omega
    all_goals
      go_enter Tryz.func72, Tryz.ntmps72
      go_wp2
      all_goals (go_ret; exact ⟨rfl, rfl⟩)
  · have e1 : (n == 1) = false := by simp; omega
    have e2 : (n == 2) = false := by simp; omega
    have e3 : (n == 3) = false := by simp; omega
    have hnm : signNm n = [] := by
      unfold signNm
      rw [if_neg (by omega), if_neg (by omega), if_neg (by omega)]
    have HN := Lib.hid hnm
    clear hnm
    go_enter Tryz.func72, Tryz.ntmps72
    go_wp2
    all_goals (go_ret; exact ⟨by rw [HN.out]; rfl, rfl⟩)

/-- A test's words, all but how it looks. -/
def testWords (t : Ts) : Prop := (1 ≤ t.field ∧ t.field ≤ 4) ∧ (1 ≤ t.mask ∧ t.mask ≤ 4294967295) ∧ (0 ≤ t.value ∧ t.value ≤ 4294967295)
theorem testOkB_no {t : Ts} (h : ¬ testWords t) : testOkB t = false := by
  cases e : testOkB t with
  | false => rfl
  | true => have := testOkB_words e; exact absurd ⟨this.1, this.2.1, this.2.2.1⟩ h
theorem testOkB_one {t : Ts} (h : testWords t) (h1 : t.op = 1) : testOkB t = (bits .and .i64 t.value t.mask == t.value) := by
  obtain ⟨a, b, c⟩ := h
  unfold testOkB
  rw [inB_iff.2 a, inB_iff.2 b, inB_iff.2 c, h1]; simp [inB]
theorem testOkB_two {t : Ts} (h : testWords t) (h1 : t.op = 2 ∨ t.op = 3) : testOkB t = (t.mask == 4294967295) := by
  obtain ⟨a, b, c⟩ := h
  unfold testOkB
  rw [inB_iff.2 a, inB_iff.2 b, inB_iff.2 c]
  rcases h1 with h1 | h1 <;> (rw [h1]; simp [inB])
theorem testOkB_none {t : Ts} (h1 : t.op ≠ 1 ∧ t.op ≠ 2 ∧ t.op ≠ 3) : testOkB t = false := by
  cases e : testOkB t with
  | false => rfl
  | true => have := (testOkB_words e).2.2.2; omega

set_option maxHeartbeats 2000000 in
theorem testOk_any (t : Ts) (w : World) :
    Calls Tryz.prog 69 #[.agg #[.int .i64 t.field, .int .i64 t.mask, .int .i64 t.op, .int .i64 t.value]] w fun e w' => e = .returned (.bool (testOkB t)) ∧ Below w.heap.size w w' := by
  by_cases hw : testWords t
  · obtain ⟨a, b, c⟩ := id hw
    by_cases h1 : t.op = 1
    · have hb := testOkB_one hw h1
      have hc := bits_clear (v := t.value) (m := t.mask) c ⟨by omega, b.2⟩
      have HB := Lib.hid (hb.trans hc.symm)
      obtain ⟨a1, a2⟩ := a; obtain ⟨b1, b2⟩ := b; obtain ⟨c1, c2⟩ := c
      have hwd : decide (0 ≤ t.value ∧ t.value ≤ 4294967295) = true := by simp; omega
      have d1 : (t.op == 1) = true := by simp [h1]
      clear hw h1 hb hc
      obtain ⟨f, m, o, v⟩ := t
      simp only at *
      go_enter Tryz.func69, Tryz.ntmps69
      go_wp2_with (go_at_call 49; refine (wordOk_any _ _).mono ?_; rintro e w' ⟨rfl, rfl⟩; rw [hwd])
      all_goals
        go_ret
        exact ⟨ret_bool HB.out.symm, by go_grown⟩
    · by_cases h2 : t.op = 2 ∨ t.op = 3
      · have HB := Lib.hid (testOkB_two hw h2)
        obtain ⟨a1, a2⟩ := a; obtain ⟨b1, b2⟩ := b; obtain ⟨c1, c2⟩ := c
        have hwd : decide (0 ≤ t.value ∧ t.value ≤ 4294967295) = true := by simp; omega
        have d1 : (t.op == 1) = false := by simp [h1]
        have d23 : ((t.op == 2) = true) ∨ ((t.op == 2) = false ∧ (t.op == 3) = true) := by simp; omega
        clear hw h1 h2
        obtain ⟨f, m, o, v⟩ := t
        simp only at *
        rcases d23 with d2 | ⟨d2, d3⟩
        all_goals
          go_enter Tryz.func69, Tryz.ntmps69
          go_wp2_with (go_at_call 49; refine (wordOk_any _ _).mono ?_; rintro e w' ⟨rfl, rfl⟩; rw [hwd])
        all_goals
          go_ret
          exact ⟨ret_bool HB.out.symm, by go_grown⟩
      · have HB := Lib.hid (testOkB_none (t := t) (by omega))
        obtain ⟨a1, a2⟩ := a; obtain ⟨b1, b2⟩ := b; obtain ⟨c1, c2⟩ := c
        have hwd : decide (0 ≤ t.value ∧ t.value ≤ 4294967295) = true := by simp; omega
        have d1 : (t.op == 1) = false := by simp [h1]
        have d2 : (t.op == 2) = false := by simp; omega
        have d3 : (t.op == 3) = false := by simp; omega
        clear hw h1 h2
        obtain ⟨f, m, o, v⟩ := t
        simp only at *
        go_enter Tryz.func69, Tryz.ntmps69
        go_wp2_with (go_at_call 49; refine (wordOk_any _ _).mono ?_; rintro e w' ⟨rfl, rfl⟩; rw [hwd])
        all_goals
          go_ret
          exact ⟨ret_bool HB.out.symm, by go_grown⟩
  · have HB := Lib.hid (testOkB_no hw)
    obtain ⟨f, m, o, v⟩ := t
    simp only [testWords] at hw
    by_cases hf : 1 ≤ f
    · by_cases hf2 : f ≤ 4
      · by_cases hm : 1 ≤ m
        · by_cases hm2 : m ≤ 4294967295
          · have hwd : decide (0 ≤ v ∧ v ≤ 4294967295) = false := by simp; omega
            clear hw
            go_enter Tryz.func69, Tryz.ntmps69
            go_wp2_with (go_at_call 49; refine (wordOk_any _ _).mono ?_; rintro e w' ⟨rfl, rfl⟩; rw [hwd])
            all_goals
              go_ret
              exact ⟨ret_bool HB.out.symm, by go_grown⟩
          · have x : 4294967295 < m := by omega
            clear hw hm2
            go_enter Tryz.func69, Tryz.ntmps69
            go_wp2_with fail
            all_goals
              go_ret
              exact ⟨ret_bool HB.out.symm, by go_grown⟩
        · have x : m < 1 := by omega
          clear hw hm
          go_enter Tryz.func69, Tryz.ntmps69
          go_wp2_with fail
          all_goals
            go_ret
            exact ⟨ret_bool HB.out.symm, by go_grown⟩
      · have x : 4 < f := by omega
        clear hw hf2
        go_enter Tryz.func69, Tryz.ntmps69
        go_wp2_with fail
        all_goals
          go_ret
          exact ⟨ret_bool HB.out.symm, by go_grown⟩
    · have x : f < 1 := by omega
      clear hw hf
      go_enter Tryz.func69, Tryz.ntmps69
      go_wp2_with fail
      all_goals
        go_ret
        exact ⟨ret_bool HB.out.symm, by go_grown⟩
end Go.Proofs.YtkiacbfpnidjlaaGreatDoor

-- impl's policies: ruleOk.
namespace Go.Proofs.YtkiacbfpnidjlaaGreatDoor
open Go.RowKit
set_option linter.unusedSimpArgs false
set_option linter.unusedVariables false

theorem dec_range {n a b : Int} {c : Bool} (h : decide (a ≤ n ∧ n ≤ b) = c) : inB n a b = c := h

set_option maxHeartbeats 4000000 in
theorem iruleOk_any (r : Rl) (tv : Value) (w : World) (hs : Sl w 4 tv (tsR r.tests)) :
    Calls Tryz.prog 58 #[.agg #[.int .i64 r.verdict, .int .i64 r.low, .int .i64 r.high, tv]] w fun e w' => e = .returned (.bool (ruleOkB r)) ∧ Below w.heap.size w w' := by
  obtain ⟨vd, lo, hi, ts⟩ := r
  simp only at hs ⊢
  obtain ⟨A, m, c, rfl, hA⟩ := hs
  have hc := hA.cap
  have hm := hA.max
  unfold maxLen at hm
  have htl : ts.length = m := by have := hA.len; rwa [tsR_len] at this
  have HTL := Lib.hid htl; clear htl
  have hro : ruleOkB ⟨vd, lo, hi, ts⟩ = (inB vd 1 4 && inB lo 0 4294967295 && inB hi lo 4294967295 && decide (m ≤ 4) && ts.all testOkB) := by rw [← HTL.out]; rfl
  have HRO := Lib.hid hro; clear hro
  cases e1 : decide (1 ≤ vd ∧ vd ≤ 4) with
  | false =>
    have HN := Lib.hid (show ruleOkB ⟨vd, lo, hi, ts⟩ = false by rw [HRO.out, dec_range e1]; rfl)
    go_enter Tryz.func58, Tryz.ntmps58
    go_wp2_with (first | (go_at_call 57; refine (verdictOk_any _ _).mono ?_; rintro e w' ⟨rfl, rfl⟩) | (go_at_call 49; refine (wordOk_any _ _).mono ?_; rintro e w' ⟨rfl, rfl⟩))
    go_ret
    exact ⟨ret_bool HN.out.symm, by go_grown⟩
  | true =>
  cases e2 : decide (0 ≤ lo ∧ lo ≤ 4294967295) with
  | false =>
    have HN := Lib.hid (show ruleOkB ⟨vd, lo, hi, ts⟩ = false by rw [HRO.out, dec_range e2]; simp)
    go_enter Tryz.func58, Tryz.ntmps58
    go_wp2_with (first | (go_at_call 57; refine (verdictOk_any _ _).mono ?_; rintro e w' ⟨rfl, rfl⟩) | (go_at_call 49; refine (wordOk_any _ _).mono ?_; rintro e w' ⟨rfl, rfl⟩))
    go_ret
    exact ⟨ret_bool HN.out.symm, by go_grown⟩
  | true =>
  cases e3 : decide (0 ≤ hi ∧ hi ≤ 4294967295) with
  | false =>
    have HN := Lib.hid (show ruleOkB ⟨vd, lo, hi, ts⟩ = false by
      have hq : inB hi lo 4294967295 = false := by
        simp only [decide_eq_true_eq, decide_eq_false_iff_not] at e2 e3
        rw [inB_not]; omega
      rw [HRO.out, hq]; simp)
    go_enter Tryz.func58, Tryz.ntmps58
    go_wp2_with (first | (go_at_call 57; refine (verdictOk_any _ _).mono ?_; rintro e w' ⟨rfl, rfl⟩) | (go_at_call 49; refine (wordOk_any _ _).mono ?_; rintro e w' ⟨rfl, rfl⟩))
    go_ret
    exact ⟨ret_bool HN.out.symm, by go_grown⟩
  | true =>
  by_cases e4 : hi < lo
  · have HN := Lib.hid (show ruleOkB ⟨vd, lo, hi, ts⟩ = false by
      have hq : inB hi lo 4294967295 = false := by rw [inB_not]; omega
      rw [HRO.out, hq]; simp)
    go_enter Tryz.func58, Tryz.ntmps58
    go_wp2_with (first | (go_at_call 57; refine (verdictOk_any _ _).mono ?_; rintro e w' ⟨rfl, rfl⟩) | (go_at_call 49; refine (wordOk_any _ _).mono ?_; rintro e w' ⟨rfl, rfl⟩))
    go_ret
    exact ⟨ret_bool HN.out.symm, by go_grown⟩
  have hq : inB hi lo 4294967295 = true := by
    simp only [decide_eq_true_eq] at e3
    rw [inB_iff]; omega
  have HHEAD := Lib.hid (show (inB vd 1 4 && inB lo 0 4294967295 && inB hi lo 4294967295) = true by rw [dec_range e1, dec_range e2, hq]; rfl)
  clear hq
  by_cases e5 : m ≤ 4
  · have TB := Blk.new w 61 #[.int .i64 vd, .int .i64 lo, .int .i64 hi, .slice A m c]
    go_enter Tryz.func58, Tryz.ntmps58
    go_wp2_with (first | (go_at_call 57; refine (verdictOk_any _ _).mono ?_; rintro e w' ⟨rfl, rfl⟩) | (go_at_call 49; refine (wordOk_any _ _).mono ?_; rintro e w' ⟨rfl, rfl⟩))
    go_loopw [35] (fun i wr => ∃ k : Nat, k ≤ m ∧ i = .int .i64 k ∧ Hid (∀ t ∈ ts.take k, testOkB t = true) ∧ Below w.heap.size w wr) (fun i _ => m - (intOf i).toNat)
    case atStart => exact ⟨0, Nat.zero_le _, rfl, Lib.hid (fun t ht => by simp at ht), by go_grown⟩
    case round =>
      obtain ⟨k, hk, rfl, HALL, hb⟩ := hrel
      have hsz := hb.size
      clear TB
      by_cases hkm : k < m
      · have hki : (k : Int) < m := by omega
        obtain ⟨b, off, t, rfl, hab, hgt, hcell⟩ := ts_get hA hkm
        obtain ⟨c0, c1, c2, c3⟩ := hcell _ _ hb hab
        have HGT := Lib.hid hgt; clear hgt hcell
        cases hto : testOkB t with
        | false =>
          have HN := Lib.hid (ruleOk_no_test (r := ⟨vd, lo, hi, ts⟩) HGT.out hto)
          go_wp2_with fail
          refine (testOk_any t _).mono ?_; rintro e w2 ⟨rfl, hb2⟩
          rw [hto]
          have hb3 := below_then (show Below w.heap.size w (wr.alloc (.cells #[.int .i64 t.field, .int .i64 t.mask, .int .i64 t.op, .int .i64 t.value] 64)) from hb.alloc hsz _) hb2
          go_wp2
          go_ret
          exact ⟨ret_bool HN.out.symm, hb3⟩
        | true =>
          go_wp2_with fail
          refine (testOk_any t _).mono ?_; rintro e w2 ⟨rfl, hb2⟩
          rw [hto]
          have hb3 := below_then (show Below w.heap.size w (wr.alloc (.cells #[.int .i64 t.field, .int .i64 t.mask, .int .i64 t.op, .int .i64 t.value] 64)) from hb.alloc hsz _) hb2
          go_wp2
          exact ⟨⟨k + 1, by omega, by go_num, Lib.hid (take_all_snoc HALL.out HGT.out hto), hb3⟩, by simp [intOf]; omega⟩
      · obtain rfl : k = m := by omega
        have HN := Lib.hid (show ruleOkB ⟨vd, lo, hi, ts⟩ = true by
          have h := HALL.out
          rw [List.take_of_length_le (by rw [HTL.out]; omega)] at h
          rw [HRO.out, HHEAD.out]
          simp only [Bool.and_eq_true, decide_eq_true_eq, List.all_eq_true, true_and]
          exact ⟨e5, h⟩)
        go_wp2
        go_ret
        exact ⟨ret_bool HN.out.symm, hb⟩
  · have e6 : (4 : Int) < m := by omega
    have HN := Lib.hid (show ruleOkB ⟨vd, lo, hi, ts⟩ = false by rw [HRO.out]; simp [e5])
    go_enter Tryz.func58, Tryz.ntmps58
    go_wp2_with (first | (go_at_call 57; refine (verdictOk_any _ _).mono ?_; rintro e w' ⟨rfl, rfl⟩) | (go_at_call 49; refine (wordOk_any _ _).mono ?_; rintro e w' ⟨rfl, rfl⟩))
    go_ret
    exact ⟨ret_bool HN.out.symm, by go_grown⟩
end Go.Proofs.YtkiacbfpnidjlaaGreatDoor
