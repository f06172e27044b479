/- Policies: when one is ok, how one is written; plain words; no Go function is walked here. -/
import Derived.Test.YtoibocaaeimplaaDoorPolT
import Derived.Test.YtoibocaaeimplaaDoorNum
namespace Go.Proofs.YtoibocaaeimplaaDoor
open Go.RowKit
set_option linter.unusedSimpArgs false
set_option linter.unusedVariables false

theorem itoa10 {n : Int} (h : 0 ≤ n ∧ n ≤ 4294967295) : (Lib.itoa n).length ≤ 10 := by rw [itoa_val n h.1]; exact decDigits_le 9 _ (by omega)

def verdNm (n : Int) : List UInt8 := if n = 1 then [97, 108, 108, 111, 119] else if n = 2 then [100, 101, 110, 121] else if n = 3 then [110, 111, 116, 101] else if n = 4 then [115, 116, 111, 112] else []
def signNm (n : Int) : List UInt8 := if n = 1 then [61] else if n = 2 then [60] else if n = 3 then [62] else []
theorem verdNm_len (n : Int) : (verdNm n).length ≤ 5 := by
  unfold verdNm
  by_cases h1 : n = 1
  · rw [if_pos h1]; simp
  rw [if_neg h1]
  by_cases h2 : n = 2
  · rw [if_pos h2]; simp
  rw [if_neg h2]
  by_cases h3 : n = 3
  · rw [if_pos h3]; simp
  rw [if_neg h3]
  by_cases h4 : n = 4
  · rw [if_pos h4]; simp
  rw [if_neg h4]; simp
theorem signNm_len (n : Int) : (signNm n).length ≤ 1 := by
  unfold signNm
  by_cases h1 : n = 1
  · rw [if_pos h1]; simp
  rw [if_neg h1]
  by_cases h2 : n = 2
  · rw [if_pos h2]; simp
  rw [if_neg h2]
  by_cases h3 : n = 3
  · rw [if_pos h3]; simp
  rw [if_neg h3]; simp
def maskText (m : Int) : List UInt8 := if m = 4294967295 then [] else 38 :: Lib.itoa m
def highText (lo hi : Int) : List UInt8 := if hi = lo then [] else 45 :: Lib.itoa hi
def testText (t : Ts) : List UInt8 := [32, 97] ++ Lib.itoa t.field ++ maskText t.mask ++ signNm t.op ++ Lib.itoa t.value
def headText (r : Rl) : List UInt8 := verdNm r.verdict ++ [32] ++ Lib.itoa r.low ++ highText r.low r.high
def testsText (ts : List Ts) : List UInt8 := (ts.map testText).flatten
def ruleText (r : Rl) : List UInt8 := headText r ++ testsText r.tests ++ [10]
def rulesText (rs : List Rl) : List UInt8 := (rs.map ruleText).flatten
def polText (p : Pol) : List UInt8 := rulesText p.rules ++ [101, 108, 115, 101, 32] ++ verdNm p.els ++ [10]

def testOkB (t : Ts) : Bool := inB t.field 1 4 && inB t.mask 1 4294967295 && inB t.value 0 4294967295 && inB t.op 1 3 && (if t.op == 1 then bits .and .i64 t.value t.mask == t.value else t.mask == 4294967295)
def ruleOkB (r : Rl) : Bool := inB r.verdict 1 4 && inB r.low 0 4294967295 && inB r.high r.low 4294967295 && decide (r.tests.length ≤ 4) && r.tests.all testOkB
def polShapeB (p : Pol) : Bool := decide (p.rules.length ≤ 8) && inB p.els 1 4 && p.rules.all ruleOkB
def polOkB (p : Pol) : Bool := polShapeB p && decide ((polText p).length ≤ 900)

theorem testOkB_words {t : Ts} (h : testOkB t = true) : (1 ≤ t.field ∧ t.field ≤ 4) ∧ (1 ≤ t.mask ∧ t.mask ≤ 4294967295) ∧ (0 ≤ t.value ∧ t.value ≤ 4294967295) ∧ (1 ≤ t.op ∧ t.op ≤ 3) := by
  unfold testOkB at h
  simp only [Bool.and_eq_true, inB_iff] at h
  omega
theorem ruleOkB_words {r : Rl} (h : ruleOkB r = true) : (1 ≤ r.verdict ∧ r.verdict ≤ 4) ∧ (0 ≤ r.low ∧ r.low ≤ r.high) ∧ r.high ≤ 4294967295 ∧ r.tests.length ≤ 4 ∧ ∀ t ∈ r.tests, testOkB t = true := by
  unfold ruleOkB at h
  simp only [Bool.and_eq_true, inB_iff, decide_eq_true_eq, List.all_eq_true] at h
  refine ⟨by omega, by omega, by omega, h.1.2, h.2⟩
theorem polShapeB_words {p : Pol} (h : polShapeB p = true) : p.rules.length ≤ 8 ∧ (1 ≤ p.els ∧ p.els ≤ 4) ∧ ∀ r ∈ p.rules, ruleOkB r = true := by
  unfold polShapeB at h
  simp only [Bool.and_eq_true, inB_iff, decide_eq_true_eq, List.all_eq_true] at h
  exact ⟨h.1.1, h.1.2, h.2⟩
theorem polOkB_shape {p : Pol} (h : polOkB p = true) : polShapeB p = true ∧ (polText p).length ≤ 900 := by
  unfold polOkB at h
  simpa using h
theorem maskText_len {m : Int} (h : 1 ≤ m ∧ m ≤ 4294967295) : (maskText m).length ≤ 11 := by
  unfold maskText
  have := itoa10 (n := m) (by omega)
  split <;> simp <;> omega
theorem testText_len {t : Ts} (h : testOkB t = true) : (testText t).length ≤ 34 := by
  obtain ⟨h1, h2, h3, h4⟩ := testOkB_words h
  have a1 := itoa10 (n := t.field) (by omega)
  have a2 := itoa10 (n := t.value) (by omega)
  have a3 := maskText_len h2
  have a4 := signNm_len t.op
  simp [testText]
  omega
theorem headText_len {r : Rl} (h : ruleOkB r = true) : (headText r).length ≤ 27 := by
  obtain ⟨h1, h2, h3, _⟩ := ruleOkB_words h
  have a1 := itoa10 (n := r.low) (by omega)
  have a2 := itoa10 (n := r.high) (by omega)
  have a3 := verdNm_len r.verdict
  have a4 : (highText r.low r.high).length ≤ 11 := by unfold highText; split <;> simp; omega
  simp [headText]
  omega
theorem testsText_len : ∀ (ts : List Ts), (∀ t ∈ ts, testOkB t = true) → (testsText ts).length ≤ 34 * ts.length
  | [], _ => by simp [testsText]
  | t :: ts, h => by
    have h1 := testText_len (h t (by simp))
    have h2 := testsText_len ts (fun t ht => h t (by simp [ht]))
    simp [testsText] at h2 ⊢
    omega
theorem ruleText_len {r : Rl} (h : ruleOkB r = true) : (ruleText r).length ≤ 164 := by
  have h1 := headText_len h
  have h2 := testsText_len r.tests (ruleOkB_words h).2.2.2.2
  have h3 := (ruleOkB_words h).2.2.2.1
  simp [ruleText]
  omega
theorem rulesText_len : ∀ (rs : List Rl), (∀ r ∈ rs, ruleOkB r = true) → (rulesText rs).length ≤ 164 * rs.length
  | [], _ => by simp [rulesText]
  | t :: ts, h => by
    have h1 := ruleText_len (h t (by simp))
    have h2 := rulesText_len ts (fun t ht => h t (by simp [ht]))
    simp [rulesText] at h2 ⊢
    omega
theorem testsText_take {ts : List Ts} {k : Nat} {t : Ts} (h : ts[k]? = some t) : testsText (ts.take (k + 1)) = testsText (ts.take k) ++ testText t := by
  rw [List.take_add_one, h]; simp [testsText]
theorem rulesText_take {rs : List Rl} {k : Nat} {r : Rl} (h : rs[k]? = some r) : rulesText (rs.take (k + 1)) = rulesText (rs.take k) ++ ruleText r := by
  rw [List.take_add_one, h]; simp [rulesText]

theorem ts_get {w : World} {A : Option Addr} {n c : Nat} {g : List Ts} (h : SlA w 4 A n c (tsR g)) {k : Nat} (hk : k < n) :
    ∃ b off x, A = some ⟨b, off, none⟩ ∧ b < w.heap.size ∧ g[k]? = some x ∧ (∀ (w' : World) (B : Nat), Below B w w' → b < B →
      w'.cell? ⟨b, off + k * 4, none⟩ = some (.int .i64 x.field) ∧ w'.cell? ⟨b, off + k * 4 + 1, none⟩ = some (.int .i64 x.mask) ∧ w'.cell? ⟨b, off + k * 4 + 2, none⟩ = some (.int .i64 x.op) ∧ w'.cell? ⟨b, off + k * 4 + 3, none⟩ = some (.int .i64 x.value)) := by
  have hl := h.len
  rw [tsR_len] at hl
  obtain ⟨b, o, e, hb, hc⟩ := h.get hk
  have hk' : k < g.length := by omega
  refine ⟨b, o, g[k], e, hb, List.getElem?_eq_getElem hk', fun w' B hw hB => ?_⟩
  have hr : (tsR g)[k]? = some g[k].cells := by simp [tsR, hk']
  exact ⟨cellAt hw hB (hc _ hr 0 _ rfl), cellAt hw hB (hc _ hr 1 _ rfl), cellAt hw hB (hc _ hr 2 _ rfl), cellAt hw hB (hc _ hr 3 _ rfl)⟩
theorem rules_get {w : World} {A : Option Addr} {n c : Nat} {rs : List Rl} {css : List (List Value)} (h : SlA w 4 A n c css) (hr : RulesAre w rs css) {k : Nat} (hk : k < n) :
    ∃ b off x tv, A = some ⟨b, off, none⟩ ∧ b < w.heap.size ∧ rs[k]? = some x ∧ Sl w 4 tv (tsR x.tests) ∧ (∀ (w' : World) (B : Nat), Below B w w' → b < B →
      w'.cell? ⟨b, off + k * 4, none⟩ = some (.int .i64 x.verdict) ∧ w'.cell? ⟨b, off + k * 4 + 1, none⟩ = some (.int .i64 x.low) ∧ w'.cell? ⟨b, off + k * 4 + 2, none⟩ = some (.int .i64 x.high) ∧ w'.cell? ⟨b, off + k * 4 + 3, none⟩ = some tv) := by
  have hl := h.len
  have hl2 := hr.1
  obtain ⟨b, o, e, hb, hc⟩ := h.get hk
  have h1 : rs[k]? = some rs[k] := List.getElem?_eq_getElem (by omega)
  have h2 : css[k]? = some css[k] := List.getElem?_eq_getElem (by omega)
  obtain ⟨tv, hcs, hs⟩ := hr.2 k _ _ h1 h2
  refine ⟨b, o, rs[k], tv, e, hb, h1, hs, fun w' B hw hB => ?_⟩
  rw [hcs] at h2
  exact ⟨cellAt hw hB (hc _ h2 0 _ rfl), cellAt hw hB (hc _ h2 1 _ rfl), cellAt hw hB (hc _ h2 2 _ rfl), cellAt hw hB (hc _ h2 3 _ rfl)⟩
end Go.Proofs.YtoibocaaeimplaaDoor
