/- Programs as lists, when one is ok, and what it is written as: plain words, no Go function is walked here. -/
import Derived.Test.YtoibocaaeimplaaDoorCallS
namespace Go.Proofs.YtoibocaaeimplaaDoor
open Go.RowKit
set_option linter.unusedSimpArgs false
set_option linter.unusedVariables false

/-- A place of a program. -/
structure In4 where
  op : Int
  k : Int
  yes : Int
  no : Int
theorem In4.ext' {x y : In4} (h1 : x.op = y.op) (h2 : x.k = y.k) (h3 : x.yes = y.yes) (h4 : x.no = y.no) : x = y := by
  cases x; cases y; simp at h1 h2 h3 h4; simp [h1, h2, h3, h4]
def In4.cells (x : In4) : List Value := [.int .i64 x.op, .int .i64 x.k, .int .i64 x.yes, .int .i64 x.no]
def insR (g : List In4) : List (List Value) := g.map In4.cells
theorem insR_rows (g : List In4) : ∀ r ∈ insR g, r.length = 4 := by simp [insR, In4.cells]
theorem insR_len (g : List In4) : (insR g).length = g.length := by simp [insR]

theorem ins_get {w : World} {A : Option Addr} {n c : Nat} {g : List In4} (h : SlA w 4 A n c (insR g)) {k : Nat} (hk : k < n) :
    ∃ b off x, A = some ⟨b, off, none⟩ ∧ b < w.heap.size ∧ g[k]? = some x ∧ (∀ (w' : World) (B : Nat), Below B w w' → b < B →
      w'.cell? ⟨b, off + k * 4, none⟩ = some (.int .i64 x.op) ∧ w'.cell? ⟨b, off + k * 4 + 1, none⟩ = some (.int .i64 x.k) ∧ w'.cell? ⟨b, off + k * 4 + 2, none⟩ = some (.int .i64 x.yes) ∧ w'.cell? ⟨b, off + k * 4 + 3, none⟩ = some (.int .i64 x.no)) := by
  have hl := h.len
  rw [insR_len] at hl
  obtain ⟨b, o, e, hb, hc⟩ := h.get hk
  have hk' : k < g.length := by omega
  refine ⟨b, o, g[k], e, hb, List.getElem?_eq_getElem hk', fun w' B hw hB => ?_⟩
  have hr : (insR g)[k]? = some g[k].cells := by simp [insR, hk']
  exact ⟨cellAt hw hB (hc _ hr 0 _ rfl), cellAt hw hB (hc _ hr 1 _ rfl), cellAt hw hB (hc _ hr 2 _ rfl), cellAt hw hB (hc _ hr 3 _ rfl)⟩

theorem info_Ins : (Tryd.prog.info? 39).map (fun i => (i.zero, i.size, i.bytes)) = some (some (.agg #[.int .i64 0, .int .i64 0, .int .i64 0, .int .i64 0]), 4, 32) := by kernel_rfl

/-- When a place is ok behind which so many are left. -/
def insOk (x : In4) (left : Int) : Prop :=
  (x.op = 1 ∧ (0 ≤ x.k ∧ x.k ≤ 4) ∧ x.yes = 0 ∧ x.no = 0 ∧ 0 ≤ left) ∨
  (x.op = 2 ∧ (0 ≤ x.k ∧ x.k ≤ 4294967295) ∧ x.yes = 0 ∧ x.no = 0 ∧ 0 ≤ left) ∨
  ((x.op = 3 ∨ x.op = 4) ∧ (0 ≤ x.k ∧ x.k ≤ 4294967295) ∧ (0 ≤ x.yes ∧ x.yes ≤ 6) ∧ (0 ≤ x.no ∧ x.no ≤ 6) ∧ x.yes ≤ left ∧ x.no ≤ left) ∨
  (x.op = 5 ∧ (0 ≤ x.k ∧ x.k ≤ left) ∧ x.yes = 0 ∧ x.no = 0) ∨
  (x.op = 6 ∧ (1 ≤ x.k ∧ x.k ≤ 4) ∧ x.yes = 0 ∧ x.no = 0)
/-- When its numbers are ones that can be written. -/
def insWord (x : In4) : Prop :=
  (0 ≤ x.k ∧ x.k ≤ 4294967295) ∧ (((x.op = 3 ∨ x.op = 4) ∧ (0 ≤ x.yes ∧ x.yes ≤ 6) ∧ (0 ≤ x.no ∧ x.no ≤ 6)) ∨ ((x.op = 1 ∨ x.op = 2 ∨ x.op = 5 ∨ x.op = 6) ∧ x.yes = 0 ∧ x.no = 0))
theorem insOk.word {x : In4} {left : Int} (h : insOk x left) (hl : left ≤ 4294967295) : insWord x := by
  unfold insOk at h; unfold insWord; omega

/-- All ways lead to places that are there. -/
def waysTo (g : List In4) (k : Nat) : Prop := ∀ (i : Nat) (x : In4), i < k → g[i]? = some x → insOk x ((g.length : Int) - i - 2)
def waysOk (g : List In4) : Prop := 1 ≤ g.length ∧ g.length ≤ 160 ∧ waysTo g g.length
theorem waysTo_zero (g : List In4) : waysTo g 0 := fun _ _ h => absurd h (by omega)
theorem waysTo_succ {g : List In4} {k : Nat} {x : In4} (h : waysTo g k) (hx : g[k]? = some x) (ho : insOk x ((g.length : Int) - k - 2)) : waysTo g (k + 1) := fun i y hi hy => by
  by_cases e : i = k
  · subst e; rw [hx] at hy; cases hy; exact ho
  · exact h i y (by omega) hy

def opNm (op : Int) : List UInt8 :=
  if op = 1 then [108, 111, 97, 100] else if op = 2 then [97, 110, 100] else if op = 3 then [101, 113] else if op = 4 then [103, 116] else if op = 5 then [106, 117, 109, 112] else if op = 6 then [101, 110, 100] else []
def tailW (x : In4) : List UInt8 := if x.op = 3 ∨ x.op = 4 then 32 :: (Lib.itoa x.yes ++ 32 :: Lib.itoa x.no) else []
/-- What a place is written as, without its end of line. -/
def insLine (x : In4) : List UInt8 := opNm x.op ++ 32 :: (Lib.itoa x.k ++ tailW x)
def insText (x : In4) : List UInt8 := insLine x ++ [10]
def codeText (g : List In4) : List UInt8 := g.flatMap insText
theorem codeText_nil : codeText [] = [] := rfl
theorem codeText_cons (x : In4) (g : List In4) : codeText (x :: g) = insText x ++ codeText g := by simp [codeText]
theorem codeText_append (g h : List In4) : codeText (g ++ h) = codeText g ++ codeText h := by simp [codeText]
theorem codeText_snoc (g : List In4) (x : In4) : codeText (g ++ [x]) = codeText g ++ insText x := by simp [codeText]
theorem insText_pos (x : In4) : 0 < (insText x).length := by simp [insText]

/-- A program that is ok. -/
def codeOk (g : List In4) : Prop := waysOk g ∧ (codeText g).length ≤ 2600
noncomputable def codeOkB (g : List In4) : Bool := @decide (codeOk g) (Classical.propDecidable _)
theorem codeOkB_iff {g : List In4} : codeOkB g = true ↔ codeOk g := by simp [codeOkB]
theorem codeOkB_of {g : List In4} {b : Bool} (h : b = true ↔ codeOk g) : b = codeOkB g := by rw [Bool.eq_iff_iff, h, codeOkB_iff]
theorem codeOkB_no {g : List In4} (h : ¬ codeOk g) : codeOkB g = false := by rw [← Bool.not_eq_true, codeOkB_iff]; exact h
/-- What it is written as, ok or not. -/
noncomputable def codeOut (g : List In4) : List UInt8 := if codeOkB g then codeText g else []

theorem itoa_le10 {n : Int} (h : 0 ≤ n ∧ n ≤ 4294967295) : (Lib.itoa n).length ≤ 10 := by rw [itoa_val n h.1]; exact decDigits_le 9 _ (by omega)
theorem opNm_len (op : Int) : (opNm op).length ≤ 4 := by
  unfold opNm
  split
  · simp
  split
  · simp
  split
  · simp
  split
  · simp
  split
  · simp
  split <;> simp
theorem insText_len {x : In4} (h : insWord x) : (insText x).length ≤ 40 := by
  have h1 := itoa_le10 h.1
  have h2 := opNm_len x.op
  unfold insText insLine tailW
  split
  · have h3 := itoa_le10 (n := x.yes) (by unfold insWord at h; omega)
    have h4 := itoa_le10 (n := x.no) (by unfold insWord at h; omega)
    simp; omega
  · simp; omega
theorem codeText_len : ∀ (g : List In4), (∀ x ∈ g, insWord x) → (codeText g).length ≤ 40 * g.length
  | [], _ => by simp [codeText]
  | x :: g, h => by
    have ih := codeText_len g (fun y hy => h y (by simp [hy]))
    have hx := insText_len (h x (by simp))
    rw [codeText_cons]; simp; omega
theorem waysTo.words {g : List In4} {k : Nat} (h : waysTo g k) (hl : g.length ≤ 4294967295) : ∀ x ∈ g.take k, insWord x := fun x hx => by
  obtain ⟨i, hi, e⟩ := List.getElem_of_mem hx
  rw [List.length_take] at hi
  have e2 : g[i]? = some x := by rw [← e, List.getElem_take]; exact List.getElem?_eq_getElem (by omega)
  exact (h i x (by omega) e2).word (by omega)
theorem waysOk.words {g : List In4} (h : waysOk g) : ∀ x ∈ g, insWord x := fun x hx => h.2.2.words (by have := h.2.1; omega) x (by rwa [List.take_length])
theorem codeOk.out {g : List In4} (h : codeOk g) : codeOut g = codeText g := by unfold codeOut; rw [if_pos (codeOkB_iff.2 h)]
theorem codeOk.no {g : List In4} (h : ¬ codeOk g) : codeOut g = [] := by unfold codeOut; rw [if_neg (by rw [codeOkB_iff]; exact h)]
theorem codeText_ne {g : List In4} (h : g ≠ []) : codeText g ≠ [] := by
  cases g with
  | nil => exact absurd rfl h
  | cons x g => rw [codeText_cons]; intro e; have h0 := insText_pos x; have h1 := congrArg List.length e; rw [List.length_append, List.length_nil] at h1; omega
theorem codeOut_empty {g : List In4} : codeOut g = [] ↔ ¬ codeOk g := by
  constructor
  · intro e h
    rw [h.out] at e
    have h1 := h.1.1
    exact codeText_ne (by intro e2; subst e2; simp at h1) e
  · exact codeOk.no

/-- A place stands ahead in a text. -/
def PlaceAt (rest : List UInt8) (x : In4) (r : List UInt8) : Prop := insWord x ∧ rest = insText x ++ r

theorem noDig_cons {b : UInt8} {r : List UInt8} (h : isDig b = false) : noDig (b :: r) := fun x hx => by simp at hx; subst hx; exact h
theorem noDig_tailW (x : In4) (r : List UInt8) : noDig (tailW x ++ 10 :: r) := by
  unfold tailW
  split
  · exact noDig_cons (by decide)
  · exact noDig_cons (by decide)
theorem insText_split (x : In4) (r : List UInt8) : insText x ++ r = opNm x.op ++ 32 :: (Lib.itoa x.k ++ (tailW x ++ 10 :: r)) := by simp [insText, insLine]

theorem opNm_one {a b : Int} {s t : List UInt8} (ha : 1 ≤ a ∧ a ≤ 6) (hb : 1 ≤ b ∧ b ≤ 6) (h : opNm a ++ 32 :: s = opNm b ++ 32 :: t) : a = b ∧ s = t := by
  have ha' : a = 1 ∨ a = 2 ∨ a = 3 ∨ a = 4 ∨ a = 5 ∨ a = 6 := by omega
  have hb' : b = 1 ∨ b = 2 ∨ b = 3 ∨ b = 4 ∨ b = 5 ∨ b = 6 := by omega
  obtain rfl | rfl | rfl | rfl | rfl | rfl := ha' <;> obtain rfl | rfl | rfl | rfl | rfl | rfl := hb' <;> simp [opNm] at h <;> first | exact ⟨rfl, h⟩ | skip

theorem insWord.op {x : In4} (h : insWord x) : 1 ≤ x.op ∧ x.op ≤ 6 := by unfold insWord at h; omega

theorem PlaceAt.one {rest r r' : List UInt8} {x x' : In4} (h : PlaceAt rest x r) (h' : PlaceAt rest x' r') : x = x' ∧ r = r' := by
  obtain ⟨hw, e⟩ := h
  obtain ⟨hw', e'⟩ := h'
  rw [e, insText_split, insText_split] at e'
  obtain ⟨ho, e1⟩ := opNm_one hw.op hw'.op e'
  obtain ⟨hk, e2⟩ := NumAt.unique (⟨hw.1, rfl, noDig_tailW x r⟩ : NumAt 4294967295 _ x.k _) (⟨hw'.1, e1, noDig_tailW x' r'⟩ : NumAt 4294967295 _ x'.k _)
  unfold tailW at e2
  unfold insWord at hw hw'
  by_cases h34 : x.op = 3 ∨ x.op = 4
  · rw [if_pos h34, if_pos (ho ▸ h34)] at e2
    simp only [List.cons_append, List.append_assoc, List.cons.injEq, true_and] at e2
    obtain ⟨hy, e3⟩ := NumAt.unique (⟨by omega, rfl, noDig_cons (by decide)⟩ : NumAt 4294967295 (Lib.itoa x.yes ++ 32 :: (Lib.itoa x.no ++ 10 :: r)) x.yes _) (⟨by omega, e2, noDig_cons (by decide)⟩ : NumAt 4294967295 _ x'.yes (32 :: (Lib.itoa x'.no ++ 10 :: r')))
    simp only [List.cons.injEq, true_and] at e3
    obtain ⟨hn, e4⟩ := NumAt.unique (⟨by omega, rfl, noDig_cons (by decide)⟩ : NumAt 4294967295 (Lib.itoa x.no ++ 10 :: r) x.no _) (⟨by omega, e3, noDig_cons (by decide)⟩ : NumAt 4294967295 _ x'.no (10 :: r'))
    exact ⟨In4.ext' ho hk hy hn, by simpa using e4⟩
  · rw [if_neg h34, if_neg (ho ▸ h34)] at e2
    exact ⟨In4.ext' ho hk (by omega) (by omega), by simpa using e2⟩

/-- A program's text is read in one way. -/
theorem code_prefix : ∀ (ws ys : List In4) (rest : List UInt8), (∀ x ∈ ws, insWord x) → (∀ x ∈ ys, insWord x) → codeText ys = codeText ws ++ rest → ∃ tail, ys = ws ++ tail ∧ rest = codeText tail
  | [], ys, rest, _, _, h => ⟨ys, rfl, by simpa [codeText] using h.symm⟩
  | x :: ws, [], rest, _, _, h => by
    exfalso
    have := congrArg List.length h
    have hp := insText_pos x
    rw [codeText_cons] at this
    simp [codeText] at this
    omega
  | x :: ws, y :: ys, rest, h1, h2, h => by
    rw [codeText_cons, codeText_cons, List.append_assoc] at h
    obtain ⟨e1, e2⟩ := PlaceAt.one (⟨h2 y (by simp), rfl⟩ : PlaceAt (insText y ++ codeText ys) y _) (⟨h1 x (by simp), h⟩ : PlaceAt _ x _)
    subst e1
    obtain ⟨tail, e3, e4⟩ := code_prefix ws ys rest (fun z hz => h1 z (by simp [hz])) (fun z hz => h2 z (by simp [hz])) e2
    exact ⟨tail, by rw [e3]; rfl, e4⟩

/-- What is known of a text of which places were read. -/
structure ParsedC (text : List UInt8) (ws : List In4) (rest : List UInt8) : Prop where
  sound : text = codeText ws ++ rest
  words : ∀ x ∈ ws, insWord x
theorem ParsedC.start (text : List UInt8) : ParsedC text [] text := ⟨rfl, fun x h => by simp at h⟩
theorem ParsedC.next {text : List UInt8} {ws : List In4} {rest r : List UInt8} {x : In4} (h : ParsedC text ws rest) (hx : PlaceAt rest x r) : ParsedC text (ws ++ [x]) r :=
  ⟨by rw [codeText_snoc, h.sound, hx.2, List.append_assoc], fun y hy => by
    rcases List.mem_append.1 hy with h' | h'
    · exact h.words y h'
    · rw [List.mem_singleton] at h'; subst h'; exact hx.1⟩
theorem ParsedC.no_place {text : List UInt8} {ws : List In4} {rest : List UInt8} (h : ParsedC text ws rest) (hr : rest ≠ []) (hn : ¬ ∃ x r, PlaceAt rest x r) : ¬ ∃ ys, codeOk ys ∧ text = codeText ys := by
  rintro ⟨ys, hok, ht⟩
  obtain ⟨tail, e1, e2⟩ := code_prefix ws ys rest h.words hok.1.words (by rw [← ht]; exact h.sound)
  cases tail with
  | nil => exact hr e2
  | cons x tail => exact hn ⟨x, codeText tail, hok.1.words x (by rw [e1]; simp), by rw [e2, codeText_cons]⟩
theorem ParsedC.too_many {text : List UInt8} {ws : List In4} {rest : List UInt8} (h : ParsedC text ws rest) (hw : 160 < ws.length) : ¬ ∃ ys, codeOk ys ∧ text = codeText ys := by
  rintro ⟨ys, hok, ht⟩
  obtain ⟨tail, e1, e2⟩ := code_prefix ws ys rest h.words hok.1.words (by rw [← ht]; exact h.sound)
  have := hok.1.2.1
  rw [e1] at this
  simp at this
  omega
theorem ParsedC.end_no {text : List UInt8} {ws : List In4} (h : ParsedC text ws []) (hw : ¬ waysOk ws) : ¬ ∃ ys, codeOk ys ∧ text = codeText ys := by
  rintro ⟨ys, hok, ht⟩
  obtain ⟨tail, e1, e2⟩ := code_prefix ws ys [] h.words hok.1.words (by rw [← ht]; exact h.sound)
  cases tail with
  | nil => rw [List.append_nil] at e1; exact hw (e1 ▸ hok.1)
  | cons x tail => exact absurd e2.symm (codeText_ne (by simp))
theorem ParsedC.end_yes {text : List UInt8} {ws : List In4} (h : ParsedC text ws []) (hw : waysOk ws) (hl : text.length ≤ 2600) : codeOk ws ∧ text = codeText ws := by
  have e : text = codeText ws := by have := h.sound; simpa using this
  exact ⟨⟨hw, e ▸ hl⟩, e⟩
/-- One text, one program. -/
theorem code_one {g h : List In4} (hg : codeOk g) (hh : codeOk h) (e : codeText g = codeText h) : g = h := by
  obtain ⟨tail, e1, e2⟩ := code_prefix h g [] hh.1.words hg.1.words (by rw [e]; simp)
  cases tail with
  | nil => simpa using e1
  | cons x tail => exact absurd e2.symm (codeText_ne (by simp))

/-- How a line is read back. -/
def opOf (nm : List UInt8) : Int :=
  if nm = [108, 111, 97, 100] then 1 else if nm = [97, 110, 100] then 2 else if nm = [101, 113] then 3 else if nm = [103, 116] then 4 else if nm = [106, 117, 109, 112] then 5 else if nm = [101, 110, 100] then 6 else 0
def lineOf (l : List UInt8) : In4 :=
  ⟨opOf ((cut 32 l).getD 0 []), if 1 < (cut 32 l).length then numOf ((cut 32 l).getD 1 []) else 0, if (cut 32 l).length = 4 then numOf ((cut 32 l).getD 2 []) else 0, if (cut 32 l).length = 4 then numOf ((cut 32 l).getD 3 []) else 0⟩
theorem cut_word {b : UInt8} {a rest : List UInt8} (h : ∀ x ∈ a, x ≠ b) : cut b (a ++ b :: rest) = a :: cut b rest := by
  unfold cut; rw [cutGo_run a [] _ h, cutGo_hit]; simp
theorem cut_last {b : UInt8} {a : List UInt8} (h : ∀ x ∈ a, x ≠ b) : cut b a = [a] := by
  unfold cut
  have := cutGo_run a [] [] h
  rw [List.append_nil] at this
  rw [this]; simp [cutGo]
theorem opNm_no (op : Int) (b : UInt8) (hb : b.toNat < 97) : ∀ x ∈ opNm op, x ≠ b := by
  intro x hx e
  subst e
  unfold opNm at hx
  repeat' split at hx
  all_goals simp at hx
  all_goals (rcases hx with rfl | rfl | rfl | rfl <;> simp at hb) <;> skip
theorem opOf_nm {op : Int} (h : 1 ≤ op ∧ op ≤ 6) : opOf (opNm op) = op := by
  obtain rfl | rfl | rfl | rfl | rfl | rfl : op = 1 ∨ op = 2 ∨ op = 3 ∨ op = 4 ∨ op = 5 ∨ op = 6 := by omega
  all_goals decide
theorem lineOf_line {x : In4} (h : insWord x) : lineOf (insLine x) = x := by
  have hop := h.op
  have hk := itoa_no32 x.k h.1.1
  unfold insWord at h
  by_cases h34 : x.op = 3 ∨ x.op = 4
  · have hc : cut 32 (insLine x) = [opNm x.op, Lib.itoa x.k, Lib.itoa x.yes, Lib.itoa x.no] := by
      unfold insLine tailW
      rw [if_pos h34, cut_word (opNm_no x.op 32 (by decide)), cut_word hk, cut_word (itoa_no32 x.yes (by omega)), cut_last (itoa_no32 x.no (by omega))]
    unfold lineOf
    rw [hc]
    apply In4.ext'
    · simpa using opOf_nm hop
    · simpa using numOf_itoa x.k (by omega) (by omega)
    · simpa using numOf_itoa x.yes (by omega) (by omega)
    · simpa using numOf_itoa x.no (by omega) (by omega)
  · have hc : cut 32 (insLine x) = [opNm x.op, Lib.itoa x.k] := by
      unfold insLine tailW
      rw [if_neg h34, List.append_nil, cut_word (opNm_no x.op 32 (by decide)), cut_last hk]
    unfold lineOf
    rw [hc]
    apply In4.ext'
    · simpa using opOf_nm hop
    · simpa using numOf_itoa x.k (by omega) (by omega)
    · simp; omega
    · simp; omega
theorem digit_no10 {x : UInt8} (h : isDig x = true) : x ≠ 10 := fun e => by subst e; cases h
theorem insLine_no10 {x : In4} (h : insWord x) : ∀ b ∈ insLine x, b ≠ 10 := by
  have hd : ∀ n : Int, 0 ≤ n → ∀ b ∈ Lib.itoa n, b ≠ 10 := fun n hn b hb => digit_no10 (itoa_digits n hn b hb)
  unfold insWord at h
  intro b hb
  unfold insLine at hb
  rcases List.mem_append.1 hb with h1 | h1
  · exact opNm_no x.op 10 (by decide) b h1
  · rcases List.mem_cons.1 h1 with rfl | h1
    · decide
    · rcases List.mem_append.1 h1 with h1 | h1
      · exact hd _ (by omega) b h1
      · unfold tailW at h1
        split at h1
        · rcases List.mem_cons.1 h1 with rfl | h1
          · decide
          · rcases List.mem_append.1 h1 with h1 | h1
            · exact hd _ (by omega) b h1
            · rcases List.mem_cons.1 h1 with rfl | h1
              · decide
              · exact hd _ (by omega) b h1
        · simp at h1
theorem cut_code : ∀ (g : List In4), (∀ x ∈ g, insWord x) → cut 10 (codeText g) = g.map insLine ++ [[]]
  | [], _ => by simp [codeText, cut, cutGo]
  | x :: g, h => by
    have ih := cut_code g (fun y hy => h y (by simp [hy]))
    rw [codeText_cons, insText, List.append_assoc]
    show cut 10 (insLine x ++ 10 :: codeText g) = _
    rw [cut_word (insLine_no10 (h x (by simp))), ih]
    rfl
/-- What the pieces of a text are, each read as a line. -/
def codeOf (ps : List (List UInt8)) : List In4 := (ps.take (ps.length - 1)).map lineOf
theorem codeOf_text {g : List In4} (h : ∀ x ∈ g, insWord x) : codeOf (cut 10 (codeText g)) = g := by
  rw [cut_code g h]
  unfold codeOf
  have e : (g.map insLine ++ [[]]).take ((g.map insLine ++ [[]]).length - 1) = g.map insLine := by simp
  rw [e, List.map_map]
  have : ∀ x ∈ g, (lineOf ∘ insLine) x = x := fun x hx => lineOf_line (h x hx)
  exact (List.map_congr_left this).trans (by simp)

/-- What reading a program gives: the program whose text it is, in memory of its own, or none. -/
def CodePost (text : List UInt8) (e : TypeId) (w : World) (en : Ending) (w' : World) : Prop :=
  (∃ g v, codeOk g ∧ text = codeText g ∧ en = .returned (.tuple #[v, .bool true]) ∧ w'.ownsRow w.heap.size e 4 v g.length (insR g).flatten ∧ Below w.heap.size w w') ∨
  ((¬ ∃ g, codeOk g ∧ text = codeText g) ∧ ∃ v, en = .returned (.tuple #[v, .bool false]) ∧ w'.ownsRow w.heap.size e 4 v 0 [] ∧ Below w.heap.size w w')
theorem codeOf_step {ws : List (List UInt8)} {k : Nat} {l : List UInt8} (h : ws[k]? = some l) : insR ((ws.take (k + 1)).map lineOf) = insR ((ws.take k).map lineOf) ++ [(lineOf l).cells] := by
  rw [List.take_add_one, h]; simp [insR]
end Go.Proofs.YtoibocaaeimplaaDoor
