/- The lines of a policy's text, cut by strings.Split; impl's cursor on the last line that counts. -/
import Derived.Test.YtdjgicapbpoigaaGreatDoorCurR
import Derived.Lib.SplitLaws
namespace Go.Proofs.YtdjgicapbpoigaaGreatDoor
open Go.RowKit
set_option linter.unusedSimpArgs false
set_option linter.unusedVariables false

def elseLine (e : Int) : List UInt8 := [101, 108, 115, 101, 32] ++ verdNm e
def linesOf (p : Pol) : List (List UInt8) := p.rules.map ruleLine ++ [elseLine p.els]
def joinE (ls : List (List UInt8)) : List UInt8 := (ls.map fun l => l ++ [10]).flatten
theorem polText_lines (p : Pol) : polText p = joinE (linesOf p) := by
 simp [polText, joinE, linesOf, rulesText, elseLine, List.map_map]
 congr 1
theorem index_line : ∀ {l t : List UInt8}, (10 : UInt8) ∉ l → Lib.index (l ++ 10 :: t) [10] = (l.length : Int)
 | [], t, _ => by simp [Lib.index]
 | b :: l, t, h => by
   have hb : b ≠ 10 := fun e => h (by simp [e])
   have ih := index_line (l := l) (t := t) (fun hm => h (by simp [hm]))
   rw [List.cons_append, Lib.index]
   rw [ih]
   have hp : ([10] : List UInt8).isPrefixOf (b :: (l ++ 10 :: t)) = false := by simp [List.isPrefixOf]; exact fun e => hb e.symm
   rw [hp]
   simp
   try omega
theorem splitK_lines : ∀ (ls : List (List UInt8)), (∀ l ∈ ls, (10 : UInt8) ∉ l) → Lib.splitK [10] 0 ls.length (joinE ls) = ls ++ [[]]
 | [], _ => rfl
 | l :: ls, h => by
   have e : joinE (l :: ls) = l ++ 10 :: joinE ls := by simp [joinE]
   rw [List.length_cons, Lib.splitK, e, index_line (h l (by simp))]
   rw [if_neg (by simp <;> omega)]
   simp only [Int.toNat_natCast, Nat.add_zero, List.take_left, List.cons_append]
   congr 1
   rw [show l.length + ([10] : List UInt8).length = l.length + 1 from rfl, List.drop_append, List.drop_of_length_le (by omega)]
   simp
   exact splitK_lines ls (fun l hl => h l (by simp [hl]))
theorem count_lines : ∀ (ls : List (List UInt8)), (∀ l ∈ ls, (10 : UInt8) ∉ l) → (joinE ls).count 10 = ls.length
 | [], _ => rfl
 | l :: ls, h => by
   have e : joinE (l :: ls) = l ++ 10 :: joinE ls := by simp [joinE]
   rw [e, List.count_append, List.count_cons_self, count_lines ls (fun l hl => h l (by simp [hl])), List.count_eq_zero.2 (h l (by simp))]
   simp
theorem bytes_of {L : List ByteArray} {M : List (List UInt8)} (h : L.map (·.data.toList) = M) : L = M.map fun l => ⟨l.toArray⟩ := by
 rw [← h, List.map_map]
 conv => lhs; rw [← List.map_id L]
 apply List.map_congr_left
 intro b _
 rfl
theorem split_lines {ls : List (List UInt8)} (h : ∀ l ∈ ls, (10 : UInt8) ∉ l) : Lib.countB ⟨(joinE ls).toArray⟩ ⟨#[10]⟩ = ls.length ∧ Lib.splitB ⟨#[10]⟩ 0 ls.length ⟨(joinE ls).toArray⟩ = (ls ++ [[]]).map (fun (l : List UInt8) => (⟨l.toArray⟩ : ByteArray)) := by
 constructor
 · show Lib.count (joinE ls) [10] = _
   rw [Lib.count_one, count_lines ls h]
 · apply bytes_of
   rw [Lib.splitB_data]
   exact splitK_lines ls h
theorem nl_itoa {n : Int} (h : 0 ≤ n) : (10 : UInt8) ∉ Lib.itoa n := fun hm => by
 have := itoa_digits n h 10 hm
 revert this
 decide
theorem nl_verd (v : Int) : (10 : UInt8) ∉ verdNm v := by
 unfold verdNm
 split
 · decide
 split
 · decide
 split
 · decide
 split
 · decide
 · simp
theorem nl_test {t : Ts} (h : testOkB t = true) : (10 : UInt8) ∉ testText t := by
 obtain ⟨⟨f1, f2⟩, ⟨m1, m2⟩, ⟨v1, v2⟩, ⟨o1, o2⟩⟩ := testOkB_words h
 unfold testText maskText
 simp only [List.mem_append, not_or]
 refine ⟨⟨⟨⟨by decide, nl_itoa (by omega)⟩, ?_⟩, ?_⟩, nl_itoa v1⟩
 · split
   · simp
   · simp only [List.mem_cons, not_or]
     exact ⟨by decide, nl_itoa (by omega)⟩
 · obtain h | h | h : t.op = 1 ∨ t.op = 2 ∨ t.op = 3 := by omega
   all_goals rw [h]; decide
theorem nl_rule {r : Rl} (h : ruleOkB r = true) : (10 : UInt8) ∉ ruleLine r := by
 obtain ⟨⟨v1, v2⟩, ⟨l1, l2⟩, hh, n4, hts⟩ := ruleOkB_words h
 unfold ruleLine headText highText testsText
 simp only [List.mem_append, not_or]
 refine ⟨⟨⟨⟨nl_verd _, by decide⟩, nl_itoa (by omega)⟩, ?_⟩, ?_⟩
 · split
   · simp
   · simp only [List.mem_cons, not_or]
     exact ⟨by decide, nl_itoa (by omega)⟩
 · intro hm
   obtain ⟨l, hl, hm⟩ := List.mem_flatten.1 hm
   obtain ⟨t, ht, rfl⟩ := List.mem_map.1 hl
   exact nl_test (hts t ht) hm
theorem nl_lines {p : Pol} (h : polShapeB p = true) : ∀ l ∈ linesOf p, (10 : UInt8) ∉ l := by
 intro l hl
 unfold linesOf at hl
 rcases List.mem_append.1 hl with hl | hl
 · obtain ⟨r, hr, rfl⟩ := List.mem_map.1 hl
   exact nl_rule ((polShapeB_words h).2.2 r hr)
 · simp at hl
   subst hl
   unfold elseLine
   rw [List.mem_append, not_or]
   exact ⟨by decide, nl_verd _⟩
theorem index_has : ∀ {l : List UInt8}, (10 : UInt8) ∈ l → 0 ≤ Lib.indexByte l 10
 | [], h => by simp at h
 | b :: l, h => by
   unfold Lib.indexByte
   split
   · omega
   · rename_i hb
     have := index_has (l := l) (by
       rcases List.mem_cons.1 h with e | e
       · exact absurd (beq_iff_eq.2 e.symm) hb
       · exact e)
     split
     · rename_i h2
       have := beq_iff_eq.1 h2
       omega
     · omega
theorem line_len {p : Pol} {r : Rl} (hr : r ∈ p.rules) : (ruleLine r).length ≤ (polText p).length := by
 obtain ⟨i, hi⟩ := List.mem_iff_getElem?.1 hr
 have h : (ruleText r).length ≤ (rulesText p.rules).length := by
   unfold rulesText
   have : ∀ (rs : List Rl), r ∈ rs → (ruleText r).length ≤ ((rs.map ruleText).flatten).length := by
     intro rs
     induction rs with
     | nil => intro h; cases h
     | cons a rs ih =>
       intro h
       rw [List.map_cons, List.flatten_cons, List.length_append]
       rcases List.mem_cons.1 h with rfl | h
       · omega
       · have := ih h; omega
   exact this _ hr
 rw [rule_line, List.length_append] at h
 unfold polText
 simp only [List.length_append]
 omega
set_option maxHeartbeats 1000000 in
theorem other_yes (g : Nat) (line els : Int) (w : World) (h : Blk w g TCur #[.string ⟨(elseLine els).toArray⟩, .int .i64 line]) (he : 1 ≤ els ∧ els ≤ 4) :
   Calls Tryz.prog 44 #[.pointer (some ⟨g, 0, none⟩)] w fun e w' => e = .returned (.int .i64 els) ∧ Cur w w' g line [] := by
 have C0 := Lib.hid (Cur.start h)
 have x0 := (show w.cell? ⟨g, 0, none⟩ = some (Value.string ⟨(elseLine els).toArray⟩) from h.cell 0); have z0 := h.frozen 0
 clear h
 go_enter Tryz.func44, Tryz.ntmps44
 go_wp2_with fail
 refine (skip_yes ⟨(elseLine els).toArray⟩ ⟨#[101, 108, 115, 101, 32]⟩ (verdNm els) g 0 w x0 z0 rfl).mono ?_; rintro e w1 ⟨rfl, rfl⟩
 have C1 := Lib.hid (C0.out.to (t' := verdNm els ++ []))
 rw [List.append_nil] at C1
 obtain ⟨W1, hW1⟩ : ∃ W, W = w.setCell ⟨g, 0, none⟩ (.string ⟨(verdNm els).toArray⟩) := ⟨_, rfl⟩
 rw [← hW1] at C1 ⊢
 clear hW1 x0 z0
 go_wp2_with fail
 refine (need_yes _ _).mono ?_; rintro e wn ⟨rfl, rfl⟩
 go_wp2_with fail
 refine (verdict_yes g line els [] W1 (by rw [List.append_nil]; exact C1.out.blk) he).mono ?_; rintro e w2 ⟨rfl, hc2⟩
 have C2 := Lib.hid (C1.out.trans hc2)
 have x2 := (show w2.cell? ⟨g, 0, none⟩ = some (Value.string ⟨#[]⟩) from hc2.blk.cell 0)
 clear hc2
 go_wp2_with fail
 refine (doneC_any ⟨#[]⟩ g 0 w2 x2).mono ?_; rintro e w3 ⟨rfl, rfl⟩
 go_wp2_with fail
 refine (need_yes _ _).mono ?_; rintro e wn ⟨rfl, rfl⟩
 go_wp2
 go_ret
 exact ⟨rfl, C2.out⟩
end Go.Proofs.YtdjgicapbpoigaaGreatDoor
