/- Joined texts: Str Dec Num PolP CallS CodeT. -/
import Derived.Test.YtdjgicapbpoigaaGreatDoorKit
import Derived.Lib.ItoaNum
import Derived.Lib.Strings
import Derived.Deep.DeepMust
import Derived.Deep.RegionWith
import Derived.IntWalk
import Derived.Lib.MinMax
import Derived.Deep.RegionLaw
namespace Go.Proofs.YtdjgicapbpoigaaGreatDoor
open Go.RowKit
set_option linter.unusedSimpArgs false
set_option linter.unusedVariables false

def cutGo (b : UInt8) (cur : List UInt8) : List UInt8 → List (List UInt8)
 | [] => [cur]
 | x :: l => if x = b then cur :: cutGo b [] l else cutGo b (cur ++ [x]) l
def cut (b : UInt8) (l : List UInt8) : List (List UInt8) := cutGo b [] l
theorem cutGo_hit (b : UInt8) (cur l : List UInt8) : cutGo b cur (b :: l) = cur :: cutGo b [] l := by simp [cutGo]
theorem cutGo_miss {b x : UInt8} (h : ¬ x = b) (cur l : List UInt8) : cutGo b cur (x :: l) = cutGo b (cur ++ [x]) l := by simp [cutGo, h]
theorem cutGo_len (b : UInt8) : ∀ (l cur : List UInt8), (cutGo b cur l).length ≤ l.length + 1
 | [], cur => by simp [cutGo]
 | x :: l, cur => by
   unfold cutGo
   split
   · simp; exact cutGo_len b l []
   · have := cutGo_len b l (cur ++ [x]); simp; omega
theorem cut_len (b : UInt8) (l : List UInt8) : (cut b l).length ≤ l.length + 1 := cutGo_len b l []
theorem cutGo_ne (b : UInt8) : ∀ (l cur : List UInt8), cutGo b cur l ≠ []
 | [], cur => by simp [cutGo]
 | x :: l, cur => by
   unfold cutGo
   split
   · simp
   · exact cutGo_ne b l _
theorem cut_ne (b : UInt8) (l : List UInt8) : cut b l ≠ [] := cutGo_ne b l []

def strs (ls : List (List UInt8)) : List (List Value) := ls.map fun l => [.string ⟨l.toArray⟩]
theorem strs_rows (ls : List (List UInt8)) : ∀ r ∈ strs ls, r.length = 1 := by simp [strs]
theorem strs_len (ls : List (List UInt8)) : (strs ls).length = ls.length := by simp [strs]
theorem info_string : (Tryz.prog.info? 9).map (fun i => (i.zero, i.size, i.bytes)) = some (some (.string ByteArray.empty), 1, 16) := by kernel_rfl

theorem byteEq {a b : UInt8} : ((a.toNat : Int) == (b.toNat : Int)) = decide (a = b) := by
 rw [Bool.eq_iff_iff]
 simp only [beq_iff_eq, decide_eq_true_eq]
 exact ⟨fun h => UInt8.toNat_inj.1 (by omega), fun h => by rw [h]⟩
theorem drop_cons {l : List UInt8} {k : Nat} (h : k < l.length) : l.drop k = l[k] :: l.drop (k + 1) := List.drop_eq_getElem_cons h
theorem take_more {l : List UInt8} {f k : Nat} (hf : f ≤ k) (h : k < l.length) : (l.drop f).take (k + 1 - f) = (l.drop f).take (k - f) ++ [l[k]] := by
 rw [show k + 1 - f = (k - f) + 1 by omega, List.take_succ_eq_append_getElem (by simp; omega)]
 congr 2
 simp [show f + (k - f) = k by omega]

set_option maxHeartbeats 1000000 in
theorem l2Cut_any (s : ByteArray) (b : UInt8) (w : World) (hs : s.size ≤ 16777216) :
   Calls Tryz.prog 24 #[.string s, .int .u8 b.toNat] w fun e w' => ∃ v, e = .returned v ∧ w'.ownsRow w.heap.size 9 1 v (cut b s.data.toList).length (strs (cut b s.data.toList)).flatten ∧ Below w.heap.size w w' := by
 obtain ⟨i0, hi0, hz0, hz1, hz2⟩ := info_parts info_string
 have hlen : s.data.toList.length = s.size := by simp
 have HLEN := Lib.hid hlen; clear hlen
 go_enter Tryz.func24, Tryz.ntmps24
 go_wp2
 go_loopw [5, 6, 7] (fun o f i wr => ∃ (k fr : Nat) (P : List (List UInt8)), fr ≤ k ∧ k ≤ s.size ∧ P.length ≤ k ∧ i = .int .i64 k ∧ f = .int .i64 fr ∧ wr.ownsRow w.heap.size 9 1 o P.length (strs P).flatten ∧
     Hid (cut b s.data.toList = P ++ cutGo b ((s.data.toList.drop fr).take (k - fr)) (s.data.toList.drop k)) ∧ Below w.heap.size w wr) (fun _ _ i _ => s.size - (intOf i).toNat)
 case atStart =>
   refine ⟨0, 0, [], Nat.le_refl _, Nat.zero_le _, Nat.le_refl _, rfl, rfl, ?_, by simp [Hid, cut], by go_grown⟩
   exact World.ownsRow_made w #[] 0 (Nat.le_refl _) (Nat.zero_le _) rfl
 case round =>
   obtain ⟨k, fr, P, hfk, hk, hpl, rfl, rfl, hown, hcut, hb⟩ := hrel
   have hsz := hb.size
   by_cases hlt : k < s.size
   · have hd0 : s.data.toList.drop k = s[k] :: s.data.toList.drop (k + 1) := drop_cons (by rw [HLEN.out]; exact hlt)
     have HD := Lib.hid hd0; clear hd0
     by_cases hx : s[k] = b
     · have hd : ((s[k].toNat : Int) == (b.toNat : Int)) = true := by rw [byteEq]; simp [hx]
       have HX := Lib.hid hx; clear hx
       go_wp2_with (at_builtin; go_must (refine wpList_app1 (w0 := wr) rfl (.tmp 20) (.tmp 25) _ rfl w.heap.size 9 Tryz.underlying54 info_string rfl (by omega) (by omega) _ P.length (strs P) rfl hown rfl (by simp [Value.oneCell']) rfl (by omega) hsz ?_); intro v1 w1 hown1 hb1 _)
       refine ⟨⟨k + 1, k + 1, P ++ [(s.data.toList.drop fr).take (k - fr)], Nat.le_refl _, by omega, by simp; omega, by go_num, by go_num, ?_, ?_, hb.trans hb1⟩, by simp [intOf]; omega⟩
       · rw [Lib.extract_eq] at hown1
         simpa [strs] using hown1
       · refine hcut.out.trans ?_
         rw [HD.out, HX.out, cutGo_hit]
         simp
     · have hd : ((s[k].toNat : Int) == (b.toNat : Int)) = false := by rw [byteEq]; simp [hx]
       go_wp2
       refine ⟨⟨k + 1, fr, P, by omega, by omega, by omega, by go_num, rfl, hown, ?_, hb⟩, by simp [intOf]; omega⟩
       refine hcut.out.trans ?_
       rw [HD.out, cutGo_miss hx, take_more hfk (by rw [HLEN.out]; exact hlt)]
       rfl
   · obtain rfl : k = s.size := by omega
     go_wp2_with (at_builtin; go_must (refine wpList_app1 (w0 := wr) rfl (.tmp 29) (.tmp 33) _ rfl w.heap.size 9 Tryz.underlying54 info_string rfl (by omega) (by omega) _ P.length (strs P) rfl hown rfl (by simp [Value.oneCell']) rfl (by omega) hsz ?_); intro v1 w1 hown1 hb1 _)
     go_ret
     have hc : cut b s.data.toList = P ++ [(s.data.toList.drop fr).take (s.size - fr)] := by
       refine hcut.out.trans ?_
       have hn : s.data.toList.drop s.size = [] := List.drop_eq_nil_of_le (by rw [HLEN.out]; omega)
       rw [hn]
       rfl
     refine ⟨_, rfl, ?_, hb.trans hb1⟩
     rw [Lib.extract_eq] at hown1
     rw [hc]
     simpa [strs] using hown1

def isDig (x : UInt8) : Bool := 48 ≤ x && x ≤ 57
def valOn (v : Int) : List UInt8 → Int
 | [] => v
 | x :: l => valOn (v * 10 + ((x.toNat : Int) - 48)) l
theorem valOn_snoc : ∀ (l : List UInt8) (v : Int) (x : UInt8), valOn v (l ++ [x]) = valOn v l * 10 + ((x.toNat : Int) - 48)
 | [], v, x => rfl
 | y :: l, v, x => valOn_snoc l _ x
theorem isDig_iff {x : UInt8} : isDig x = true ↔ 48 ≤ x.toNat ∧ x.toNat ≤ 57 := by
 simp [isDig, UInt8.le_iff_toNat_le]
theorem valOn_bd : ∀ (l : List UInt8) (v : Int), 0 ≤ v → (∀ x ∈ l, isDig x = true) → v ≤ valOn v l ∧ valOn v l < (v + 1) * 10 ^ l.length
 | [], v, _, _ => by simp [valOn]; omega
 | x :: l, v, h0, h => by
   have hx := isDig_iff.1 (h x (by simp))
   have ih := valOn_bd l (v * 10 + ((x.toNat : Int) - 48)) (by omega) (fun y hy => h y (by simp [hy]))
   simp only [valOn, List.length_cons, Int.pow_succ]
   have hp : (0 : Int) < 10 ^ l.length := Int.pow_pos (by omega)
   have h2 : (v * 10 + ((x.toNat : Int) - 48) + 1) * 10 ^ l.length ≤ ((v + 1) * 10) * 10 ^ l.length := Int.mul_le_mul_of_nonneg_right (by omega) (by omega)
   refine ⟨by omega, ?_⟩
   rw [show (v + 1) * ((10 : Int) ^ l.length * 10) = ((v + 1) * 10) * 10 ^ l.length by rw [Int.mul_comm (10 ^ l.length) 10, Int.mul_assoc]]
   omega

def numOf (l : List UInt8) : Int :=
 if l.length = 0 ∨ 10 < l.length ∨ (1 < l.length ∧ l[0]? = some 48) then -1
 else if l.all isDig then (if valOn 0 l ≤ 4294967295 then valOn 0 l else -1) else -1

theorem numOf_no1 {l : List UInt8} (h : ¬ (1 ≤ l.length ∧ l.length ≤ 10)) : numOf l = -1 := by unfold numOf; rw [if_pos (by omega)]
theorem numOf_no2 {l : List UInt8} (h : 1 < l.length ∧ l[0]? = some 48) : numOf l = -1 := by unfold numOf; rw [if_pos (by right; right; exact h)]
theorem numOf_no3 {l : List UInt8} {x : UInt8} (hx : x ∈ l) (h : isDig x = false) : numOf l = -1 := by
 unfold numOf
 split
 · rfl
 · rw [if_neg]
   intro ha
   have := List.all_eq_true.1 ha x hx
   rw [h] at this; cases this
theorem numOf_yes {l : List UInt8} (h1 : 1 ≤ l.length ∧ l.length ≤ 10) (h2 : ¬ (1 < l.length ∧ l[0]? = some 48)) (h3 : ∀ x ∈ l, isDig x = true) : numOf l = if valOn 0 l ≤ 4294967295 then valOn 0 l else -1 := by
 unfold numOf
 rw [if_neg (by intro h; rcases h with h | h | h <;> first | omega | exact h2 h), if_pos (List.all_eq_true.2 h3)]

theorem l2Num_any (s : ByteArray) (w : World) :
   Calls Tryz.prog 50 #[.string s] w fun e w' => e = .returned (.int .i64 (numOf s.data.toList)) ∧ w = w' := by
 have hlen : s.data.toList.length = s.size := by simp
 by_cases h1 : 1 ≤ s.size ∧ s.size ≤ 10
 · have hi : inB (s.size : Int) 1 10 = true := inB_iff.2 (by omega)
   obtain ⟨h1, h1'⟩ := h1
   by_cases h2 : 1 < s.size ∧ s[0] = 48
   · have hn := numOf_no2 (l := s.data.toList) ⟨by omega, by
       have : s.data.toList[0]? = some s[0] := by rw [List.getElem?_eq_getElem (by omega)]; rfl
       rw [this, h2.2]⟩
     have h3 : ((s[0].toNat : Int) == 48) = true := by rw [h2.2]; rfl
     have h4 := h2.1
     have HN := Lib.hid hn; clear hn h2 hlen
     go_enter Tryz.func50, Tryz.ntmps50
     go_wp2_with (go_at_call 14; refine (l1In_any _ _ _ _).mono ?_; rintro e w' ⟨rfl, rfl⟩)
     go_ret
     exact ⟨ret_int HN.out.symm, rfl⟩
   · have hz : s.data.toList[0]? = some s[0] := by rw [List.getElem?_eq_getElem (by omega)]; rfl
     have hg : ∀ (v : Int), (∀ x ∈ s.data.toList, isDig x = true) → valOn 0 s.data.toList = v → numOf s.data.toList = if v ≤ 4294967295 then v else -1 := fun v hv e => by
       rw [← e]; exact numOf_yes (by omega) (by rw [hlen, hz]; simpa using h2) hv
     have HG := Lib.hid hg; have HLEN := Lib.hid hlen; clear hg hlen hz
     have h5 : (1 < s.size ∧ ((s[0].toNat : Int) == 48) = false) ∨ ¬ 1 < s.size := by
       by_cases h4 : 1 < s.size
       · refine .inl ⟨h4, ?_⟩
         have : ¬ s[0] = 48 := fun e => h2 ⟨h4, e⟩
         simp only [beq_eq_false_iff_ne]
         intro e; apply this; apply UInt8.toNat_inj.1; show s[0].toNat = 48; omega
       · exact .inr h4
     clear h2
     rcases h5 with ⟨h4, h3⟩ | h4
     all_goals
       go_enter Tryz.func50, Tryz.ntmps50
       go_wp2_with (go_at_call 14; refine (l1In_any _ _ _ _).mono ?_; rintro e w' ⟨rfl, rfl⟩)
       go_loop [3, 4] (fun v i => ∃ k : Nat, k ≤ s.size ∧ i = .int .i64 k ∧ v = .int .i64 (valOn 0 (s.data.toList.take k)) ∧ Hid (∀ x ∈ s.data.toList.take k, isDig x = true)) (fun _ i => s.size - (intOf i).toNat)
       case atStart => exact ⟨0, Nat.zero_le _, rfl, rfl, by simp [Hid]⟩
       case round =>
         obtain ⟨k, hk, rfl, rfl, hd⟩ := hrel
         have hbd := valOn_bd (s.data.toList.take k) 0 (by omega) hd.out
         have hlk : (s.data.toList.take k).length = k := by rw [List.length_take, HLEN.out]; omega
         rw [hlk] at hbd
         obtain ⟨b0, b1⟩ := hbd
         by_cases hlt : k < s.size
         · have hp : (10 : Int) ^ k ≤ 10 ^ 9 := by exact_mod_cast Nat.pow_le_pow_right (n := 10) (by omega) (show k ≤ 9 by omega)
           have b2 : valOn 0 (s.data.toList.take k) ≤ 999999999 := by have : (10 : Int) ^ 9 = 1000000000 := rfl; omega
           have ht : s.data.toList.take (k + 1) = s.data.toList.take k ++ [s[k]] := by
             rw [List.take_succ_eq_append_getElem (by rw [HLEN.out]; exact hlt)]; rfl
           have hmem : s[k] ∈ s.data.toList := by
             have : s[k] = s.data.toList[k]'(by rw [HLEN.out]; exact hlt) := rfl
             rw [this]; exact List.getElem_mem _
           have HT := Lib.hid ht; have HM := Lib.hid hmem; clear ht hmem b1 hp hlk
           by_cases hdig : isDig s[k] = true
           · have hx := isDig_iff.1 hdig
             obtain ⟨x1, x2⟩ := hx
             have x3 : (48 : Int) ≤ s[k].toNat := by omega
             have x4 : (s[k].toNat : Int) ≤ 57 := by omega
             have HX := Lib.hid hdig; clear hdig
             go_wp2
             go_round
             case rel =>
               refine ⟨k + 1, by omega, by go_num, ?_, ?_⟩
               · rw [HT.out, valOn_snoc]
               · intro x hx
                 rw [HT.out] at hx
                 rcases List.mem_append.1 hx with h | h
                 · exact hd.out x h
                 · have : x = s[k] := by simpa using h
                   rw [this]; exact HX.out
             case measure => simp [intOf]; omega
           · have hn : numOf s.data.toList = -1 := numOf_no3 HM.out (by simpa using hdig)
             have HN := Lib.hid hn; clear hn
             have hx : ¬ (48 ≤ s[k].toNat ∧ s[k].toNat ≤ 57) := fun h => hdig (isDig_iff.2 h)
             have HX := Lib.hid hdig; clear hdig
             by_cases x1 : (s[k].toNat : Int) < 48
             · clear hx
               go_wp2
               go_ret
               exact ⟨ret_int HN.out.symm, rfl⟩
             · have x2 : (57 : Int) < s[k].toNat := by omega
               clear hx
               go_wp2
               go_ret
               exact ⟨ret_int HN.out.symm, rfl⟩
         · obtain rfl : k = s.size := by omega
           have hall : s.data.toList.take s.size = s.data.toList := by rw [← HLEN.out]; exact List.take_length
           have he := HG.out (valOn 0 (s.data.toList.take s.size)) (by rw [← hall]; exact hd.out) (by rw [hall])
           have HE := Lib.hid he; clear he hall b1 hlk
           by_cases hbig : valOn 0 (s.data.toList.take s.size) ≤ 4294967295
           · go_wp2
             go_ret
             exact ⟨ret_int (by rw [HE.out, if_pos hbig]), rfl⟩
           · go_wp2
             go_ret
             exact ⟨ret_int (by rw [HE.out, if_neg (by omega)]), rfl⟩
 · have hi : inB (s.size : Int) 1 10 = false := inB_not.2 (by omega)
   have hn := numOf_no1 (l := s.data.toList) (by omega)
   have HN := Lib.hid hn; clear hn hlen h1
   go_enter Tryz.func50, Tryz.ntmps50
   go_wp2_with (go_at_call 14; refine (l1In_any _ _ _ _).mono ?_; rintro e w' ⟨rfl, rfl⟩)
   go_ret
   exact ⟨ret_int HN.out.symm, rfl⟩
end Go.Proofs.YtdjgicapbpoigaaGreatDoor

namespace Go.Proofs.YtdjgicapbpoigaaGreatDoor
open Go.RowKit
set_option linter.unusedSimpArgs false
set_option linter.unusedVariables false

theorem decDigits_small {u : Nat} (h : u < 10) : Lib.decDigits u = [UInt8.ofNat (48 + u)] := Lib.decDigits_one h
theorem decDigits_big {u : Nat} (h : ¬ u < 10) : Lib.decDigits u = Lib.decDigits (u / 10) ++ [UInt8.ofNat (48 + u % 10)] := by
 rw [Lib.decDigits, dif_neg h]

theorem decDigits_le : ∀ (k u : Nat), u < 10 ^ (k + 1) → (Lib.decDigits u).length ≤ k + 1
 | 0, u, h => by rw [decDigits_small (by simpa using h)]; simp
 | k + 1, u, h => by
   by_cases hs : u < 10
   · rw [decDigits_small hs]; simp
   · rw [decDigits_big hs]
     rw [Nat.pow_succ] at h
     have := decDigits_le k (u / 10) (by omega)
     simp; omega
theorem decDigits_le19 (u : Nat) (h : u ≤ 9223372036854775807) : (Lib.decDigits u).length ≤ 19 := decDigits_le 18 u (by omega)
theorem ba_append (a b : List UInt8) : (⟨a.toArray⟩ ++ ⟨b.toArray⟩ : ByteArray) = ⟨(a ++ b).toArray⟩ := by
 apply ByteArray.ext
 simp

theorem run_conv1 {P : Program} {src dst e t : TypeId} (hs : P.underlying src = some (.slice e)) (he : P.underlying e = some (.int .u8)) (hd : P.underlying dst = some .string) (W : World) (x : Int) :
   (convert src dst (.slice (some ⟨W.heap.size, 0, none⟩) 1 1)).run P (W.alloc (.cells #[.int .u8 x] t)) = .ok (.string ⟨#[UInt8.ofNat x.toNat]⟩) (W.alloc (.cells #[.int .u8 x] t)) := by
 have hc : (loadCells ⟨W.heap.size, 0, none⟩ 1).run P (W.alloc (.cells #[.int .u8 x] t)) = .ok ([x].map (Value.int .u8)).toArray (W.alloc (.cells #[.int .u8 x] t)) :=
   run_loadCells_list (P := P) _ ⟨W.heap.size, 0, none⟩ [.int .u8 x] (fun j v hv => by
     rw [add_at, cell_of_row _ _ _ #[.int .u8 x] t (0, 0) (heap_alloc_new W _)]
     simpa using hv)
 rw [run_convert_bytes_string _ _ _ _ _ _ _ hs he hd, run_bytesToString _ _ _ _ [x] hc]
 rfl

theorem run_conv1' {P : Program} {src dst e : TypeId} (hs : P.underlying src = some (.slice e)) (he : P.underlying e = some (.int .u8)) (hd : P.underlying dst = some .string) (W : World) (g : Nat) (x : Int) (c : Nat) (h : W.cell? ⟨g, 0, none⟩ = some (.int .u8 x)) :
   (convert src dst (.slice (some ⟨g, 0, none⟩) 1 c)).run P W = .ok (.string ⟨#[UInt8.ofNat x.toNat]⟩) W := by
 have hc : (loadCells ⟨g, 0, none⟩ 1).run P W = .ok ([x].map (Value.int .u8)).toArray W :=
   run_loadCells_list (P := P) _ ⟨g, 0, none⟩ [.int .u8 x] (fun j v hv => by
     cases j with
     | zero => rw [add_zero']; simp at hv; subst hv; exact h
     | succ j => simp at hv)
 rw [run_convert_bytes_string _ _ _ _ _ _ _ hs he hd, run_bytesToString _ _ _ _ [x] hc]
 rfl

set_option maxHeartbeats 1000000 in
theorem l1Dec_nat (u : Nat) : ∀ (w : World), u ≤ 9223372036854775807 →
   Calls Tryz.prog 56 #[.int .i64 u] w fun e w' => e = .returned (.string ⟨(Lib.decDigits u).toArray⟩) ∧ Below w.heap.size w w' := by
 induction u using Nat.strongRecOn with
 | _ u ih =>
   intro w hu
   have IH := Lib.hid ih; clear ih
   have hconv := fun W x => run_conv1 (P := Tryz.prog) (t := 5) Tryz.underlying163 Tryz.underlying5 Tryz.underlying9 W x
   by_cases h : u < 10
   · go_enter Tryz.func56, Tryz.ntmps56
     go_wp2
     go_ret
     refine ⟨?_, by go_grown⟩
     rw [decDigits_small h]
     rfl
   · have hq : u / 10 ≤ 9223372036854775807 := by omega
     have hcast : (u : Int) / 10 = ((u / 10 : Nat) : Int) := by omega
     have HC := Lib.hid hcast; clear hcast
     have hdl := decDigits_le19 (u / 10) hq
     have e1 : IntKind.i64.wrap ((u : Int) / 10) = (u : Int) / 10 := IntWalk.i64_in _ (by omega)
     have e2 : (u : Int).tmod 10 = (u : Int) % 10 := Int.tmod_eq_emod_of_nonneg (by omega)
     have e3 : IntKind.i64.wrap (48 + (u : Int) % 10) = 48 + (u : Int) % 10 := IntWalk.i64_in _ (by omega)
     have e4 : IntKind.u8.wrap (48 + (u : Int) % 10) = 48 + (u : Int) % 10 := IntWalk.u8_in _ (by omega)
     have hcv := fun W g x h => run_conv1' (P := Tryz.prog) Tryz.underlying163 Tryz.underlying5 Tryz.underlying9 W g x 1 h
     go_enter Tryz.func56, Tryz.ntmps56
     go_wp2
     go_region_with (first
       | (go_at_call 56; rw [HC.out]; ((with_reducible refine (IH.out (u / 10) (by omega) ((w.alloc (.cells #[.int .u8 (48 + (u : Int) % 10)] 5)).drew) hq).mono ?_); rintro e w1 ⟨rfl, hb1⟩; have hk : w1.cell? ⟨w.heap.size, 0, none⟩ = some (.int .u8 (48 + (u : Int) % 10)) := (hb1.cell (p := ⟨w.heap.size, 0, none⟩) (by simp)).trans (by simp [go_sem])))
       | (go_at_call 56; rw [HC.out]; refine (IH.out (u / 10) (by omega) _ hq).mono ?_; rintro e w1 ⟨rfl, hb1⟩))
     all_goals go_wp2
     all_goals go_ret
     all_goals
       have hb2 : Below w.heap.size w w1 := below_step (by go_grown) (by go_size) hb1
       have hs2 := hb2.size
       refine ⟨?_, by go_grown⟩
       rw [decDigits_big h, ← ba_append]
       simp [Act.put]

theorem itoa_nat (u : Nat) : Lib.itoa (u : Int) = Lib.decDigits u := by unfold Lib.itoa; rw [if_neg (by omega)]; simp
theorem itoa_neg' (u : Nat) (h : 0 < u) : Lib.itoa (-(u : Int)) = 45 :: Lib.decDigits u := by unfold Lib.itoa; rw [if_pos (by omega)]; simp
theorem decMin : ([45, 57, 50, 50, 51, 51, 55, 50, 48, 51, 54, 56, 53, 52, 55, 55, 53, 56, 48, 56] : List UInt8) = 45 :: Lib.decDigits 9223372036854775808 := by
 simp [decDigits_big, decDigits_small]

set_option maxHeartbeats 1000000 in
theorem l1Dec_any (n : Int) (w : World) (h0 : -9223372036854775808 ≤ n) (h1 : n ≤ 9223372036854775807) :
   Calls Tryz.prog 56 #[.int .i64 n] w fun e w' => e = .returned (.string ⟨(Lib.itoa n).toArray⟩) ∧ Below w.heap.size w w' := by
 by_cases hp : 0 ≤ n
 · obtain ⟨u, rfl⟩ := Int.eq_ofNat_of_zero_le hp
   rw [itoa_nat]
   exact l1Dec_nat u w (by omega)
 · by_cases hm : n = -9223372036854775808
   · subst hm
     go_enter Tryz.func56, Tryz.ntmps56
     go_wp2
     go_ret
     refine ⟨?_, Below.refl _ _⟩
     have e := itoa_neg' 9223372036854775808 (by omega)
     rw [show (-9223372036854775808 : Int) = -((9223372036854775808 : Nat) : Int) from rfl, e, ← decMin]
     rfl
   · obtain ⟨u, hu⟩ := Int.eq_ofNat_of_zero_le (show 0 ≤ -n by omega)
     obtain rfl : n = -(u : Int) := by omega
     have hu1 : u ≤ 9223372036854775807 := by omega
     have hu0 : 0 < u := by omega
     have hdl := decDigits_le19 u hu1
     have hd := l1Dec_nat u
     have HD := Lib.hid hd; clear hd hu hm
     have hm1 : -9223372036854775807 ≤ -(u : Int) := by omega
     go_enter Tryz.func56, Tryz.ntmps56
     go_wp2_with (go_at_call 56; refine (HD.out _ hu1).mono ?_; rintro e w1 ⟨rfl, hb1⟩)
     go_ret
     refine ⟨?_, hb1⟩
     rw [itoa_neg' u hu0]
     rfl
end Go.Proofs.YtdjgicapbpoigaaGreatDoor

namespace Go.Proofs.YtdjgicapbpoigaaGreatDoor
open Go.RowKit
set_option linter.unusedSimpArgs false
set_option linter.unusedVariables false

theorem ofNat_dig {d : Nat} (h : d < 10) : (UInt8.ofNat (48 + d)).toNat = 48 + d := by
 have e : (UInt8.ofNat (48 + d)).toNat = (48 + d) % 256 := rfl
 rw [e]; omega
theorem isDig_ofNat {d : Nat} (h : d < 10) : isDig (UInt8.ofNat (48 + d)) = true := isDig_iff.2 (by rw [ofNat_dig h]; omega)
theorem dec_digits (u : Nat) : ∀ x ∈ Lib.decDigits u, isDig x = true := by
 induction u using Nat.strongRecOn with
 | _ u ih =>
   intro x hx
   by_cases h : u < 10
   · rw [decDigits_small h] at hx
     rw [List.mem_singleton] at hx; subst hx; exact isDig_ofNat h
   · rw [decDigits_big h] at hx
     rcases List.mem_append.1 hx with h1 | h1
     · exact ih _ (by omega) x h1
     · rw [List.mem_singleton] at h1; subst h1; exact isDig_ofNat (Nat.mod_lt _ (by omega))
theorem dec_val (u : Nat) : valOn 0 (Lib.decDigits u) = u := by
 induction u using Nat.strongRecOn with
 | _ u ih =>
   by_cases h : u < 10
   · rw [decDigits_small h]; simp only [valOn]; rw [ofNat_dig h]; omega
   · rw [decDigits_big h, valOn_snoc, ih _ (by omega), ofNat_dig (Nat.mod_lt _ (by omega))]; omega
theorem dec_ne (u : Nat) : Lib.decDigits u ≠ [] := by
 by_cases h : u < 10
 · rw [decDigits_small h]; simp
 · rw [decDigits_big h]; simp
theorem dec_head (u : Nat) (h : 0 < u) : (Lib.decDigits u)[0]? ≠ some 48 := by
 induction u using Nat.strongRecOn with
 | _ u ih =>
   by_cases hs : u < 10
   · rw [decDigits_small hs]
     intro e
     have := congrArg UInt8.toNat (Option.some.inj e)
     rw [ofNat_dig hs] at this
     have h2 : (48 : UInt8).toNat = 48 := rfl
     omega
   · rw [decDigits_big hs, List.getElem?_append_left (List.length_pos_iff.2 (dec_ne _))]
     exact ih _ (by omega) (by omega)

theorem dec_of_digits (l : List UInt8) (h0 : l ≠ []) (hd : ∀ x ∈ l, isDig x = true) (hz : 1 < l.length → l[0]? ≠ some 48) : Lib.decDigits (valOn 0 l).toNat = l := by
 induction hn : l.length using Nat.strongRecOn generalizing l with
 | _ n ih =>
   rcases List.eq_nil_or_concat l with h | ⟨l', x, h⟩
   · exact absurd h h0
   · rw [List.concat_eq_append] at h
     have hx := isDig_iff.1 (hd x (by rw [h]; simp))
     have hxe : UInt8.ofNat (48 + (x.toNat - 48)) = x := by
       apply UInt8.toNat_inj.1
       rw [ofNat_dig (by omega)]; omega
     by_cases hl : l' = []
     · subst hl
       subst h
       simp only [List.nil_append, valOn]
       rw [decDigits_small (by omega), show (0 * 10 + ((x.toNat : Int) - 48)).toNat = x.toNat - 48 by omega, hxe]
     · have hd' : ∀ y ∈ l', isDig y = true := fun y hy => hd y (by rw [h]; simp [hy])
       have hlen : l'.length < l.length := by rw [h]; simp
       have hz0 : l'[0]? ≠ some 48 := by
         have := hz (by rw [h]; simp; exact List.length_pos_iff.2 hl)
         rwa [h, List.getElem?_append_left (List.length_pos_iff.2 hl)] at this
       have e := ih l'.length (by omega) l' hl hd' (fun _ => hz0) rfl
       have hb := valOn_bd l' 0 (by omega) hd'
       have hpos : valOn 0 l' ≠ 0 := by
         intro h0'
         rw [h0'] at e
         rw [show (0 : Int).toNat = 0 from rfl, decDigits_small (by omega)] at e
         rw [← e] at hz0
         exact hz0 rfl
       rw [h, valOn_snoc]
       rw [decDigits_big (by omega)]
       rw [show (valOn 0 l' * 10 + ((x.toNat : Int) - 48)).toNat / 10 = (valOn 0 l').toNat by omega, e]
       rw [show (valOn 0 l' * 10 + ((x.toNat : Int) - 48)).toNat % 10 = x.toNat - 48 by omega, hxe]

theorem itoa_val (n : Int) (h : 0 ≤ n) : Lib.itoa n = Lib.decDigits n.toNat := by unfold Lib.itoa; rw [if_neg (by omega)]
theorem itoa_digits (n : Int) (h : 0 ≤ n) : ∀ x ∈ Lib.itoa n, isDig x = true := by rw [itoa_val n h]; exact dec_digits _
theorem itoa_ne (n : Int) (h : 0 ≤ n) : Lib.itoa n ≠ [] := by rw [itoa_val n h]; exact dec_ne _
theorem itoa_valOn (n : Int) (h : 0 ≤ n) : valOn 0 (Lib.itoa n) = n := by rw [itoa_val n h, dec_val]; omega

theorem numOf_itoa (n : Int) (h0 : 0 ≤ n) (h1 : n ≤ 4294967295) : numOf (Lib.itoa n) = n := by
 have hl : (Lib.itoa n).length ≤ 10 := by rw [itoa_val n h0]; exact decDigits_le 9 _ (by omega)
 have hp : 1 ≤ (Lib.itoa n).length := List.length_pos_iff.2 (itoa_ne n h0)
 rw [numOf_yes ⟨hp, hl⟩ ?_ (itoa_digits n h0), itoa_valOn n h0, if_pos h1]
 rintro ⟨h2, h3⟩
 by_cases hz : n = 0
 · subst hz
   have : Lib.itoa 0 = [48] := by rw [itoa_val 0 (by omega), show (0 : Int).toNat = 0 from rfl, decDigits_small (by omega)]; rfl
   rw [this] at h2; simp at h2
 · rw [itoa_val n h0] at h3
   exact dec_head _ (by omega) h3
def noDig (r : List UInt8) : Prop := ∀ x, r[0]? = some x → isDig x = false
def NumAt (most : Int) (l : List UInt8) (v : Int) (r : List UInt8) : Prop := (0 ≤ v ∧ v ≤ most) ∧ l = Lib.itoa v ++ r ∧ noDig r

theorem digits_split : ∀ (a b r s : List UInt8), (∀ x ∈ a, isDig x = true) → (∀ x ∈ b, isDig x = true) → noDig r → noDig s → a ++ r = b ++ s → a = b ∧ r = s
 | [], [], r, s, _, _, _, _, h => ⟨rfl, by simpa using h⟩
 | [], y :: b, r, s, _, hb, hr, _, h => by
   have := hr y (by simp at h; rw [h]; rfl)
   rw [hb y (by simp)] at this; cases this
 | x :: a, [], r, s, ha, _, _, hs, h => by
   have := hs x (by simp at h; rw [← h]; rfl)
   rw [ha x (by simp)] at this; cases this
 | x :: a, y :: b, r, s, ha, hb, hr, hs, h => by
   simp only [List.cons_append, List.cons.injEq] at h
   obtain ⟨e1, e2⟩ := digits_split a b r s (fun z hz => ha z (by simp [hz])) (fun z hz => hb z (by simp [hz])) hr hs h.2
   exact ⟨by rw [h.1, e1], e2⟩
theorem NumAt.unique {m m' : Int} {l r r' : List UInt8} {v v' : Int} (h : NumAt m l v r) (h' : NumAt m' l v' r') : v = v' ∧ r = r' := by
 obtain ⟨⟨a0, _⟩, e, n⟩ := h
 obtain ⟨⟨b0, _⟩, e', n'⟩ := h'
 obtain ⟨x, y⟩ := digits_split _ _ _ _ (itoa_digits v a0) (itoa_digits v' b0) n n' (e.symm.trans e')
 refine ⟨?_, y⟩
 rw [← itoa_valOn v a0, x, itoa_valOn v' b0]

theorem valOn_append : ∀ (a b : List UInt8) (v : Int), valOn v (a ++ b) = valOn (valOn v a) b
 | [], _, _ => rfl
 | x :: a, b, v => valOn_append a b _
theorem NumAt.pre {most : Int} {l : List UInt8} {v : Int} {r : List UInt8} (h : NumAt most l v r) {k : Nat} (hk : k ≤ l.length) (hd : ∀ x ∈ l.take k, isDig x = true) : ∃ t, Lib.itoa v = l.take k ++ t := by
 obtain ⟨⟨h0, _⟩, e, n⟩ := h
 have hle : k ≤ (Lib.itoa v).length := by
   apply Classical.byContradiction
   intro hn
   have hlt : (Lib.itoa v).length < k := by omega
   have h1 : l[(Lib.itoa v).length]? = r[0]? := by rw [e, List.getElem?_append_right (Nat.le_refl _), Nat.sub_self]
   have h2 : l[(Lib.itoa v).length]? = some (l[(Lib.itoa v).length]'(by omega)) := List.getElem?_eq_getElem (by omega)
   have h3 := n _ (h1.symm.trans h2)
   have h4 := hd (l[(Lib.itoa v).length]'(by omega)) (by
     rw [List.mem_take_iff_getElem]
     exact ⟨_, by omega, rfl⟩)
   rw [h3] at h4; cases h4
 refine ⟨(Lib.itoa v).drop k, ?_⟩
 rw [e, List.take_append_of_le_length hle, List.take_append_drop]
theorem no_num_zero {most : Int} {l : List UInt8} {k : Nat} (hk : k < l.length) (h1 : 0 < k) (hd : ∀ x ∈ l.take (k + 1), isDig x = true) (hv : valOn 0 (l.take k) = 0) : ¬ ∃ v r, NumAt most l v r := by
 rintro ⟨v, r, h⟩
 obtain ⟨t, ht⟩ := h.pre (k := k + 1) (by omega) hd
 have h0 := h.1.1
 rw [itoa_val v h0] at ht
 have hlen : k + 1 ≤ (Lib.decDigits v.toNat).length := by rw [ht]; simp; omega
 by_cases hz : v.toNat = 0
 · rw [hz, decDigits_small (by omega)] at hlen; simp at hlen; omega
 · apply dec_head v.toNat (by omega)
   rw [ht, List.getElem?_append_left (by simp; omega), List.getElem?_take_of_lt (by omega)]
   obtain ⟨k', rfl⟩ : ∃ k', k = k' + 1 := ⟨k - 1, by omega⟩
   cases l with
   | nil => simp at hk
   | cons x l' =>
     have hx := isDig_iff.1 (hd x (by simp))
     rw [List.take_succ_cons] at hv
     have hv' : valOn ((x.toNat : Int) - 48) (l'.take k') = 0 := by simpa [valOn] using hv
     have hb := (valOn_bd (l'.take k') ((x.toNat : Int) - 48) (by omega) (fun y hy => hd y (by
       rw [List.take_succ_cons]
       refine List.mem_cons_of_mem _ ?_
       rw [List.mem_take_iff_getElem] at hy ⊢
       obtain ⟨i, hi, e⟩ := hy
       exact ⟨i, by omega, e⟩))).1
     rw [hv'] at hb
     show some x = some 48
     congr 1
     apply UInt8.toNat_inj.1
     show _ = 48
     omega
theorem no_num_over {most : Int} {l : List UInt8} {k : Nat} (hk : k ≤ l.length) (hd : ∀ x ∈ l.take k, isDig x = true) (hv : most < valOn 0 (l.take k)) : ¬ ∃ v r, NumAt most l v r := by
 rintro ⟨v, r, h⟩
 obtain ⟨t, ht⟩ := h.pre hk hd
 have h1 := itoa_valOn v h.1.1
 have hdt := itoa_digits v h.1.1
 rw [ht] at h1 hdt
 rw [valOn_append] at h1
 have h2 := (valOn_bd (l.take k) 0 (by omega) hd).1
 have h3 := (valOn_bd t (valOn 0 (l.take k)) h2 (fun x hx => hdt x (by simp [hx]))).1
 have := h.1.2
 omega
theorem no_num_none {most : Int} {l : List UInt8} (h : noDig l) : ¬ ∃ v r, NumAt most l v r := by
 rintro ⟨v, r, ⟨h0, _⟩, e, n⟩
 have hne := itoa_ne v h0
 have hd := itoa_digits v h0
 cases hi : Lib.itoa v with
 | nil => exact hne hi
 | cons x t =>
   rw [hi] at e hd
   have := h x (by rw [e]; rfl)
   rw [hd x (by simp)] at this; cases this
theorem num_yes {most : Int} {l : List UInt8} {k : Nat} (hk : k ≤ l.length) (h1 : 0 < k) (hd : ∀ x ∈ l.take k, isDig x = true) (hz : 1 < k → l[0]? ≠ some 48) (hm : valOn 0 (l.take k) ≤ most) (hn : noDig (l.drop k)) : NumAt most l (valOn 0 (l.take k)) (l.drop k) := by
 have h0 := (valOn_bd (l.take k) 0 (by omega) hd).1
 refine ⟨⟨h0, hm⟩, ?_, hn⟩
 rw [itoa_val _ h0, dec_of_digits (l.take k) (by intro e; have := congrArg List.length e; rw [List.length_take, List.length_nil] at this; omega) hd (fun hl => by
   have hl' : 1 < k := by simp at hl; omega
   rw [List.getElem?_take_of_lt h1]; exact hz hl'), List.take_append_drop]
end Go.Proofs.YtdjgicapbpoigaaGreatDoor

namespace Go.Proofs.YtdjgicapbpoigaaGreatDoor
open Go.RowKit
set_option linter.unusedSimpArgs false
set_option linter.unusedVariables false

theorem itoa10 {n : Int} (h : 0 ≤ n ∧ n ≤ 4294967295) : (Lib.itoa n).length ≤ 10 := by rw [itoa_val n h.1]; exact decDigits_le 9 _ (by omega)

def verdNm (n : Int) : List UInt8 := if n = 1 then [97, 108, 108, 111, 119] else if n = 2 then [100, 101, 110, 121] else if n = 3 then [110, 111, 116, 101] else if n = 4 then [115, 116, 111, 112] else []
def signNm (n : Int) : List UInt8 := if n = 1 then [61] else if n = 2 then [60] else if n = 3 then [62] else []
theorem verdNm_len (n : Int) : (verdNm n).length ≤ 5 := by
 unfold verdNm
 by_cases h1 : n = 1
 · rw [if_pos h1]; simp
 rw [if_neg h1]
 by_cases h2 : n = 2
 · rw [if_pos h2]; simp
 rw [if_neg h2]
 by_cases h3 : n = 3
 · rw [if_pos h3]; simp
 rw [if_neg h3]
 by_cases h4 : n = 4
 · rw [if_pos h4]; simp
 rw [if_neg h4]; simp
theorem signNm_len (n : Int) : (signNm n).length ≤ 1 := by
 unfold signNm
 by_cases h1 : n = 1
 · rw [if_pos h1]; simp
 rw [if_neg h1]
 by_cases h2 : n = 2
 · rw [if_pos h2]; simp
 rw [if_neg h2]
 by_cases h3 : n = 3
 · rw [if_pos h3]; simp
 rw [if_neg h3]; simp
def maskText (m : Int) : List UInt8 := if m = 4294967295 then [] else 38 :: Lib.itoa m
def highText (lo hi : Int) : List UInt8 := if hi = lo then [] else 45 :: Lib.itoa hi
def testText (t : Ts) : List UInt8 := [32, 97] ++ Lib.itoa t.field ++ maskText t.mask ++ signNm t.op ++ Lib.itoa t.value
def headText (r : Rl) : List UInt8 := verdNm r.verdict ++ [32] ++ Lib.itoa r.low ++ highText r.low r.high
def testsText (ts : List Ts) : List UInt8 := (ts.map testText).flatten
def ruleText (r : Rl) : List UInt8 := headText r ++ testsText r.tests ++ [10]
def rulesText (rs : List Rl) : List UInt8 := (rs.map ruleText).flatten
def polText (p : Pol) : List UInt8 := rulesText p.rules ++ [101, 108, 115, 101, 32] ++ verdNm p.els ++ [10]

def testOkB (t : Ts) : Bool := inB t.field 1 4 && inB t.mask 1 4294967295 && inB t.value 0 4294967295 && inB t.op 1 3 && (if t.op == 1 then bits .and .i64 t.value t.mask == t.value else t.mask == 4294967295)
def ruleOkB (r : Rl) : Bool := inB r.verdict 1 4 && inB r.low 0 4294967295 && inB r.high r.low 4294967295 && decide (r.tests.length ≤ 4) && r.tests.all testOkB
def polShapeB (p : Pol) : Bool := decide (p.rules.length ≤ 8) && inB p.els 1 4 && p.rules.all ruleOkB
def polOkB (p : Pol) : Bool := polShapeB p && decide ((polText p).length ≤ 900)

theorem testOkB_words {t : Ts} (h : testOkB t = true) : (1 ≤ t.field ∧ t.field ≤ 4) ∧ (1 ≤ t.mask ∧ t.mask ≤ 4294967295) ∧ (0 ≤ t.value ∧ t.value ≤ 4294967295) ∧ (1 ≤ t.op ∧ t.op ≤ 3) := by
 unfold testOkB at h
 simp only [Bool.and_eq_true, inB_iff] at h
 omega
theorem ruleOkB_words {r : Rl} (h : ruleOkB r = true) : (1 ≤ r.verdict ∧ r.verdict ≤ 4) ∧ (0 ≤ r.low ∧ r.low ≤ r.high) ∧ r.high ≤ 4294967295 ∧ r.tests.length ≤ 4 ∧ ∀ t ∈ r.tests, testOkB t = true := by
 unfold ruleOkB at h
 simp only [Bool.and_eq_true, inB_iff, decide_eq_true_eq, List.all_eq_true] at h
 refine ⟨by omega, by omega, by omega, h.1.2, h.2⟩
theorem polShapeB_words {p : Pol} (h : polShapeB p = true) : p.rules.length ≤ 8 ∧ (1 ≤ p.els ∧ p.els ≤ 4) ∧ ∀ r ∈ p.rules, ruleOkB r = true := by
 unfold polShapeB at h
 simp only [Bool.and_eq_true, inB_iff, decide_eq_true_eq, List.all_eq_true] at h
 exact ⟨h.1.1, h.1.2, h.2⟩
theorem polOkB_shape {p : Pol} (h : polOkB p = true) : polShapeB p = true ∧ (polText p).length ≤ 900 := by
 unfold polOkB at h
 simpa using h
theorem maskText_len {m : Int} (h : 1 ≤ m ∧ m ≤ 4294967295) : (maskText m).length ≤ 11 := by
 unfold maskText
 have := itoa10 (n := m) (by omega)
 split <;> simp <;> omega
theorem testText_len {t : Ts} (h : testOkB t = true) : (testText t).length ≤ 34 := by
 obtain ⟨h1, h2, h3, h4⟩ := testOkB_words h
 have a1 := itoa10 (n := t.field) (by omega)
 have a2 := itoa10 (n := t.value) (by omega)
 have a3 := maskText_len h2
 have a4 := signNm_len t.op
 simp [testText]
 omega
theorem headText_len {r : Rl} (h : ruleOkB r = true) : (headText r).length ≤ 27 := by
 obtain ⟨h1, h2, h3, _⟩ := ruleOkB_words h
 have a1 := itoa10 (n := r.low) (by omega)
 have a2 := itoa10 (n := r.high) (by omega)
 have a3 := verdNm_len r.verdict
 have a4 : (highText r.low r.high).length ≤ 11 := by unfold highText; split <;> simp; omega
 simp [headText]
 omega
theorem testsText_len : ∀ (ts : List Ts), (∀ t ∈ ts, testOkB t = true) → (testsText ts).length ≤ 34 * ts.length
 | [], _ => by simp [testsText]
 | t :: ts, h => by
   have h1 := testText_len (h t (by simp))
   have h2 := testsText_len ts (fun t ht => h t (by simp [ht]))
   simp [testsText] at h2 ⊢
   omega
theorem ruleText_len {r : Rl} (h : ruleOkB r = true) : (ruleText r).length ≤ 164 := by
 have h1 := headText_len h
 have h2 := testsText_len r.tests (ruleOkB_words h).2.2.2.2
 have h3 := (ruleOkB_words h).2.2.2.1
 simp [ruleText]
 omega
theorem rulesText_len : ∀ (rs : List Rl), (∀ r ∈ rs, ruleOkB r = true) → (rulesText rs).length ≤ 164 * rs.length
 | [], _ => by simp [rulesText]
 | t :: ts, h => by
   have h1 := ruleText_len (h t (by simp))
   have h2 := rulesText_len ts (fun t ht => h t (by simp [ht]))
   simp [rulesText] at h2 ⊢
   omega
theorem testsText_take {ts : List Ts} {k : Nat} {t : Ts} (h : ts[k]? = some t) : testsText (ts.take (k + 1)) = testsText (ts.take k) ++ testText t := by
 rw [List.take_add_one, h]; simp [testsText]
theorem rulesText_take {rs : List Rl} {k : Nat} {r : Rl} (h : rs[k]? = some r) : rulesText (rs.take (k + 1)) = rulesText (rs.take k) ++ ruleText r := by
 rw [List.take_add_one, h]; simp [rulesText]

theorem ts_get {w : World} {A : Option Addr} {n c : Nat} {g : List Ts} (h : SlA w 4 A n c (tsR g)) {k : Nat} (hk : k < n) :
   ∃ b off x, A = some ⟨b, off, none⟩ ∧ b < w.heap.size ∧ g[k]? = some x ∧ (∀ (w' : World) (B : Nat), Below B w w' → b < B →
     w'.cell? ⟨b, off + k * 4, none⟩ = some (.int .i64 x.field) ∧ w'.cell? ⟨b, off + k * 4 + 1, none⟩ = some (.int .i64 x.mask) ∧ w'.cell? ⟨b, off + k * 4 + 2, none⟩ = some (.int .i64 x.op) ∧ w'.cell? ⟨b, off + k * 4 + 3, none⟩ = some (.int .i64 x.value)) := by
 have hl := h.len
 rw [tsR_len] at hl
 obtain ⟨b, o, e, hb, hc⟩ := h.get hk
 have hk' : k < g.length := by omega
 refine ⟨b, o, g[k], e, hb, List.getElem?_eq_getElem hk', fun w' B hw hB => ?_⟩
 have hr : (tsR g)[k]? = some g[k].cells := by simp [tsR, hk']
 exact ⟨cellAt hw hB (hc _ hr 0 _ rfl), cellAt hw hB (hc _ hr 1 _ rfl), cellAt hw hB (hc _ hr 2 _ rfl), cellAt hw hB (hc _ hr 3 _ rfl)⟩
theorem rules_get {w : World} {A : Option Addr} {n c : Nat} {rs : List Rl} {css : List (List Value)} (h : SlA w 4 A n c css) (hr : RulesAre w rs css) {k : Nat} (hk : k < n) :
   ∃ b off x tv, A = some ⟨b, off, none⟩ ∧ b < w.heap.size ∧ rs[k]? = some x ∧ Sl w 4 tv (tsR x.tests) ∧ (∀ (w' : World) (B : Nat), Below B w w' → b < B →
     w'.cell? ⟨b, off + k * 4, none⟩ = some (.int .i64 x.verdict) ∧ w'.cell? ⟨b, off + k * 4 + 1, none⟩ = some (.int .i64 x.low) ∧ w'.cell? ⟨b, off + k * 4 + 2, none⟩ = some (.int .i64 x.high) ∧ w'.cell? ⟨b, off + k * 4 + 3, none⟩ = some tv) := by
 have hl := h.len
 have hl2 := hr.1
 obtain ⟨b, o, e, hb, hc⟩ := h.get hk
 have h1 : rs[k]? = some rs[k] := List.getElem?_eq_getElem (by omega)
 have h2 : css[k]? = some css[k] := List.getElem?_eq_getElem (by omega)
 obtain ⟨tv, hcs, hs⟩ := hr.2 k _ _ h1 h2
 refine ⟨b, o, rs[k], tv, e, hb, h1, hs, fun w' B hw hB => ?_⟩
 rw [hcs] at h2
 exact ⟨cellAt hw hB (hc _ h2 0 _ rfl), cellAt hw hB (hc _ h2 1 _ rfl), cellAt hw hB (hc _ h2 2 _ rfl), cellAt hw hB (hc _ h2 3 _ rfl)⟩
end Go.Proofs.YtdjgicapbpoigaaGreatDoor

namespace Go.Proofs.YtdjgicapbpoigaaGreatDoor
open Go.RowKit
set_option linter.unusedSimpArgs false
set_option linter.unusedVariables false

theorem ints_get {w : World} {A : Option Addr} {n c : Nat} {xs : List Int} (h : SlA w 1 A n c (ints xs)) {k : Nat} (hk : k < n) :
   ∃ b off x, A = some ⟨b, off, none⟩ ∧ b < w.heap.size ∧ xs[k]? = some x ∧ (∀ (w' : World) (B : Nat), Below B w w' → b < B → w'.cell? ⟨b, off + k, none⟩ = some (.int .i64 x)) := by
 have hl := h.len
 rw [ints_len] at hl
 obtain ⟨b, o, e, hb, hc⟩ := h.get hk
 have hk' : k < xs.length := by omega
 refine ⟨b, o, xs[k], e, hb, List.getElem?_eq_getElem hk', fun w' B hw hB => ?_⟩
 have hr : (ints xs)[k]? = some [.int .i64 xs[k]] := by simp [ints, hk']
 have f := hc _ hr 0 _ rfl
 rw [Nat.mul_one, Nat.add_zero] at f
 exact cellAt hw hB f

theorem strs_get {w : World} {A : Option Addr} {n c : Nat} {ls : List (List UInt8)} (h : SlA w 1 A n c (strs ls)) {k : Nat} (hk : k < n) :
   ∃ b off l, A = some ⟨b, off, none⟩ ∧ b < w.heap.size ∧ ls[k]? = some l ∧ (∀ (w' : World) (B : Nat), Below B w w' → b < B → w'.cell? ⟨b, off + k, none⟩ = some (.string ⟨l.toArray⟩)) := by
 have hl := h.len
 rw [strs_len] at hl
 obtain ⟨b, o, e, hb, hc⟩ := h.get hk
 have hk' : k < ls.length := by omega
 refine ⟨b, o, ls[k], e, hb, List.getElem?_eq_getElem hk', fun w' B hw hB => ?_⟩
 have hr : (strs ls)[k]? = some [.string ⟨ls[k].toArray⟩] := by simp [strs, hk']
 have f := hc _ hr 0 _ rfl
 rw [Nat.mul_one, Nat.add_zero] at f
 exact cellAt hw hB f

theorem cutGo_run {b : UInt8} : ∀ (a cur rest : List UInt8), (∀ x ∈ a, x ≠ b) → cutGo b cur (a ++ rest) = cutGo b (cur ++ a) rest
 | [], cur, rest, _ => by simp
 | x :: a, cur, rest, h => by
   rw [List.cons_append, cutGo_miss (h x (by simp)), cutGo_run a _ rest (fun y hy => h y (by simp [hy]))]
   simp
theorem digit_no32 {x : UInt8} (h : isDig x = true) : x ≠ 32 := fun e => by subst e; cases h
theorem itoa_no32 (n : Int) (h : 0 ≤ n) : ∀ x ∈ Lib.itoa n, x ≠ 32 := fun x hx => digit_no32 (itoa_digits n h x hx)
end Go.Proofs.YtdjgicapbpoigaaGreatDoor

namespace Go.Proofs.YtdjgicapbpoigaaGreatDoor
open Go.RowKit
set_option linter.unusedSimpArgs false
set_option linter.unusedVariables false

structure In4 where
 op : Int
 k : Int
 yes : Int
 no : Int
theorem In4.ext' {x y : In4} (h1 : x.op = y.op) (h2 : x.k = y.k) (h3 : x.yes = y.yes) (h4 : x.no = y.no) : x = y := by
 cases x; cases y; simp at h1 h2 h3 h4; simp [h1, h2, h3, h4]
def In4.cells (x : In4) : List Value := [.int .i64 x.op, .int .i64 x.k, .int .i64 x.yes, .int .i64 x.no]
def insR (g : List In4) : List (List Value) := g.map In4.cells
theorem insR_rows (g : List In4) : ∀ r ∈ insR g, r.length = 4 := by simp [insR, In4.cells]
theorem insR_len (g : List In4) : (insR g).length = g.length := by simp [insR]

theorem ins_get {w : World} {A : Option Addr} {n c : Nat} {g : List In4} (h : SlA w 4 A n c (insR g)) {k : Nat} (hk : k < n) :
   ∃ b off x, A = some ⟨b, off, none⟩ ∧ b < w.heap.size ∧ g[k]? = some x ∧ (∀ (w' : World) (B : Nat), Below B w w' → b < B →
     w'.cell? ⟨b, off + k * 4, none⟩ = some (.int .i64 x.op) ∧ w'.cell? ⟨b, off + k * 4 + 1, none⟩ = some (.int .i64 x.k) ∧ w'.cell? ⟨b, off + k * 4 + 2, none⟩ = some (.int .i64 x.yes) ∧ w'.cell? ⟨b, off + k * 4 + 3, none⟩ = some (.int .i64 x.no)) := by
 have hl := h.len
 rw [insR_len] at hl
 obtain ⟨b, o, e, hb, hc⟩ := h.get hk
 have hk' : k < g.length := by omega
 refine ⟨b, o, g[k], e, hb, List.getElem?_eq_getElem hk', fun w' B hw hB => ?_⟩
 have hr : (insR g)[k]? = some g[k].cells := by simp [insR, hk']
 exact ⟨cellAt hw hB (hc _ hr 0 _ rfl), cellAt hw hB (hc _ hr 1 _ rfl), cellAt hw hB (hc _ hr 2 _ rfl), cellAt hw hB (hc _ hr 3 _ rfl)⟩

theorem info_Ins : (Tryz.prog.info? 63).map (fun i => (i.zero, i.size, i.bytes)) = some (some (.agg #[.int .i64 0, .int .i64 0, .int .i64 0, .int .i64 0]), 4, 32) := by kernel_rfl

def insOk (x : In4) (left : Int) : Prop :=
 (x.op = 1 ∧ (0 ≤ x.k ∧ x.k ≤ 4) ∧ x.yes = 0 ∧ x.no = 0 ∧ 0 ≤ left) ∨
 (x.op = 2 ∧ (0 ≤ x.k ∧ x.k ≤ 4294967295) ∧ x.yes = 0 ∧ x.no = 0 ∧ 0 ≤ left) ∨
 ((x.op = 3 ∨ x.op = 4) ∧ (0 ≤ x.k ∧ x.k ≤ 4294967295) ∧ (0 ≤ x.yes ∧ x.yes ≤ 6) ∧ (0 ≤ x.no ∧ x.no ≤ 6) ∧ x.yes ≤ left ∧ x.no ≤ left) ∨
 (x.op = 5 ∧ (0 ≤ x.k ∧ x.k ≤ left) ∧ x.yes = 0 ∧ x.no = 0) ∨
 (x.op = 6 ∧ (1 ≤ x.k ∧ x.k ≤ 4) ∧ x.yes = 0 ∧ x.no = 0)
def insWord (x : In4) : Prop :=
 (0 ≤ x.k ∧ x.k ≤ 4294967295) ∧ (((x.op = 3 ∨ x.op = 4) ∧ (0 ≤ x.yes ∧ x.yes ≤ 6) ∧ (0 ≤ x.no ∧ x.no ≤ 6)) ∨ ((x.op = 1 ∨ x.op = 2 ∨ x.op = 5 ∨ x.op = 6) ∧ x.yes = 0 ∧ x.no = 0))
theorem insOk.word {x : In4} {left : Int} (h : insOk x left) (hl : left ≤ 4294967295) : insWord x := by
 unfold insOk at h; unfold insWord; omega

def waysTo (g : List In4) (k : Nat) : Prop := ∀ (i : Nat) (x : In4), i < k → g[i]? = some x → insOk x ((g.length : Int) - i - 2)
def waysOk (g : List In4) : Prop := 1 ≤ g.length ∧ g.length ≤ 160 ∧ waysTo g g.length
theorem waysTo_zero (g : List In4) : waysTo g 0 := fun _ _ h => absurd h (by omega)
theorem waysTo_succ {g : List In4} {k : Nat} {x : In4} (h : waysTo g k) (hx : g[k]? = some x) (ho : insOk x ((g.length : Int) - k - 2)) : waysTo g (k + 1) := fun i y hi hy => by
 by_cases e : i = k
 · subst e; rw [hx] at hy; cases hy; exact ho
 · exact h i y (by omega) hy

def opNm (op : Int) : List UInt8 :=
 if op = 1 then [108, 111, 97, 100] else if op = 2 then [97, 110, 100] else if op = 3 then [101, 113] else if op = 4 then [103, 116] else if op = 5 then [106, 117, 109, 112] else if op = 6 then [101, 110, 100] else []
def tailW (x : In4) : List UInt8 := if x.op = 3 ∨ x.op = 4 then 32 :: (Lib.itoa x.yes ++ 32 :: Lib.itoa x.no) else []
def insLine (x : In4) : List UInt8 := opNm x.op ++ 32 :: (Lib.itoa x.k ++ tailW x)
def insText (x : In4) : List UInt8 := insLine x ++ [10]
def codeText (g : List In4) : List UInt8 := g.flatMap insText
theorem codeText_cons (x : In4) (g : List In4) : codeText (x :: g) = insText x ++ codeText g := by simp [codeText]
theorem codeText_snoc (g : List In4) (x : In4) : codeText (g ++ [x]) = codeText g ++ insText x := by simp [codeText]
theorem insText_pos (x : In4) : 0 < (insText x).length := by simp [insText]

def codeOk (g : List In4) : Prop := waysOk g ∧ (codeText g).length ≤ 2600
noncomputable def codeOkB (g : List In4) : Bool := @decide (codeOk g) (Classical.propDecidable _)
theorem codeOkB_iff {g : List In4} : codeOkB g = true ↔ codeOk g := by simp [codeOkB]
theorem codeOkB_of {g : List In4} {b : Bool} (h : b = true ↔ codeOk g) : b = codeOkB g := by rw [Bool.eq_iff_iff, h, codeOkB_iff]
theorem codeOkB_no {g : List In4} (h : ¬ codeOk g) : codeOkB g = false := by rw [← Bool.not_eq_true, codeOkB_iff]; exact h
noncomputable def codeOut (g : List In4) : List UInt8 := if codeOkB g then codeText g else []

theorem itoa_le10 {n : Int} (h : 0 ≤ n ∧ n ≤ 4294967295) : (Lib.itoa n).length ≤ 10 := by rw [itoa_val n h.1]; exact decDigits_le 9 _ (by omega)
theorem opNm_len (op : Int) : (opNm op).length ≤ 4 := by
 unfold opNm
 split
 · simp
 split
 · simp
 split
 · simp
 split
 · simp
 split
 · simp
 split <;> simp
theorem insText_len {x : In4} (h : insWord x) : (insText x).length ≤ 40 := by
 have h1 := itoa_le10 h.1
 have h2 := opNm_len x.op
 unfold insText insLine tailW
 split
 · have h3 := itoa_le10 (n := x.yes) (by unfold insWord at h; omega)
   have h4 := itoa_le10 (n := x.no) (by unfold insWord at h; omega)
   simp; omega
 · simp; omega
theorem codeText_len : ∀ (g : List In4), (∀ x ∈ g, insWord x) → (codeText g).length ≤ 40 * g.length
 | [], _ => by simp [codeText]
 | x :: g, h => by
   have ih := codeText_len g (fun y hy => h y (by simp [hy]))
   have hx := insText_len (h x (by simp))
   rw [codeText_cons]; simp; omega
theorem waysTo.words {g : List In4} {k : Nat} (h : waysTo g k) (hl : g.length ≤ 4294967295) : ∀ x ∈ g.take k, insWord x := fun x hx => by
 obtain ⟨i, hi, e⟩ := List.getElem_of_mem hx
 rw [List.length_take] at hi
 have e2 : g[i]? = some x := by rw [← e, List.getElem_take]; exact List.getElem?_eq_getElem (by omega)
 exact (h i x (by omega) e2).word (by omega)
theorem waysOk.words {g : List In4} (h : waysOk g) : ∀ x ∈ g, insWord x := fun x hx => h.2.2.words (by have := h.2.1; omega) x (by rwa [List.take_length])
theorem codeOk.out {g : List In4} (h : codeOk g) : codeOut g = codeText g := by unfold codeOut; rw [if_pos (codeOkB_iff.2 h)]
theorem codeOk.no {g : List In4} (h : ¬ codeOk g) : codeOut g = [] := by unfold codeOut; rw [if_neg (by rw [codeOkB_iff]; exact h)]
theorem codeText_ne {g : List In4} (h : g ≠ []) : codeText g ≠ [] := by
 cases g with
 | nil => exact absurd rfl h
 | cons x g => rw [codeText_cons]; intro e; have h0 := insText_pos x; have h1 := congrArg List.length e; rw [List.length_append, List.length_nil] at h1; omega
theorem codeOut_empty {g : List In4} : codeOut g = [] ↔ ¬ codeOk g := by
 constructor
 · intro e h
   rw [h.out] at e
   have h1 := h.1.1
   exact codeText_ne (by intro e2; subst e2; simp at h1) e
 · exact codeOk.no

def PlaceAt (rest : List UInt8) (x : In4) (r : List UInt8) : Prop := insWord x ∧ rest = insText x ++ r

theorem noDig_cons {b : UInt8} {r : List UInt8} (h : isDig b = false) : noDig (b :: r) := fun x hx => by simp at hx; subst hx; exact h
theorem noDig_tailW (x : In4) (r : List UInt8) : noDig (tailW x ++ 10 :: r) := by
 unfold tailW
 split
 · exact noDig_cons (by decide)
 · exact noDig_cons (by decide)
theorem insText_split (x : In4) (r : List UInt8) : insText x ++ r = opNm x.op ++ 32 :: (Lib.itoa x.k ++ (tailW x ++ 10 :: r)) := by simp [insText, insLine]

theorem opNm_one {a b : Int} {s t : List UInt8} (ha : 1 ≤ a ∧ a ≤ 6) (hb : 1 ≤ b ∧ b ≤ 6) (h : opNm a ++ 32 :: s = opNm b ++ 32 :: t) : a = b ∧ s = t := by
 have ha' : a = 1 ∨ a = 2 ∨ a = 3 ∨ a = 4 ∨ a = 5 ∨ a = 6 := by omega
 have hb' : b = 1 ∨ b = 2 ∨ b = 3 ∨ b = 4 ∨ b = 5 ∨ b = 6 := by omega
 obtain rfl | rfl | rfl | rfl | rfl | rfl := ha' <;> obtain rfl | rfl | rfl | rfl | rfl | rfl := hb' <;> simp [opNm] at h <;> first | exact ⟨rfl, h⟩ | skip

theorem insWord.op {x : In4} (h : insWord x) : 1 ≤ x.op ∧ x.op ≤ 6 := by unfold insWord at h; omega

theorem PlaceAt.one {rest r r' : List UInt8} {x x' : In4} (h : PlaceAt rest x r) (h' : PlaceAt rest x' r') : x = x' ∧ r = r' := by
 obtain ⟨hw, e⟩ := h
 obtain ⟨hw', e'⟩ := h'
 rw [e, insText_split, insText_split] at e'
 obtain ⟨ho, e1⟩ := opNm_one hw.op hw'.op e'
 obtain ⟨hk, e2⟩ := NumAt.unique (⟨hw.1, rfl, noDig_tailW x r⟩ : NumAt 4294967295 _ x.k _) (⟨hw'.1, e1, noDig_tailW x' r'⟩ : NumAt 4294967295 _ x'.k _)
 unfold tailW at e2
 unfold insWord at hw hw'
 by_cases h34 : x.op = 3 ∨ x.op = 4
 · rw [if_pos h34, if_pos (ho ▸ h34)] at e2
   simp only [List.cons_append, List.append_assoc, List.cons.injEq, true_and] at e2
   obtain ⟨hy, e3⟩ := NumAt.unique (⟨by omega, rfl, noDig_cons (by decide)⟩ : NumAt 4294967295 (Lib.itoa x.yes ++ 32 :: (Lib.itoa x.no ++ 10 :: r)) x.yes _) (⟨by omega, e2, noDig_cons (by decide)⟩ : NumAt 4294967295 _ x'.yes (32 :: (Lib.itoa x'.no ++ 10 :: r')))
   simp only [List.cons.injEq, true_and] at e3
   obtain ⟨hn, e4⟩ := NumAt.unique (⟨by omega, rfl, noDig_cons (by decide)⟩ : NumAt 4294967295 (Lib.itoa x.no ++ 10 :: r) x.no _) (⟨by omega, e3, noDig_cons (by decide)⟩ : NumAt 4294967295 _ x'.no (10 :: r'))
   exact ⟨In4.ext' ho hk hy hn, by simpa using e4⟩
 · rw [if_neg h34, if_neg (ho ▸ h34)] at e2
   exact ⟨In4.ext' ho hk (by omega) (by omega), by simpa using e2⟩

theorem code_prefix : ∀ (ws ys : List In4) (rest : List UInt8), (∀ x ∈ ws, insWord x) → (∀ x ∈ ys, insWord x) → codeText ys = codeText ws ++ rest → ∃ tail, ys = ws ++ tail ∧ rest = codeText tail
 | [], ys, rest, _, _, h => ⟨ys, rfl, by simpa [codeText] using h.symm⟩
 | x :: ws, [], rest, _, _, h => by
   exfalso
   have := congrArg List.length h
   have hp := insText_pos x
   rw [codeText_cons] at this
   simp [codeText] at this
   omega
 | x :: ws, y :: ys, rest, h1, h2, h => by
   rw [codeText_cons, codeText_cons, List.append_assoc] at h
   obtain ⟨e1, e2⟩ := PlaceAt.one (⟨h2 y (by simp), rfl⟩ : PlaceAt (insText y ++ codeText ys) y _) (⟨h1 x (by simp), h⟩ : PlaceAt _ x _)
   subst e1
   obtain ⟨tail, e3, e4⟩ := code_prefix ws ys rest (fun z hz => h1 z (by simp [hz])) (fun z hz => h2 z (by simp [hz])) e2
   exact ⟨tail, by rw [e3]; rfl, e4⟩

structure ParsedC (text : List UInt8) (ws : List In4) (rest : List UInt8) : Prop where
 sound : text = codeText ws ++ rest
 words : ∀ x ∈ ws, insWord x
theorem ParsedC.start (text : List UInt8) : ParsedC text [] text := ⟨rfl, fun x h => by simp at h⟩
theorem ParsedC.next {text : List UInt8} {ws : List In4} {rest r : List UInt8} {x : In4} (h : ParsedC text ws rest) (hx : PlaceAt rest x r) : ParsedC text (ws ++ [x]) r :=
 ⟨by rw [codeText_snoc, h.sound, hx.2, List.append_assoc], fun y hy => by
   rcases List.mem_append.1 hy with h' | h'
   · exact h.words y h'
   · rw [List.mem_singleton] at h'; subst h'; exact hx.1⟩
theorem ParsedC.no_place {text : List UInt8} {ws : List In4} {rest : List UInt8} (h : ParsedC text ws rest) (hr : rest ≠ []) (hn : ¬ ∃ x r, PlaceAt rest x r) : ¬ ∃ ys, codeOk ys ∧ text = codeText ys := by
 rintro ⟨ys, hok, ht⟩
 obtain ⟨tail, e1, e2⟩ := code_prefix ws ys rest h.words hok.1.words (by rw [← ht]; exact h.sound)
 cases tail with
 | nil => exact hr e2
 | cons x tail => exact hn ⟨x, codeText tail, hok.1.words x (by rw [e1]; simp), by rw [e2, codeText_cons]⟩
theorem ParsedC.too_many {text : List UInt8} {ws : List In4} {rest : List UInt8} (h : ParsedC text ws rest) (hw : 160 < ws.length) : ¬ ∃ ys, codeOk ys ∧ text = codeText ys := by
 rintro ⟨ys, hok, ht⟩
 obtain ⟨tail, e1, e2⟩ := code_prefix ws ys rest h.words hok.1.words (by rw [← ht]; exact h.sound)
 have := hok.1.2.1
 rw [e1] at this
 simp at this
 omega
theorem ParsedC.end_no {text : List UInt8} {ws : List In4} (h : ParsedC text ws []) (hw : ¬ waysOk ws) : ¬ ∃ ys, codeOk ys ∧ text = codeText ys := by
 rintro ⟨ys, hok, ht⟩
 obtain ⟨tail, e1, e2⟩ := code_prefix ws ys [] h.words hok.1.words (by rw [← ht]; exact h.sound)
 cases tail with
 | nil => rw [List.append_nil] at e1; exact hw (e1 ▸ hok.1)
 | cons x tail => exact absurd e2.symm (codeText_ne (by simp))
theorem ParsedC.end_yes {text : List UInt8} {ws : List In4} (h : ParsedC text ws []) (hw : waysOk ws) (hl : text.length ≤ 2600) : codeOk ws ∧ text = codeText ws := by
 have e : text = codeText ws := by have := h.sound; simpa using this
 exact ⟨⟨hw, e ▸ hl⟩, e⟩
theorem code_one {g h : List In4} (hg : codeOk g) (hh : codeOk h) (e : codeText g = codeText h) : g = h := by
 obtain ⟨tail, e1, e2⟩ := code_prefix h g [] hh.1.words hg.1.words (by rw [e]; simp)
 cases tail with
 | nil => simpa using e1
 | cons x tail => exact absurd e2.symm (codeText_ne (by simp))

def opOf (nm : List UInt8) : Int :=
 if nm = [108, 111, 97, 100] then 1 else if nm = [97, 110, 100] then 2 else if nm = [101, 113] then 3 else if nm = [103, 116] then 4 else if nm = [106, 117, 109, 112] then 5 else if nm = [101, 110, 100] then 6 else 0
def lineOf (l : List UInt8) : In4 :=
 ⟨opOf ((cut 32 l).getD 0 []), if 1 < (cut 32 l).length then numOf ((cut 32 l).getD 1 []) else 0, if (cut 32 l).length = 4 then numOf ((cut 32 l).getD 2 []) else 0, if (cut 32 l).length = 4 then numOf ((cut 32 l).getD 3 []) else 0⟩
theorem cut_word {b : UInt8} {a rest : List UInt8} (h : ∀ x ∈ a, x ≠ b) : cut b (a ++ b :: rest) = a :: cut b rest := by
 unfold cut; rw [cutGo_run a [] _ h, cutGo_hit]; simp
theorem cut_last {b : UInt8} {a : List UInt8} (h : ∀ x ∈ a, x ≠ b) : cut b a = [a] := by
 unfold cut
 have := cutGo_run a [] [] h
 rw [List.append_nil] at this
 rw [this]; simp [cutGo]
theorem opNm_no (op : Int) (b : UInt8) (hb : b.toNat < 97) : ∀ x ∈ opNm op, x ≠ b := by
 intro x hx e
 subst e
 unfold opNm at hx
 repeat' split at hx
 all_goals simp at hx
 all_goals (rcases hx with rfl | rfl | rfl | rfl <;> simp at hb) <;> skip
theorem opOf_nm {op : Int} (h : 1 ≤ op ∧ op ≤ 6) : opOf (opNm op) = op := by
 obtain rfl | rfl | rfl | rfl | rfl | rfl : op = 1 ∨ op = 2 ∨ op = 3 ∨ op = 4 ∨ op = 5 ∨ op = 6 := by omega
 all_goals decide
theorem lineOf_line {x : In4} (h : insWord x) : lineOf (insLine x) = x := by
 have hop := h.op
 have hk := itoa_no32 x.k h.1.1
 unfold insWord at h
 by_cases h34 : x.op = 3 ∨ x.op = 4
 · have hc : cut 32 (insLine x) = [opNm x.op, Lib.itoa x.k, Lib.itoa x.yes, Lib.itoa x.no] := by
     unfold insLine tailW
     rw [if_pos h34, cut_word (opNm_no x.op 32 (by decide)), cut_word hk, cut_word (itoa_no32 x.yes (by omega)), cut_last (itoa_no32 x.no (by omega))]
   unfold lineOf
   rw [hc]
   apply In4.ext'
   · simpa using opOf_nm hop
   · simpa using numOf_itoa x.k (by omega) (by omega)
   · simpa using numOf_itoa x.yes (by omega) (by omega)
   · simpa using numOf_itoa x.no (by omega) (by omega)
 · have hc : cut 32 (insLine x) = [opNm x.op, Lib.itoa x.k] := by
     unfold insLine tailW
     rw [if_neg h34, List.append_nil, cut_word (opNm_no x.op 32 (by decide)), cut_last hk]
   unfold lineOf
   rw [hc]
   apply In4.ext'
   · simpa using opOf_nm hop
   · simpa using numOf_itoa x.k (by omega) (by omega)
   · simp; omega
   · simp; omega
theorem digit_no10 {x : UInt8} (h : isDig x = true) : x ≠ 10 := fun e => by subst e; cases h
theorem insLine_no10 {x : In4} (h : insWord x) : ∀ b ∈ insLine x, b ≠ 10 := by
 have hd : ∀ n : Int, 0 ≤ n → ∀ b ∈ Lib.itoa n, b ≠ 10 := fun n hn b hb => digit_no10 (itoa_digits n hn b hb)
 unfold insWord at h
 intro b hb
 unfold insLine at hb
 rcases List.mem_append.1 hb with h1 | h1
 · exact opNm_no x.op 10 (by decide) b h1
 · rcases List.mem_cons.1 h1 with rfl | h1
   · decide
   · rcases List.mem_append.1 h1 with h1 | h1
     · exact hd _ (by omega) b h1
     · unfold tailW at h1
       split at h1
       · rcases List.mem_cons.1 h1 with rfl | h1
         · decide
         · rcases List.mem_append.1 h1 with h1 | h1
           · exact hd _ (by omega) b h1
           · rcases List.mem_cons.1 h1 with rfl | h1
             · decide
             · exact hd _ (by omega) b h1
       · simp at h1
theorem cut_code : ∀ (g : List In4), (∀ x ∈ g, insWord x) → cut 10 (codeText g) = g.map insLine ++ [[]]
 | [], _ => by simp [codeText, cut, cutGo]
 | x :: g, h => by
   have ih := cut_code g (fun y hy => h y (by simp [hy]))
   rw [codeText_cons, insText, List.append_assoc]
   show cut 10 (insLine x ++ 10 :: codeText g) = _
   rw [cut_word (insLine_no10 (h x (by simp))), ih]
   rfl
def codeOf (ps : List (List UInt8)) : List In4 := (ps.take (ps.length - 1)).map lineOf
theorem codeOf_text {g : List In4} (h : ∀ x ∈ g, insWord x) : codeOf (cut 10 (codeText g)) = g := by
 rw [cut_code g h]
 unfold codeOf
 have e : (g.map insLine ++ [[]]).take ((g.map insLine ++ [[]]).length - 1) = g.map insLine := by simp
 rw [e, List.map_map]
 have : ∀ x ∈ g, (lineOf ∘ insLine) x = x := fun x hx => lineOf_line (h x hx)
 exact (List.map_congr_left this).trans (by simp)

def CodePost (text : List UInt8) (e : TypeId) (w : World) (en : Ending) (w' : World) : Prop :=
 (∃ g v, codeOk g ∧ text = codeText g ∧ en = .returned (.tuple #[v, .bool true]) ∧ w'.ownsRow w.heap.size e 4 v g.length (insR g).flatten ∧ Below w.heap.size w w') ∨
 ((¬ ∃ g, codeOk g ∧ text = codeText g) ∧ ∃ v, en = .returned (.tuple #[v, .bool false]) ∧ w'.ownsRow w.heap.size e 4 v 0 [] ∧ Below w.heap.size w w')
theorem codeOf_step {ws : List (List UInt8)} {k : Nat} {l : List UInt8} (h : ws[k]? = some l) : insR ((ws.take (k + 1)).map lineOf) = insR ((ws.take k).map lineOf) ++ [(lineOf l).cells] := by
 rw [List.take_add_one, h]; simp [insR]
end Go.Proofs.YtdjgicapbpoigaaGreatDoor
