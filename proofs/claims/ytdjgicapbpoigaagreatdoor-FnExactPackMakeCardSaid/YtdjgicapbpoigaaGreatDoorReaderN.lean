/- impl's reader of texts: skip, number (XReader without done, for a seat in which nothing reaches it). -/
import Derived.Test.YtdjgicapbpoigaaGreatDoorTxt
import Derived.Test.YtdjgicapbpoigaaGreatDoorShelf
import Derived.Deep.DeepFit
namespace Go.Proofs.YtdjgicapbpoigaaGreatDoor
open Go.RowKit
set_option linter.unusedSimpArgs false
set_option linter.unusedVariables false

theorem skip_any (s p : ByteArray) (g o : Nat) (w : World) (hc : w.cell? ⟨g, o, none⟩ = some (.string s)) (hf : w.frozen? ⟨g, o, none⟩ = false) :
   Calls Tryz.prog 75 #[.pointer (some ⟨g, o, none⟩), .string p] w fun e w' =>
     e = .returned (.bool (Lib.hasPrefix s.data.toList p.data.toList)) ∧ w' = w.setCell ⟨g, o, none⟩ (.string ⟨(Lib.trimPrefix s.data.toList p.data.toList).toArray⟩) := by
 go_enter Tryz.func75, Tryz.ntmps75
 go_wp2_with (go_at_call 113; refine (Go.Proofs.Tryz.strings_CutPrefix _ _ _).mono ?_; rintro e w' ⟨rfl, rfl⟩)
 go_ret
 exact ⟨rfl, rfl⟩

theorem hasPrefix_iff {l p : List UInt8} : Lib.hasPrefix l p = true ↔ ∃ t, l = p ++ t := by
 unfold Lib.hasPrefix
 rw [List.isPrefixOf_iff_prefix]
 exact ⟨fun ⟨t, h⟩ => ⟨t, h.symm⟩, fun ⟨t, h⟩ => ⟨t, h.symm⟩⟩
theorem skip_yes (s p : ByteArray) (t : List UInt8) (g o : Nat) (w : World) (hc : w.cell? ⟨g, o, none⟩ = some (.string s)) (hf : w.frozen? ⟨g, o, none⟩ = false) (h : s.data.toList = p.data.toList ++ t) :
   Calls Tryz.prog 75 #[.pointer (some ⟨g, o, none⟩), .string p] w fun e w' =>
     e = .returned (.bool true) ∧ w' = w.setCell ⟨g, o, none⟩ (.string ⟨t.toArray⟩) := by
 refine (skip_any s p g o w hc hf).mono fun e w' ⟨he, hw⟩ => ?_
 have hp : Lib.hasPrefix s.data.toList p.data.toList = true := hasPrefix_iff.2 ⟨t, h⟩
 rw [hp] at he
 refine ⟨he, hw.trans ?_⟩
 unfold Lib.trimPrefix
 rw [if_pos hp, h, List.drop_left]
theorem skip_no (s p : ByteArray) (g o : Nat) (w : World) (hc : w.cell? ⟨g, o, none⟩ = some (.string s)) (hf : w.frozen? ⟨g, o, none⟩ = false) (h : ¬ ∃ t, s.data.toList = p.data.toList ++ t) :
   Calls Tryz.prog 75 #[.pointer (some ⟨g, o, none⟩), .string p] w fun e w' =>
     e = .returned (.bool false) ∧ w' = w.setCell ⟨g, o, none⟩ (.string s) := by
 refine (skip_any s p g o w hc hf).mono fun e w' ⟨he, hw⟩ => ?_
 have hp : Lib.hasPrefix s.data.toList p.data.toList = false := by rw [← Bool.not_eq_true, hasPrefix_iff]; exact h
 rw [hp] at he
 refine ⟨he, hw.trans ?_⟩
 unfold Lib.trimPrefix
 rw [if_neg (by rw [hp]; simp)]

def NumPost (most : Int) (s : ByteArray) (g o : Nat) (w : World) (e : Ending) (w' : World) : Prop :=
 (∃ v r, NumAt most s.data.toList v r ∧ e = .returned (.tuple #[.int .i64 v, .bool true]) ∧ w' = w.setCell ⟨g, o, none⟩ (.string ⟨r.toArray⟩)) ∨
 ((¬ ∃ v r, NumAt most s.data.toList v r) ∧ e = .returned (.tuple #[.int .i64 0, .bool false]) ∧ (w' = w ∨ w' = w.setCell ⟨g, o, none⟩ (.string s)))
theorem NumPost.yes {most : Int} {s : ByteArray} {g o : Nat} {w w' : World} {v : Int} {r : List UInt8} (h : NumAt most s.data.toList v r) (hw : w' = w.setCell ⟨g, o, none⟩ (.string ⟨r.toArray⟩)) : NumPost most s g o w (.returned (.tuple #[.int .i64 v, .bool true])) w' := .inl ⟨v, r, h, rfl, hw⟩
theorem NumPost.no {most : Int} {s : ByteArray} {g o : Nat} {w w' : World} (h : ¬ ∃ v r, NumAt most s.data.toList v r) (hw : w' = w ∨ w' = w.setCell ⟨g, o, none⟩ (.string s)) : NumPost most s g o w (.returned (.tuple #[.int .i64 0, .bool false])) w' := .inr ⟨h, rfl, hw⟩

theorem NumPost.finish {most : Int} {s : ByteArray} {g o : Nat} {w : World} {k : Nat} (hk : k ≤ s.size) (hd : ∀ x ∈ s.data.toList.take k, isDig x = true) (hz : 1 < k → s.data.toList[0]? ≠ some 48) (hm : valOn 0 (s.data.toList.take k) ≤ most) (hn : noDig (s.data.toList.drop k)) :
   NumPost most s g o w (.returned (.tuple #[.int .i64 (valOn 0 (s.data.toList.take k)), .bool (decide (0 < k))])) (w.setCell ⟨g, o, none⟩ (.string (s.extract k s.size))) := by
 have hlen : s.data.toList.length = s.size := by simp
 by_cases h : k = 0
 · subst h
   have e : s.extract 0 s.size = s := by simp
   rw [e]
   exact NumPost.no (no_num_none (by simpa using hn)) (.inr rfl)
 · rw [show decide (0 < k) = true by simp; omega]
   refine NumPost.yes (num_yes (by omega) (by omega) hd hz hm hn) ?_
   rw [Lib.extract_eq, List.take_of_length_le (by simp)]

set_option maxHeartbeats 1000000 in
theorem number_any (most : Int) (s : ByteArray) (g o : Nat) (w : World) (hc : w.cell? ⟨g, o, none⟩ = some (.string s)) (hf : w.frozen? ⟨g, o, none⟩ = false) (hs : s.size ≤ 1152921504606846976) (h0 : 0 ≤ most) (h1 : most ≤ 4294967295) :
   Calls Tryz.prog 94 #[.pointer (some ⟨g, o, none⟩), .int .i64 most] w (NumPost most s g o w) := by
 have hlen : s.data.toList.length = s.size := by simp
 have HLEN := Lib.hid hlen; clear hlen
 go_enter Tryz.func94, Tryz.ntmps94
 go_wp2
 go_loop [6, 7] (fun v i => ∃ k : Nat, k ≤ s.size ∧ i = .int .i64 k ∧ v = .int .i64 (valOn 0 (s.data.toList.take k)) ∧ valOn 0 (s.data.toList.take k) ≤ most ∧ Hid (∀ x ∈ s.data.toList.take k, isDig x = true) ∧ Hid (1 < k → s.data.toList[0]? ≠ some 48)) (fun _ i => s.size - (intOf i).toNat)
 case atStart => exact ⟨0, Nat.zero_le _, rfl, rfl, h0, by simp [Hid], by simp [Hid]⟩
 case round =>
   obtain ⟨k, hk, rfl, rfl, hm, hd, hz⟩ := hrel
   have hv0 := (valOn_bd (s.data.toList.take k) 0 (by omega) hd.out).1
   by_cases hlt : k < s.size
   · have ht : s.data.toList.take (k + 1) = s.data.toList.take k ++ [s[k]] := by
       rw [List.take_succ_eq_append_getElem (by rw [HLEN.out]; exact hlt)]; rfl
     have HT := Lib.hid ht; clear ht
     by_cases hdig : isDig s[k] = true
     · have hall : ∀ x ∈ s.data.toList.take (k + 1), isDig x = true := fun x hx => by
         rw [HT.out] at hx
         rcases List.mem_append.1 hx with h | h
         · exact hd.out x h
         · rw [List.mem_singleton] at h; rw [h]; exact hdig
       have hx := isDig_iff.1 hdig
       obtain ⟨x1, x2⟩ := hx
       have x3 : (48 : Int) ≤ s[k].toNat := by omega
       have x4 : (s[k].toNat : Int) ≤ 57 := by omega
       have hval : valOn 0 (s.data.toList.take (k + 1)) = valOn 0 (s.data.toList.take k) * 10 + ((s[k].toNat : Int) - 48) := by rw [HT.out, valOn_snoc]
       have HA := Lib.hid hall; have HV := Lib.hid hval; clear hall hval hdig
       by_cases b1 : 0 < k ∧ valOn 0 (s.data.toList.take k) = 0
       · have hno := no_num_zero (most := most) (l := s.data.toList) (k := k) (by rw [HLEN.out]; exact hlt) b1.1 HA.out b1.2
         obtain ⟨b2, b3⟩ := b1
         have b4 : (0 : Int) < k := by omega
         have b5 : (valOn 0 (s.data.toList.take k) == 0) = true := by simp [b3]
         have HN := Lib.hid hno; clear hno b3
         go_wp2
         go_ret2
         exact NumPost.no HN.out (.inl rfl)
       · have b2 : ¬ ((0 : Int) < k ∧ valOn 0 (s.data.toList.take k) = 0) := fun h => b1 ⟨by omega, h.2⟩
         have b3 : ¬ (0 : Int) < k ∨ ((0 : Int) < k ∧ (valOn 0 (s.data.toList.take k) == 0) = false) := by
           by_cases h : (0 : Int) < k
           · exact .inr ⟨h, by simpa using fun e => b2 ⟨h, e⟩⟩
           · exact .inl h
         have hz0 : 1 < k + 1 → s.data.toList[0]? ≠ some 48 := fun _ => by
           intro e0
           by_cases hk1 : 1 < k
           · exact hz.out hk1 e0
           · have hk2 : k = 1 := by omega
             subst hk2
             apply b2
             refine ⟨by omega, ?_⟩
             cases hl : s.data.toList with
             | nil => rw [hl] at e0; cases e0
             | cons x l =>
               rw [hl] at e0
               simp at e0
               subst e0
               rfl
         clear b1 b2
         have HZ := Lib.hid hz0; clear hz0
         rcases b3 with b4 | ⟨b4, b5⟩
         all_goals
           by_cases c1 : (s[k].toNat : Int) - 48 ≤ most
           · by_cases c2 : valOn 0 (s.data.toList.take k) ≤ (most - ((s[k].toNat : Int) - 48)) / 10
             · go_wp2
               refine ⟨⟨k + 1, by omega, by go_num, by rw [HV.out], by rw [HV.out]; omega, HA.out, HZ.out⟩, by simp [intOf]; omega⟩
             · have hno := no_num_over (most := most) (l := s.data.toList) (k := k + 1) (by rw [HLEN.out]; exact hlt) HA.out (by rw [HV.out]; omega)
               have HN := Lib.hid hno; clear hno
               go_wp2
               all_goals (go_ret2; exact NumPost.no HN.out (.inl rfl))
           · have hno := no_num_over (most := most) (l := s.data.toList) (k := k + 1) (by rw [HLEN.out]; exact hlt) HA.out (by rw [HV.out]; omega)
             have HN := Lib.hid hno; clear hno
             go_wp2
             all_goals (go_ret2; exact NumPost.no HN.out (.inl rfl))
     · have hend : noDig (s.data.toList.drop k) := fun x hx => by
         rw [List.getElem?_drop, Nat.add_zero, List.getElem?_eq_getElem (by rw [HLEN.out]; exact hlt)] at hx
         have : s[k] = x := Option.some.inj hx
         rw [← this]; simpa using hdig
       have hx : ¬ (48 ≤ s[k].toNat ∧ s[k].toNat ≤ 57) := fun h => hdig (isDig_iff.2 h)
       have HE := Lib.hid hend; clear hend hdig
       by_cases x1 : (s[k].toNat : Int) < 48
       · clear hx
         go_wp2
         go_ret2
         exact NumPost.finish hk hd.out hz.out hm HE.out
       · have x2 : (57 : Int) < s[k].toNat := by omega
         clear hx
         go_wp2
         go_ret2
         exact NumPost.finish hk hd.out hz.out hm HE.out
   · have hend : noDig (s.data.toList.drop k) := fun x hx => by rw [List.drop_eq_nil_of_le (by rw [HLEN.out]; omega)] at hx; simp at hx
     have HE := Lib.hid hend; clear hend
     go_wp2
     go_ret2
     exact NumPost.finish hk hd.out hz.out hm HE.out
end Go.Proofs.YtdjgicapbpoigaaGreatDoor
