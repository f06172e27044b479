/- The program's reader of lines: (*reader).lines. -/
import Derived.Test.YtlodcjpoamaemaaDoorPackI
import Derived.Lib.IndexLaws
namespace Go.Proofs.YtlodcjpoamaemaaDoor
open Go.RowKit
set_option linter.unusedSimpArgs false
set_option linter.unusedVariables false

def LinePost (n : Nat) (s : ByteArray) (g o : Nat) (w : World) (e : Ending) (w' : World) : Prop :=
  (∃ r t, TakeL n s.data.toList r t ∧ e = .returned (.tuple #[.string ⟨r.toArray⟩, .bool true]) ∧ w' = w.setCell ⟨g, o, none⟩ (.string ⟨t.toArray⟩)) ∨
  ((¬ ∃ r t, TakeL n s.data.toList r t) ∧ e = .returned (.tuple #[.string ⟨#[]⟩, .bool false]) ∧ w' = w)
theorem LinePost.yes {n : Nat} {s : ByteArray} {g o : Nat} {w w' : World} {r t : List UInt8} {u x : ByteArray} (h : TakeL n s.data.toList r t) (hu : u = ⟨r.toArray⟩) (hx : x = ⟨t.toArray⟩) (hw : w' = w.setCell ⟨g, o, none⟩ (.string x)) : LinePost n s g o w (.returned (.tuple #[.string u, .bool true])) w' := .inl ⟨r, t, h, by rw [hu], by rw [hw, hx]⟩
theorem LinePost.no {n : Nat} {s : ByteArray} {g o : Nat} {w : World} (h : ¬ ∃ r t, TakeL n s.data.toList r t) : LinePost n s g o w (.returned (.tuple #[.string ⟨#[]⟩, .bool false])) w := .inr ⟨h, rfl, rfl⟩
theorem takeL_next {l : List UInt8} {i k j : Nat} (h : TakeL i l (l.take k) (l.drop k)) (h1 : (l.drop k)[j]? = some 10) (h2 : ∀ q : Nat, q < j → (l.drop k)[q]? ≠ some 10) : TakeL (i + 1) l (l.take (k + j + 1)) (l.drop (k + j + 1)) := by
  rw [List.getElem?_drop] at h1
  have hlt := (List.getElem?_eq_some_iff.1 h1).1
  have e1 : l.take (k + j + 1) = l.take k ++ ((l.drop k).take j ++ [10]) := by
    rw [List.take_add_one, h1, List.take_add]
    simp
  have hno : cnt10 ((l.drop k).take j) = 0 := cnt10_no fun x hx e => by
    obtain ⟨q, hq⟩ := List.mem_iff_getElem?.1 hx
    rw [List.getElem?_take] at hq
    split at hq
    · rename_i hqj
      exact h2 q hqj (by rw [hq, e])
    · cases hq
  refine ⟨(List.take_append_drop _ _).symm, ?_, .inr ?_⟩
  · rw [e1, cnt10_append, cnt10_append, h.2.1, hno]; rfl
  · rw [e1, last_app _ (by simp), last_app _ (by simp)]; rfl
theorem takeL_none {l : List UInt8} {i k n : Nat} (h : TakeL i l (l.take k) (l.drop k)) (h1 : ∀ q : Nat, (l.drop k)[q]? ≠ some 10) (hin : i < n) : ¬ ∃ r t, TakeL n l r t := by
  rintro ⟨r, t, e, hn, _⟩
  have h0 : cnt10 (l.drop k) = 0 := cnt10_no fun x hx e => by
    obtain ⟨q, hq⟩ := List.mem_iff_getElem?.1 hx
    exact h1 q (by rw [hq, e])
  have hl : cnt10 l = i := by
    have := cnt10_append (l.take k) (l.drop k)
    rw [List.take_append_drop, h.2.1, h0] at this
    exact this
  have h2 := cnt10_append r t
  rw [← e, hn, hl] at h2
  omega

set_option maxHeartbeats 2000000 in
theorem lines_any (n : Nat) (s : ByteArray) (g o : Nat) (w : World) (hc : w.cell? ⟨g, o, none⟩ = some (.string s)) (hf : w.frozen? ⟨g, o, none⟩ = false) (hs : s.size ≤ 1048576) (hn : n ≤ 1048576) :
    Calls Tryd.prog 27 #[.pointer (some ⟨g, o, none⟩), .int .i64 n] w (LinePost n s g o w) := by
  have hlen : s.data.toList.length = s.size := by simp
  have HLEN := Lib.hid hlen; clear hlen
  go_enter Tryd.func27, Tryd.ntmps27
  go_wp2
  go_loop [6, 10] (fun v i => ∃ k m : Nat, m ≤ n ∧ k ≤ s.size ∧ i = .int .i64 m ∧ v = .int .i64 k ∧ Hid (TakeL m s.data.toList (s.data.toList.take k) (s.data.toList.drop k))) (fun _ i => n - (intOf i).toNat)
  case atStart => exact ⟨0, 0, by omega, by omega, rfl, rfl, Lib.hid ⟨rfl, rfl, .inl rfl⟩⟩
  case round =>
    obtain ⟨k, m, hm, hk, rfl, rfl, HT⟩ := hrel
    by_cases hlt : m < n
    · have hmi : (m : Int) < n := by omega
      have hki : (k : Int) ≤ s.size := by omega
      have HX := Lib.hid (show (s.extract k s.size).data.toList = s.data.toList.drop k by rw [Lib.extract_eq, List.take_of_length_le (by simp)])
      have HLM := Lib.hid hlt
      have HKS := Lib.hid hk
      clear hlt
      go_wp2_with fail
      refine (Go.Proofs.Tryd.strings_IndexByte (s.extract k s.size) 10 _).mono ?_; rintro e w' ⟨rfl, rfl⟩
      rw [HX.out]
      have hge := Lib.indexByte_ge (s.data.toList.drop k) 10
      obtain ⟨j, hj⟩ : ∃ j, j = Lib.indexByte (s.data.toList.drop k) 10 := ⟨_, rfl⟩
      rw [show ((10 : Int).toNat.toUInt8) = (10 : UInt8) from rfl, ← hj]
      rw [← hj] at hge
      by_cases hj0 : j < 0
      · have HNO := Lib.hid (takeL_none HT.out (Lib.indexByte_none (by rw [← hj]; omega)) HLM.out)
        clear hj hge
        go_wp2
        go_ret2
        exact LinePost.no HNO.out
      · obtain ⟨q, rfl⟩ := Int.eq_ofNat_of_zero_le (show 0 ≤ j by omega)
        obtain ⟨e1, e2⟩ := Lib.indexByte_some hj.symm
        have hql := (List.getElem?_eq_some_iff.1 e1).1
        rw [List.length_drop, HLEN.out] at hql
        have HNX := Lib.hid (takeL_next HT.out e1 e2)
        clear hj hge e1 e2
        go_wp2
        have hlm := HLM.out
        exact ⟨⟨k + q + 1, m + 1, by omega, by omega, by go_num, by go_num, HNX⟩, by simp [intOf]; omega⟩
    · obtain rfl : m = n := by omega
      have hmi : ¬ (m : Int) < m := by omega
      have hki : (k : Int) ≤ s.size := by omega
      have HX := Lib.hid (show s.extract k s.size = ⟨(s.data.toList.drop k).toArray⟩ by rw [Lib.extract_eq, List.take_of_length_le (by simp)])
      have HY := Lib.hid (show s.extract 0 k = ⟨(s.data.toList.take k).toArray⟩ by rw [Lib.extract_eq]; simp)
      go_wp2
      go_ret2
      exact LinePost.yes HT.out HY.out HX.out rfl
end Go.Proofs.YtlodcjpoamaemaaDoor
