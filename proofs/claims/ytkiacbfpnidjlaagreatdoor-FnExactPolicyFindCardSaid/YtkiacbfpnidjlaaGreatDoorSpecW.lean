/- spec's near words: l13Put, l13Words. -/
import Derived.Test.YtkiacbfpnidjlaaGreatDoorWordsI
import Derived.Test.YtkiacbfpnidjlaaGreatDoorTxt
import Derived.Deep.CutBlock
namespace Go.Proofs.YtkiacbfpnidjlaaGreatDoor
open Go.RowKit
set_option linter.unusedSimpArgs false
set_option linter.unusedVariables false

theorem own_emptyN {W : World} {g base : Nat} {t : TypeId} {size : Nat} (h : Blk W g t #[]) (hb : base ≤ g) : W.ownsRow base t size (.slice (some ⟨g, 0, none⟩) 0 0) 0 [] :=
  ⟨by simp, .inr ⟨g, 0, #[], rfl, hb, h, Nat.le_refl _, Nat.zero_le _, by simp, by simp⟩⟩
theorem blk2N (w : World) (o : Obj) (t : TypeId) (cs : Array Value) : Blk ((w.alloc o).alloc (.cells cs t)) (w.heap.size + 1) t cs := by
  have h := Blk.new (w.alloc o) t cs
  rwa [World.size_alloc] at h
/-- 'append' inside a region, whatever world it stands in. -/
theorem step_appW {P : Program} {W : World} {ops : Array Oper} {o : Oper} {a : Act} {K : Act → World → Prop} {Q : Exit → Act → World → Prop} {E : Prop} (hgd : o.guard = none) (s x : Operand) (t : TypeId)
    (ho : o.op = .call { callee := .builtin .append, args := #[s, x], argTypes := #[t, t] })
    (base : Nat) (e : TypeId) {z : Value} {size bytes : Nat} (ht : P.underlying t = some (.slice e)) (hinfo : (P.info? e).map (fun i => (i.zero, i.size, i.bytes)) = some (some z, size, bytes))
    (hzs : z.cells.size = size) (hsz : 0 < size) (hby : 0 < bytes)
    (v : Value) (n : Nat) (cs : List Value) (hs : a.eval s = v) (ad : Addr) (m c : Nat) (r : List Value) (hx : a.eval x = .slice (some ad) m c)
    (hown : W.ownsRow base e size v n cs) (hc : ∀ j u, r[j]? = some u → W.cell? (ad.add j) = some u)
    (hr : r.length = m * size) (h1 : ∀ u ∈ r, u.oneCell' = true)
    (hn : (n + m) * bytes ≤ 140737488355328) (hbase : base ≤ W.heap.size)
    (h : ∀ v' w', w'.ownsRow base e size v' (n + m) (cs ++ r) → W.grownBy w' v.ownBlock → Below base W w' → K (a.put o.dst v') w') :
    if Region.wanted o (yielded ops a.tmps) = true then Oper.wp P o a W K Q else E := by
  have hw : Region.wanted o (yielded ops a.tmps) = true := by simp [Region.wanted, hgd]
  rw [if_pos hw]
  obtain ⟨i0, hi0, hz0, hz1, hz2⟩ := info_parts hinfo
  have hn1 : n + m ≤ 140737488355328 := Nat.le_trans (Nat.le_mul_of_pos_right _ hby) hn
  exact wp_append_own _ s x t ho base e i0 z size bytes ht hi0 hz0 hz1 hz2 hzs hsz v n cs hs hown ad m c r hx hr hc h1 (by unfold maxLen; omega) hn hbase (fun v' w' hown' hg hv => h v' w' hown' hg ((Below.refl base W).grown hg hbase (fun k hk => (hown.lt k hk).1)))
theorem one_ints (xs : List Int) : ∀ u ∈ xs.map (Value.int .i64), u.oneCell' = true := fun u hu => by
  obtain ⟨x, _, rfl⟩ := List.mem_map.1 hu; rfl
theorem src_ints {w : World} {g n cap base o : Nat} {xs : List Int} (h : w.ownsRow base 3 1 (.slice (some ⟨g, 0, none⟩) n cap) n (ints xs).flatten) {ys : List Int} (hy : ∀ (j : Nat) (y : Int), ys[j]? = some y → xs[o + j]? = some y) : ∀ (j : Nat) (u : Value), (ys.map (Value.int .i64))[j]? = some u → w.cell? ((⟨g, o, none⟩ : Addr).add j) = some u := fun j u hu => by
  rw [List.getElem?_map] at hu
  obtain ⟨y, hy1, rfl⟩ := Option.map_eq_some_iff.1 hu
  rw [show (⟨g, o, none⟩ : Addr).add j = ⟨g, o + j, none⟩ from by unfold Addr.add; split <;> simp_all]
  exact (own_int h (hy j y hy1)).1

theorem take_src {xs : List Int} {k : Nat} : ∀ (j : Nat) (y : Int), (xs.take k)[j]? = some y → xs[0 + j]? = some y := fun j y hy => by
  rw [List.getElem?_take] at hy
  split at hy
  · simpa using hy
  · cases hy
theorem drop_src {xs : List Int} {k : Nat} : ∀ (j : Nat) (y : Int), (xs.drop k)[j]? = some y → xs[k + j]? = some y := fun j y hy => by
  rwa [List.getElem?_drop] at hy
theorem one_src {W : World} {b : Nat} {n : Int} (h : Blk W b 3 #[.int .i64 n]) : ∀ (j : Nat) (u : Value), ([Value.int .i64 n])[j]? = some u → W.cell? ((⟨b, 0, none⟩ : Addr).add j) = some u := fun j u hu => by
  rw [add_at, h.cell j]
  simpa using hu

def PutPost (zs : List Int) (n : Int) (base : Nat) (w : World) (e : Ending) (w' : World) : Prop := ∃ v ys, e = .returned v ∧ w'.ownsRow base 3 1 v ys.length (ints ys).flatten ∧ WordsOf (zs ++ [n]) ys ∧ ys.length ≤ zs.length + 1 ∧ Below w.heap.size w w'

set_option maxRecDepth 100000 in
set_option maxHeartbeats 4000000 in
theorem l13Put_any (base : Nat) (v : Value) (zs xs : List Int) (n : Int) (w : World) (hO : w.ownsRow base 3 1 v xs.length (ints xs).flatten) (hbs : base ≤ w.heap.size) (hx0 : 0 < xs.length) (hxm : zs.length ≤ 10000) (hz : WordsOf zs xs) :
    Calls Tryz.prog 43 #[v, .int .i64 n] w (PutPost zs n base w) := by
  have hxz := hz.len
  obtain ⟨g, cap, rfl, hgb, hgl⟩ := hO.form hx0
  have hcap : xs.length ≤ cap ∧ cap ≤ 9223372036854775807 := by
    rcases hO.2 with ⟨h0, _⟩ | ⟨g', cap', cur, e1, _, _, hmc, hm, _, _⟩
    · cases h0
    · injection e1 with _ _ e3; subst e3; unfold maxLen at hm; exact ⟨hmc, by omega⟩
  obtain ⟨hc1, hc2⟩ := hcap
  have HO := Lib.hid hO; have HZ := Lib.hid hz; have HXZ := Lib.hid hxz
  clear hO hz hxz
  by_cases hw : wordB n = true
  · have hin : inB n 0 4294967295 = true := by have := wordB_iff.1 hw; simp [inB]; omega
    have HW := Lib.hid hw; clear hw
    go_enter Tryz.func43, Tryz.ntmps43
    go_wp2_with fail
    refine (l1In_any _ _ _ _).mono ?_; rintro e w1 ⟨rfl, rfl⟩
    rw [hin]
    clear hin
    go_wp2
    go_loopw [5] (fun i wr => ∃ k : Nat, k ≤ xs.length ∧ i = .int .i64 k ∧ wr = w ∧ Hid (∀ (j : Nat) (x : Int), j < k → xs[j]? = some x → x < n)) (fun i _ => xs.length - (intOf i).toNat)
    case atStart => exact ⟨0, Nat.zero_le _, rfl, rfl, Lib.hid (fun j x hj => absurd hj (by omega))⟩
    case round =>
      obtain ⟨k, hk, rfl, rfl, HL⟩ := hrel
      by_cases hlt : k < xs.length
      · have hki : (k : Int) < xs.length := by omega
        obtain ⟨x, hx⟩ : ∃ x, xs[k]? = some x := ⟨_, List.getElem?_eq_getElem hlt⟩
        have c0 := (own_int HO.out hx).1
        have HX := Lib.hid hx; clear hx
        by_cases hxn : x < n
        · have HXN := Lib.hid hxn
          go_wp2
          exact ⟨⟨k + 1, by omega, by go_num, by first | rfl | trivial, Lib.hid (fun j y hj hy => by
            by_cases e : j = k
            · subst e; rw [HX.out] at hy; cases hy; exact HXN.out
            · exact HL.out j y (by omega) hy)⟩, by simp [intOf]; try omega⟩
        · have hd : decide (x < n) = false := by simpa using hxn
          by_cases hxe : x = n
          · have he : (x == n) = true := by simp [hxe]
            have HXE := Lib.hid hxe; clear hxe hxn
            go_wp2
            go_ret
            exact ⟨_, xs, rfl, HO.out, HZ.out.there (by rw [← HXE.out]; exact List.mem_of_getElem? HX.out), by have := HXZ.out; omega, Below.refl _ _⟩
          · have he : (x == n) = false := by simp [hxe]
            have HGE : Hid (∀ y, xs[k]? = some y → n < y) := Lib.hid (fun y hy => by rw [HX.out] at hy; cases hy; omega)
            clear hxe hxn HX
            go_upto_region 8 with (fail)
            have hk1 : (k : Int) ≤ xs.length := by omega
            have hk2 : (k : Int) ≤ cap := by omega
            have hk3 : (0 : Int) ≤ k := by omega
            have hk4 : k ≤ cap := by omega
            have hk5 : ¬ cap = k := by omega
            have hx2 : xs.length ≤ 10000 := by have := HXZ.out; omega
            have T4 := Lib.hid True.intro; have T7 := Lib.hid True.intro; have T11 := Lib.hid True.intro
            go_region_law (first
              | (clear T4; (refine step_appW rfl (.tmp 37) (.tmp 40) _ rfl wr.heap.size 3 Tryz.underlying26 info_int rfl (by omega) (by omega) (.slice (some ⟨_, 0, none⟩) 0 0) 0 [] rfl ⟨g, 0, none⟩ k _ ((xs.take k).map (Value.int .i64)) rfl (by first | exact own_emptyN (Blk.drew (Blk.new _ _ _)) (Nat.le_refl _) | exact own_emptyN (Blk.drew ((Blk.new _ _ _).alloc _)) (Nat.le_refl _) | exact own_emptyN (Blk.drew (blk2N _ _ _ _)) (Nat.le_succ _)) (src_ints (o := 0) (own_below HO.out (by go_grown)) take_src) (by simp; try omega) (one_ints _) (by omega) (by first | (simp; done) | (simp; omega)) ?_); intro v4 w4 hown4 hg4 hb4; have hbw4 := Below.trans (B := wr.heap.size) (a := wr) (by go_grown) hb4; (first | (have hN : Blk w4 (wr.heap.size + 1) 3 #[.int .i64 n] := Blk.grown (Blk.drew (blk2N _ _ _ _)) hg4 (by simp [Value.ownBlock])) | (have hN : Blk w4 wr.heap.size 3 #[.int .i64 n] := Blk.grown (Blk.drew ((Blk.new _ _ _).alloc _)) hg4 (by simp [Value.ownBlock])) | skip))
              | (clear T7; (refine step_appW rfl (.tmp 41) (.tmp 43) _ rfl wr.heap.size 3 Tryz.underlying26 info_int rfl (by omega) (by omega) _ _ _ rfl ⟨_, 0, none⟩ 1 1 [.int .i64 n] rfl (by first | exact hown4 | exact hown4.alloc _) (by first | exact one_src hN | exact one_src (Blk.new _ _ _)) rfl (by simp [Value.oneCell']) (by omega) (by have h9 := hbw4.size; first | exact h9 | (simp; omega)) ?_); intro v7 w7 hown7 hg7 hb7; have hbw7 := Below.trans hbw4 (Below.trans (B := wr.heap.size) (a := w4) (by first | exact Below.refl _ _ | exact (Below.refl _ _).alloc hbw4.size _) hb7))
              | (clear T11; (refine step_appW rfl (.tmp 44) (.tmp 47) _ rfl wr.heap.size 3 Tryz.underlying26 info_int rfl (by omega) (by omega) _ _ _ rfl ⟨g, k, none⟩ (xs.length - k) _ ((xs.drop k).map (Value.int .i64)) rfl hown7 (src_ints (o := k) (own_below HO.out hbw7) drop_src) (by simp) (one_ints _) (by omega) hbw7.size ?_); intro v9 w9 hown9 hg9 hb9))
            all_goals go_wp2
            all_goals
              go_ret
              have hl : (xs.take k ++ n :: xs.drop k).length = 0 + k + 1 + (xs.length - k) := by simp; try omega
              have hf : (ints (xs.take k ++ n :: xs.drop k)).flatten = [] ++ (xs.take k).map (Value.int .i64) ++ [.int .i64 n] ++ (xs.drop k).map (Value.int .i64) := by rw [ints_flat]; simp
              refine ⟨_, xs.take k ++ n :: xs.drop k, rfl, ?_, HZ.out.put HW.out (by omega) HL.out HGE.out, by rw [hl]; have := HXZ.out; omega, hbw7.trans hb9⟩
              rw [hl, hf]
              exact own_base hown9 hbs
      · obtain rfl : k = xs.length := by omega
        have HGE : Hid (∀ y, xs[xs.length]? = some y → n < y) := Lib.hid (fun y hy => by simp at hy)
        go_upto_region 8 with (fail)
        have hk1 : (xs.length : Int) ≤ xs.length := by omega
        have hk2 : (xs.length : Int) ≤ cap := by omega
        have hk3 : (0 : Int) ≤ xs.length := by omega
        have hk4 : xs.length ≤ cap := by omega
        by_cases hk5 : cap = xs.length
        all_goals
          have hx2 : xs.length ≤ 10000 := by have := HXZ.out; omega
          have T4 := Lib.hid True.intro; have T7 := Lib.hid True.intro; have T11 := Lib.hid True.intro
          go_region_law (first
            | (clear T4; (refine step_appW rfl (.tmp 37) (.tmp 40) _ rfl wr.heap.size 3 Tryz.underlying26 info_int rfl (by omega) (by omega) (.slice (some ⟨_, 0, none⟩) 0 0) 0 [] rfl ⟨g, 0, none⟩ xs.length _ ((xs.take xs.length).map (Value.int .i64)) rfl (by first | exact own_emptyN (Blk.drew (Blk.new _ _ _)) (Nat.le_refl _) | exact own_emptyN (Blk.drew ((Blk.new _ _ _).alloc _)) (Nat.le_refl _) | exact own_emptyN (Blk.drew (blk2N _ _ _ _)) (Nat.le_succ _)) (src_ints (o := 0) (own_below HO.out (by go_grown)) take_src) (by simp; try omega) (one_ints _) (by omega) (by first | (simp; done) | (simp; omega)) ?_); intro v4 w4 hown4 hg4 hb4; have hbw4 := Below.trans (B := wr.heap.size) (a := wr) (by go_grown) hb4; (first | (have hN : Blk w4 (wr.heap.size + 1) 3 #[.int .i64 n] := Blk.grown (Blk.drew (blk2N _ _ _ _)) hg4 (by simp [Value.ownBlock])) | (have hN : Blk w4 wr.heap.size 3 #[.int .i64 n] := Blk.grown (Blk.drew ((Blk.new _ _ _).alloc _)) hg4 (by simp [Value.ownBlock])) | skip))
            | (clear T7; (refine step_appW rfl (.tmp 41) (.tmp 43) _ rfl wr.heap.size 3 Tryz.underlying26 info_int rfl (by omega) (by omega) _ _ _ rfl ⟨_, 0, none⟩ 1 1 [.int .i64 n] rfl (by first | exact hown4 | exact hown4.alloc _) (by first | exact one_src hN | exact one_src (Blk.new _ _ _)) rfl (by simp [Value.oneCell']) (by omega) (by have h9 := hbw4.size; first | exact h9 | (simp; omega)) ?_); intro v7 w7 hown7 hg7 hb7; have hbw7 := Below.trans hbw4 (Below.trans (B := wr.heap.size) (a := w4) (by first | exact Below.refl _ _ | exact (Below.refl _ _).alloc hbw4.size _) hb7))
            | (clear T11; (refine step_appW rfl (.tmp 44) (.tmp 47) _ rfl wr.heap.size 3 Tryz.underlying26 info_int rfl (by omega) (by omega) _ _ _ rfl ⟨g, _, none⟩ 0 _ [] rfl hown7 (fun j u hu => by simp at hu) rfl (fun u hu => by simp at hu) (by omega) hbw7.size ?_); intro v9 w9 hown9 hg9 hb9))
          all_goals go_wp2
          all_goals
            go_ret
            have hl : (xs.take xs.length ++ n :: xs.drop xs.length).length = 0 + xs.length + 1 + 0 := by simp; try omega
            have hf : (ints (xs.take xs.length ++ n :: xs.drop xs.length)).flatten = [] ++ (xs.take xs.length).map (Value.int .i64) ++ [.int .i64 n] ++ [] := by rw [ints_flat]; simp
            refine ⟨_, xs.take xs.length ++ n :: xs.drop xs.length, rfl, ?_, HZ.out.put HW.out (by omega) HL.out HGE.out, by rw [hl]; have := HXZ.out; omega, hbw7.trans hb9⟩
            rw [hl, hf]
            exact own_base hown9 hbs
  · have hin : inB n 0 4294967295 = false := by
      have h1 : ¬ (0 ≤ n ∧ n ≤ 4294967295) := fun h => hw (wordB_iff.2 h)
      simp only [inB, decide_eq_false_iff_not]; exact h1
    have HW := Lib.hid (show wordB n = false by simpa using hw); clear hw
    go_enter Tryz.func43, Tryz.ntmps43
    go_wp2_with fail
    refine (l1In_any _ _ _ _).mono ?_; rintro e w1 ⟨rfl, rfl⟩
    rw [hin]
    go_wp2
    go_ret
    exact ⟨_, xs, rfl, HO.out, HZ.out.no HW.out, by have := HXZ.out; omega, Below.refl _ _⟩
end Go.Proofs.YtkiacbfpnidjlaaGreatDoor
