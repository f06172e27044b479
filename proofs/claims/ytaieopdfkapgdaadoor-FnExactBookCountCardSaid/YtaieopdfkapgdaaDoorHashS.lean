/- The reference's sum: spec.l1Sum. -/
import Derived.Test.YtaieopdfkapgdaaDoorHashB
import Derived.Test.YtaieopdfkapgdaaDoorHashD
namespace Go.Proofs.YtaieopdfkapgdaaDoor
open Go.RowKit
set_option linter.unusedSimpArgs false
set_option linter.unusedVariables false

/-- 'append(out, x, y, ..)' inside a region that draws. -/
theorem step_appNg {P : Program} {w0 : World} {ops : Array Oper} {o : Oper} {a : Act} {K : Act → World → Prop} {Q : Exit → Act → World → Prop} {E : Prop} {e2 : TypeId} {r : List Value} (m : Nat) (hgd : o.guard = none) (s x : Operand) (t : TypeId)
    (ho : o.op = .call { callee := .builtin .append, args := #[s, x], argTypes := #[t, t] })
    (base : Nat) (e : TypeId) {z : Value} {size bytes : Nat} (ht : P.underlying t = some (.slice e)) (hinfo : (P.info? e).map (fun i => (i.zero, i.size, i.bytes)) = some (some z, size, bytes))
    (hzs : z.cells.size = size) (hsz : 0 < size) (hby : 0 < bytes)
    (v : Value) (n : Nat) (cs : List Value) (hs : a.eval s = v) (hown : w0.ownsRow base e size v n cs)
    (hr : r.length = m * size) (h1 : ∀ u ∈ r, u.oneCell' = true) (hx : a.eval x = .slice (some ⟨w0.heap.size, 0, none⟩) m m)
    (hn : (n + m) * bytes ≤ 140737488355328) (hbase : base ≤ w0.heap.size)
    (h : ∀ v' w', w'.ownsRow base e size v' (n + m) (cs ++ r) → w0.grownBy w' v.ownBlock → K (a.put o.dst v') w') :
    if Region.wanted o (yielded ops a.tmps) = true then Oper.wp P o a (w0.alloc (.cells r.toArray e2)) K Q else E := by
  have hw : Region.wanted o (yielded ops a.tmps) = true := by simp [Region.wanted, hgd]
  rw [if_pos hw]
  obtain ⟨i0, hi0, hz0, hz1, hz2⟩ := info_parts hinfo
  have hn1 : n + m ≤ 140737488355328 := Nat.le_trans (Nat.le_mul_of_pos_right _ hby) hn
  refine wp_append_own _ s x t ho base e i0 z size bytes ht hi0 hz0 hz1 hz2 hzs hsz v n cs hs (hown.alloc _) ⟨w0.heap.size, 0, none⟩ m m r hx hr (fun j u hu => ?_) h1 (by unfold maxLen; omega) hn
    (by simp; omega) (fun v' w' hown' hg hv => h v' w' hown' ((World.grownBy_alloc w0 _ _).trans hg))
  rw [add_at, cell_of_row _ _ _ r.toArray e2 (0, 0) (heap_alloc_new w0 _)]
  simpa using hu

/-- 'string(b)' of a row of the call's own. -/
theorem conv_back {w : World} {base g c : Nat} {l : List UInt8} {n : Nat} (hn : l.length = n) (h : w.ownsRow base 5 1 (.slice (some ⟨g, 0, none⟩) n c) n (l.map u8V)) :
    (convert 22 9 (.slice (some ⟨g, 0, none⟩) n c)).run Tryd.prog w = .ok (.string ⟨l.toArray⟩) w := by
  subst hn
  refine run_convert_bytes_back w 22 9 5 ⟨g, 0, none⟩ c l Tryd.underlying22 Tryd.underlying5 Tryd.underlying9 (fun j hj => ?_)
  exact h.cells (g := g) rfl j (.int .u8 (l[j].toNat : Int)) (by rw [List.getElem?_map, List.getElem?_eq_getElem hj]; rfl)

/-- A part of a row of bytes. -/
theorem sl_part {w : World} {base g n c i m : Nat} {l : List UInt8} (h : MRow w base 5 (.slice (some ⟨g, 0, none⟩) n c) n (l.map u8V)) (him : i + m ≤ n) (hc : m ≤ c - i) (hnc : c ≤ maxLen) : Sl w 1 (.slice (some ⟨g, i, none⟩) m (c - i)) (bts ((l.drop i).take m)) := by
  have hl : l.length = n := by have := h.1; rwa [List.length_map] at this
  refine ⟨_, _, _, rfl, ⟨by rw [bts_len, List.length_take, List.length_drop]; omega, hc, by omega, fun hm => ⟨g, i, rfl, ?_, fun k r hr j x hx => ?_⟩⟩⟩
  · obtain ⟨g', cap, e, _, hlt, _⟩ := h.form
    injection e with e _ _
    injection e with e
    injection e with e _ _
    subst e
    exact hlt
  · unfold bts at hr
    rw [List.getElem?_map] at hr
    obtain ⟨b, hb, rfl⟩ := Option.map_eq_some_iff.1 hr
    have hj : j = 0 := by have := (List.getElem?_eq_some_iff.1 hx).1; simpa using this
    subst hj
    rw [List.getElem?_take] at hb
    split at hb
    · rw [List.getElem?_drop] at hb
      rw [Nat.mul_one, Nat.add_zero]
      refine h.cells ?_
      rw [List.getElem?_map, hb]
      simpa using hx
    · cases hb

set_option maxHeartbeats 2000000 in
theorem l1Sum_any (s : ByteArray) (w : World) (hs : s.size ≤ 16777216) :
    Calls Tryd.prog 58 #[.string s] w fun e w' => e = .returned (.string ⟨(sumOf s.data.toList).toArray⟩) ∧ Below w.heap.size w w' := by
  obtain ⟨l, hl⟩ : ∃ l, l = s.data.toList := ⟨_, rfl⟩
  have hll : l.length ≤ 16777216 := by rw [hl]; exact hs
  obtain ⟨N, hN⟩ : ∃ N, N = (padded l).length / 64 := ⟨_, rfl⟩
  have hM : (padded l).length = 64 * N := by have := padded_mod l; omega
  have hN2 : N ≤ 262200 := by have := padded_len l; have := zerosFor_lt l.length; omega
  have HP := fun W => l1Padded_any s W hs
  have HS := Lib.hid (show sumOf s.data.toList = bytesW (sumTo (padded l) N) by rw [← hl, hN]; rfl)
  rw [← hl] at HP
  have HPh := Lib.hid HP
  have HM := Lib.hid hM
  clear hM hN hl HP
  have hO0 := Lib.hid (World.ownsRow_lit (base := w.heap.size) (e := 96) (size := 1) w (h0W.map (Value.int .u32)).toArray 8 (Nat.le_refl _) (by unfold maxLen; omega) rfl)
  go_enter Tryd.func58, Tryd.ntmps58
  go_wp2_with fail
  refine (HPh.out _).mono ?_; rintro e w1 ⟨v1, rfl, m1, b1⟩
  obtain ⟨g, cap, rfl, hg1, hg2, hnc, hcm⟩ := m1.form
  rw [HM.out] at hnc m1
  rw [HM.out]
  have hb0 : Below w.heap.size w w1 := below_step (by go_grown) (by simp) b1
  have HM1 := Lib.hid m1
  have hS0 : Hid (Sl w1 1 (.slice (some ⟨w.heap.size, 0, none⟩) 8 8) (wds (sumTo (padded l) 0).row)) := by
    refine (SlA.of_own (base := w.heap.size) (e := 96) (n := 8) (cs := wds (sumTo (padded l) 0).row) ?_ rfl (wds_rows _)).below b1
    exact hO0.out
  unfold maxLen at hcm
  clear m1 b1 hO0
  obtain ⟨V, HVw⟩ : ∃ V, Hid (V = w1) := ⟨_, rfl⟩
  go_wp2
  go_loopw [3, 5] (fun h i wr => ∃ k : Nat, k ≤ N ∧ i = .int .i64 (64 * (k : Int)) ∧ Hid (Sl wr 1 h (wds (sumTo (padded l) k).row)) ∧ Below w.heap.size w wr ∧ Below w1.heap.size w1 wr) (fun _ i _ => 64 * N - (intOf i).toNat)
  case atStart => exact ⟨0, by omega, rfl, hS0, hb0, Below.refl _ _⟩
  case round =>
    clear hS0 hb0
    obtain ⟨k, hk, rfl, HH, hb, hb1⟩ := hrel
    by_cases hlt : k < N
    · obtain ⟨A, n8, c8, rfl, hA⟩ := id HH.out
      clear hA
      have HBL := Lib.hid (sl_part (i := 64 * k) (m := 64) (l := padded l) (HM1.out.below hb1) (by omega) (by omega) (by unfold maxLen; omega))
      have hlt2 : 64 * (k : Int) < 64 * N := by omega
      have hne : ¬ cap = 64 * k := by omega
      have hle : 64 * k + 64 ≤ cap := by omega
      have HK := Lib.hid hlt
      have HLB := Lib.hid (show (((padded l).drop (64 * k)).take 64).length = 64 by rw [List.length_take, List.length_drop, HM.out]; omega)
      clear hk hlt2
      go_wp2_with fail
      refine (l1Block_any _ _ (sumTo (padded l) k) (((padded l).drop (64 * k)).take 64) _ HH.out HBL.out HLB.out).mono ?_; rintro e w2 ⟨v2, rfl, o2, b2⟩
      go_wp2
      refine ⟨⟨k + 1, by omega, ?_, Lib.hid (SlA.of_own o2 (by rw [wds_len]; rfl) (wds_rows _)), below_then hb b2, below_then hb1 b2⟩, ?_⟩
      · simp; omega
      · simp [intOf]; omega
    · obtain rfl : k = N := by omega
      obtain ⟨A, n8, c8, rfl, hA⟩ := id HH.out
      have h8 : n8 = 8 := by have := hA.len; rw [wds_len, row_len] at this; omega
      subst h8
      obtain ⟨B, off, rfl, hB, hcells⟩ := row_all (Value.int .u32) (show SlA wr 1 A 8 c8 ((sumTo (padded l) k).row.map fun x => [Value.int .u32 x]) from hA) (by omega)
      have HC := Lib.hid hcells
      obtain ⟨R, hR⟩ : ∃ R, R = (sumTo (padded l) k).row := ⟨_, rfl⟩
      rw [← hR] at HC
      have HRl := Lib.hid (show R.length = 8 by rw [hR]; rfl)
      have HSR := Lib.hid (show sumOf s.data.toList = R.flatMap be4 by rw [HS.out, hR]; rfl)
      have HOB := Lib.hid (World.ownsRow_made (base := wr.heap.size) (e := 5) (size := 1) wr #[] 0 (Nat.le_refl _) (Nat.zero_le _) rfl)
      clear hA hcells HS hR HM1 HH hb1 hnc hlt
      obtain ⟨wo, rfl⟩ : ∃ wo : World, wo = wr := ⟨_, rfl⟩
      go_wp2
      go_loopw [6, 7] (fun o i wr => ∃ k : Nat, k ≤ 8 ∧ i = .int .i64 k ∧ Hid (wr.ownsRow wo.heap.size 5 1 o (4 * k) (((R.take k).flatMap be4).map u8V)) ∧ Below wo.heap.size wo wr) (fun _ i _ => 8 - (intOf i).toNat)
      case atStart => exact ⟨0, by omega, rfl, HOB, by go_grown⟩
      case round =>
        clear HOB
        obtain ⟨k, hk, rfl, HO, hb2⟩ := hrel
        have hsz2 := hb2.size
        by_cases hlt : k < 8
        · have c0 := (hb2.cell (p := ⟨B, off + k, none⟩) hB).trans (HC.out k _ (getD_of (d := 0) (by rw [HRl.out]; exact hlt)))
          obtain ⟨x, hx⟩ : ∃ x, x = R.getD k 0 := ⟨_, rfl⟩
          rw [← hx] at c0
          have HX := Lib.hid (show (R.take (k + 1)).flatMap be4 = (R.take k).flatMap be4 ++ be4 x by
            rw [List.take_succ_eq_append_getElem (by rw [HRl.out]; exact hlt), List.flatMap_append, hx]
            simp [HRl.out, hlt])
          clear hx
          have HK := Lib.hid hlt
          have hlt2 : (k : Int) < 8 := by omega
          clear hk hlt
          go_wp2
          go_region_held3 (fun w' => w'.cell? ⟨B, off + k, none⟩ = some (.int .u32 x))
            (first | exact c0 | exact z0 | go_keep)
            ((refine step_appNg (w0 := wr.drew) 4 rfl (.tmp 29) (.tmp 53) _ rfl wo.heap.size 5 Tryd.underlying22 info_u8 rfl (by omega) (by omega) _ (4 * k) _ rfl (by exact HO.out) rfl (by simp [Value.oneCell']) rfl (by have := HK.out; omega) (by exact hsz2) ?_; intro v9 w9 hown9 hg9; have hb9 : Below wo.heap.size wr w9 := (Below.refl wo.heap.size wr).drew.grown hg9 (by exact hsz2) (fun k hk => (HO.out.lt k hk).1); have z0 := (hb9.cell (p := ⟨B, off + k, none⟩) hB).trans c0))
          go_wp2
          have hk := HK.out
          refine ⟨⟨k + 1, by omega, by go_num, ?_, hb2.trans hb9⟩, by simp [intOf]; omega⟩
          rw [HX.out, List.map_append]
          have E : ([.int .u8 (x / 16777216 % 256), .int .u8 (x / 65536 % 256), .int .u8 (x / 256 % 256), .int .u8 (x % 256)] : List Value) = (be4 x).map u8V := by simp only [be4, List.map, u8V, ← byteOf_mod]
          rw [← E]
          exact hown9
        · obtain rfl : k = 8 := by omega
          have ho := HO.out
          rw [List.take_of_length_le (by rw [HRl.out]; omega), ← HSR.out] at ho
          obtain ⟨g9, cap9, rfl, _, _⟩ := ho.form (by omega)
          have hconv := conv_back (by rw [sumOf_len]) ho
          clear ho HO
          go_wp2
          go_ret
          exact ⟨rfl, hb.trans (hb2.mono hb.size)⟩
end Go.Proofs.YtaieopdfkapgdaaDoor
