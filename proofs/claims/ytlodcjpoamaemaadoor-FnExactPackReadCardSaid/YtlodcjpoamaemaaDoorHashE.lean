/- Joined texts: HashD HashS HashX. -/
import Derived.Test.YtlodcjpoamaemaaDoorMRow
import Derived.Laws.IdiomStrings
import Derived.Test.YtlodcjpoamaemaaDoorHashA
-- The reference's padding: spec.l1Padded.
namespace Go.Proofs.YtlodcjpoamaemaaDoor
open Go.RowKit
set_option linter.unusedSimpArgs false
set_option linter.unusedVariables false

def lenV : Value → Nat
  | .slice _ m _ => m
  | _ => 0
theorem conv_text (w : World) (s : ByteArray) (hs : s.size ≤ 140737488355328) : ∃ C W1, (convert 9 77 (.string s)).run Tryd.prog w = .ok (.slice (some ⟨w.heap.size, 0, none⟩) s.size C) W1 ∧
    MRow W1 w.heap.size 5 (.slice (some ⟨w.heap.size, 0, none⟩) s.size C) s.size (s.data.toList.map u8V) ∧ Below w.heap.size w W1 := by
  refine ⟨_, _, run_bytes_of_string w 9 77 5 s Tryd.underlying9 Tryd.underlying77 Tryd.underlying5, MRow.of_text w 5 s (grownCap_le_maxLen _ _ _ _ (by unfold maxLen; omega)) (grownCap_ge _ _ _ _), ?_⟩
  exact (Below.refl _ _).drew.alloc (Nat.le_refl _) _

set_option maxHeartbeats 1000000 in
theorem l1Padded_any (s : ByteArray) (w : World) (hs : s.size ≤ 16777216) :
    Calls Tryd.prog 36 #[.string s] w fun e w' => ∃ v, e = .returned v ∧ MRow w' w.heap.size 5 v (padded s.data.toList).length ((padded s.data.toList).map u8V) ∧ Below w.heap.size w w' := by
  obtain ⟨C, W1, hconv, m1, b1⟩ := conv_text w s (by omega)
  obtain ⟨n, hn⟩ : ∃ n, n = s.size := ⟨_, rfl⟩
  have hl : s.data.toList.length = n := by rw [hn]; rfl
  rw [← hn] at m1 hs hconv
  have hsz1 := b1.size
  have HL := Lib.hid hl; have HM1 := Lib.hid m1
  have HN := Lib.hid hn
  have hn2 : (s.size : Int) = n := by omega
  clear hl m1 hn
  go_enter Tryd.func36, Tryd.ntmps36
  go_wp2_with (at_builtin; go_must (refine wpList_app1M (w0 := W1) rfl (.tmp 7) (.tmp 8) _ rfl w.heap.size 5 Tryd.underlying77 info_u8 rfl _ n _ rfl HM1.out rfl rfl (by omega) (by omega) hsz1 ?_); intro v2 w2 m2 b2)
  have b02 := b1.trans b2
  have HM2 : Hid (MRow w2 w.heap.size 5 v2 (n + 1 + 0) ((s.data.toList ++ [128] ++ List.replicate 0 0).map u8V)) := by
    rw [show (List.replicate 0 (0 : UInt8)) = [] from rfl, List.append_nil, List.map_append]
    exact m2
  clear m2 b2 hconv HM1
  go_loopw [3] (fun v wr => ∃ k : Nat, k ≤ zerosFor n ∧ Hid (MRow wr w.heap.size 5 v (n + 1 + k) ((s.data.toList ++ [128] ++ List.replicate k 0).map u8V)) ∧ Below w.heap.size w wr) (fun v _ => n + 65 - lenV v)
  case atStart => exact ⟨0, by omega, HM2, b02⟩
  case round =>
    obtain ⟨k, hk, HM, hb⟩ := hrel
    have hsz := hb.size
    obtain ⟨g, cap, rfl, hg1, hg2, hnc, hcm⟩ := HM.out.form
    have hz := zerosFor_lt n
    obtain ⟨m, hm⟩ : ∃ m, m = n + 1 + k := ⟨_, rfl⟩
    rw [← hm]
    rw [← hm] at HM hnc
    have hm3 : m ≤ n + 65 := by omega
    have hm4 : k < m := by omega
    by_cases hlt : k < zerosFor n
    · have h1 : ((m : Int) % 64 != 56) = true := by have := zerosFor_least n k hlt; simp; omega
      have HK := Lib.hid hlt
      have HMM := Lib.hid hm
      clear hlt hm hk hz
      go_wp2_with (at_builtin; go_must (refine wpList_app1M (w0 := wr) rfl (.tmp 14) (.tmp 15) _ rfl w.heap.size 5 Tryd.underlying77 info_u8 rfl (.slice (some ⟨g, 0, none⟩) m cap) m _ rfl HM.out rfl rfl (by omega) (by omega) hsz ?_); intro v3 w3 m3 b3)
      obtain ⟨g3, cap3, rfl, hg31, hg32, hnc3, hcm3⟩ := m3.form
      have hk := HK.out
      have hm := HMM.out
      refine ⟨⟨k + 1, by omega, ?_, hb.trans b3⟩, ?_⟩
      · rw [show n + 1 + (k + 1) = m + 1 by omega, List.replicate_succ']
        rw [show s.data.toList ++ [128] ++ (List.replicate k 0 ++ [0]) = (s.data.toList ++ [128] ++ List.replicate k 0) ++ [0] by simp, List.map_append]
        exact m3
      · have hz := zerosFor_lt n
        simp [lenV]; omega
    · have hkz : k = zerosFor n := by omega
      have h1 : ((m : Int) % 64 != 56) = false := by have := zerosFor_mod n; rw [← hkz] at this; simp; omega
      obtain ⟨L, hL⟩ : ∃ L, L = s.data.toList ++ [128] ++ List.replicate k 0 := ⟨_, rfl⟩
      rw [← hL] at HM
      have HPD := Lib.hid (show padded s.data.toList = L ++ be8 n by rw [hL]; unfold padded; rw [HL.out, ← hkz]; simp)
      have HLL := Lib.hid (show L.length = m by rw [hL, hm, List.length_append, List.length_append, HL.out, List.length_replicate]; rfl)
      clear hL hm hkz hlt hk hz hm4
      obtain ⟨wo, rfl⟩ : ∃ wo : World, wo = wr := ⟨_, rfl⟩
      go_wp2
      go_loopw [3, 5] (fun v i wr => ∃ k : Nat, k ≤ 8 ∧ i = .int .i64 (7 - (k : Int)) ∧ Hid (MRow wr w.heap.size 5 v (m + k) ((L ++ (be8 n).take k).map u8V)) ∧ Below w.heap.size w wr) (fun _ i _ => (intOf i + 1).toNat)
      case atStart => exact ⟨0, by omega, rfl, by simpa using HM, hb⟩
      case round =>
        clear h1 HM
        obtain ⟨k, hk, rfl, HM, hb⟩ := hrel
        have hsz := hb.size
        obtain ⟨g, cap, rfl, hg1, hg2, hnc, hcm⟩ := HM.out.form
        by_cases hlt : k < 8
        · have h7 : 0 ≤ 7 - (k : Int) := by omega
          obtain ⟨x, hx⟩ : ∃ x : UInt8, x = byteOf (((8 * n : Nat) : Int) / 2 ^ (56 - 8 * k)) := ⟨_, rfl⟩
          have HX := Lib.hid (show (be8 n).take (k + 1) = (be8 n).take k ++ [x] by
            rw [List.take_succ_eq_append_getElem (by rw [be8_len]; omega), hx]
            simp [be8])
          have HV := Lib.hid (show (Value.int .u8 ((n : Int) * 8 / 2 ^ (8 * (7 - k)) % 256)) = u8V x by
            rw [hx, u8V, ← byteOf_mod, show 8 * (7 - k) = 56 - 8 * k by omega]
            congr 3
            omega)
          have HK := Lib.hid hlt
          clear hx hlt hk
          go_wp2_with (at_builtin; go_must (refine wpList_app1M (w0 := wr) rfl (.tmp 24) (.tmp 30) _ rfl w.heap.size 5 Tryd.underlying77 info_u8 rfl (.slice (some ⟨g, 0, none⟩) (m + k) cap) (m + k) _ rfl HM.out rfl rfl (by omega) (by have := HK.out; omega) hsz ?_); intro v3 w3 m3 b3)
          rw [HV.out] at m3
          have hk := HK.out
          refine ⟨⟨k + 1, by omega, ?_, ?_, hb.trans b3⟩, ?_⟩
          · simp; omega
          · rw [HX.out, ← Nat.add_assoc, ← List.append_assoc, List.map_append]
            exact m3
          · simp [intOf]; omega
        · obtain rfl : k = 8 := by omega
          go_wp2
          go_ret
          refine ⟨_, rfl, ?_, hb⟩
          rw [HPD.out]
          have := HM.out
          rw [List.take_of_length_le (by rw [be8_len]; omega)] at this
          rw [List.length_append, be8_len, HLL.out]
          exact this
end Go.Proofs.YtlodcjpoamaemaaDoor

-- The reference's sum: spec.l1Sum.
namespace Go.Proofs.YtlodcjpoamaemaaDoor
open Go.RowKit
set_option linter.unusedSimpArgs false
set_option linter.unusedVariables false

/-- 'append(out, x, y, ..)' inside a region that draws. -/
theorem step_appNg {P : Program} {w0 : World} {ops : Array Oper} {o : Oper} {a : Act} {K : Act → World → Prop} {Q : Exit → Act → World → Prop} {E : Prop} {e2 : TypeId} {r : List Value} (m : Nat) (hgd : o.guard = none) (s x : Operand) (t : TypeId)
    (ho : o.op = .call { callee := .builtin .append, args := #[s, x], argTypes := #[t, t] })
    (base : Nat) (e : TypeId) {z : Value} {size bytes : Nat} (ht : P.underlying t = some (.slice e)) (hinfo : (P.info? e).map (fun i => (i.zero, i.size, i.bytes)) = some (some z, size, bytes))
    (hzs : z.cells.size = size) (hsz : 0 < size) (hby : 0 < bytes)
    (v : Value) (n : Nat) (cs : List Value) (hs : a.eval s = v) (hown : w0.ownsRow base e size v n cs)
    (hr : r.length = m * size) (h1 : ∀ u ∈ r, u.oneCell' = true) (hx : a.eval x = .slice (some ⟨w0.heap.size, 0, none⟩) m m)
    (hn : (n + m) * bytes ≤ 140737488355328) (hbase : base ≤ w0.heap.size)
    (h : ∀ v' w', w'.ownsRow base e size v' (n + m) (cs ++ r) → w0.grownBy w' v.ownBlock → K (a.put o.dst v') w') :
    if Region.wanted o (yielded ops a.tmps) = true then Oper.wp P o a (w0.alloc (.cells r.toArray e2)) K Q else E := by
  have hw : Region.wanted o (yielded ops a.tmps) = true := by simp [Region.wanted, hgd]
  rw [if_pos hw]
  obtain ⟨i0, hi0, hz0, hz1, hz2⟩ := info_parts hinfo
  have hn1 : n + m ≤ 140737488355328 := Nat.le_trans (Nat.le_mul_of_pos_right _ hby) hn
  refine wp_append_own _ s x t ho base e i0 z size bytes ht hi0 hz0 hz1 hz2 hzs hsz v n cs hs (hown.alloc _) ⟨w0.heap.size, 0, none⟩ m m r hx hr (fun j u hu => ?_) h1 (by unfold maxLen; omega) hn
    (by simp; omega) (fun v' w' hown' hg hv => h v' w' hown' ((World.grownBy_alloc w0 _ _).trans hg))
  rw [add_at, cell_of_row _ _ _ r.toArray e2 (0, 0) (heap_alloc_new w0 _)]
  simpa using hu

/-- 'string(b)' of a row of the call's own. -/
theorem conv_back {w : World} {base g c : Nat} {l : List UInt8} {n : Nat} (hn : l.length = n) (h : w.ownsRow base 5 1 (.slice (some ⟨g, 0, none⟩) n c) n (l.map u8V)) :
    (convert 77 9 (.slice (some ⟨g, 0, none⟩) n c)).run Tryd.prog w = .ok (.string ⟨l.toArray⟩) w := by
  subst hn
  refine run_convert_bytes_back w 77 9 5 ⟨g, 0, none⟩ c l Tryd.underlying77 Tryd.underlying5 Tryd.underlying9 (fun j hj => ?_)
  exact h.cells (g := g) rfl j (.int .u8 (l[j].toNat : Int)) (by rw [List.getElem?_map, List.getElem?_eq_getElem hj]; rfl)

/-- A part of a row of bytes. -/
theorem sl_part {w : World} {base g n c i m : Nat} {l : List UInt8} (h : MRow w base 5 (.slice (some ⟨g, 0, none⟩) n c) n (l.map u8V)) (him : i + m ≤ n) (hc : m ≤ c - i) (hnc : c ≤ maxLen) : Sl w 1 (.slice (some ⟨g, i, none⟩) m (c - i)) (bts ((l.drop i).take m)) := by
  have hl : l.length = n := by have := h.1; rwa [List.length_map] at this
  refine ⟨_, _, _, rfl, ⟨by rw [bts_len, List.length_take, List.length_drop]; omega, hc, by omega, fun hm => ⟨g, i, rfl, ?_, fun k r hr j x hx => ?_⟩⟩⟩
  · obtain ⟨g', cap, e, _, hlt, _⟩ := h.form
    injection e with e _ _
    injection e with e
    injection e with e _ _
    subst e
    exact hlt
  · unfold bts at hr
    rw [List.getElem?_map] at hr
    obtain ⟨b, hb, rfl⟩ := Option.map_eq_some_iff.1 hr
    have hj : j = 0 := by have := (List.getElem?_eq_some_iff.1 hx).1; simpa using this
    subst hj
    rw [List.getElem?_take] at hb
    split at hb
    · rw [List.getElem?_drop] at hb
      rw [Nat.mul_one, Nat.add_zero]
      refine h.cells ?_
      rw [List.getElem?_map, hb]
      simpa using hx
    · cases hb

set_option maxHeartbeats 2000000 in
theorem l1Sum_any (s : ByteArray) (w : World) (hs : s.size ≤ 16777216) :
    Calls Tryd.prog 22 #[.string s] w fun e w' => e = .returned (.string ⟨(sumOf s.data.toList).toArray⟩) ∧ Below w.heap.size w w' := by
  obtain ⟨l, hl⟩ : ∃ l, l = s.data.toList := ⟨_, rfl⟩
  have hll : l.length ≤ 16777216 := by rw [hl]; exact hs
  obtain ⟨N, hN⟩ : ∃ N, N = (padded l).length / 64 := ⟨_, rfl⟩
  have hM : (padded l).length = 64 * N := by have := padded_mod l; omega
  have hN2 : N ≤ 262200 := by have := padded_len l; have := zerosFor_lt l.length; omega
  have HP := fun W => l1Padded_any s W hs
  have HS := Lib.hid (show sumOf s.data.toList = bytesW (sumTo (padded l) N) by rw [← hl, hN]; rfl)
  rw [← hl] at HP
  have HPh := Lib.hid HP
  have HM := Lib.hid hM
  clear hM hN hl HP
  have hO0 := Lib.hid (World.ownsRow_lit (base := w.heap.size) (e := 78) (size := 1) w (h0W.map (Value.int .u32)).toArray 8 (Nat.le_refl _) (by unfold maxLen; omega) rfl)
  go_enter Tryd.func22, Tryd.ntmps22
  go_wp2_with fail
  refine (HPh.out _).mono ?_; rintro e w1 ⟨v1, rfl, m1, b1⟩
  obtain ⟨g, cap, rfl, hg1, hg2, hnc, hcm⟩ := m1.form
  rw [HM.out] at hnc m1
  rw [HM.out]
  have hb0 : Below w.heap.size w w1 := below_step (by go_grown) (by simp) b1
  have HM1 := Lib.hid m1
  have hS0 : Hid (Sl w1 1 (.slice (some ⟨w.heap.size, 0, none⟩) 8 8) (wds (sumTo (padded l) 0).row)) := by
    refine (SlA.of_own (base := w.heap.size) (e := 78) (n := 8) (cs := wds (sumTo (padded l) 0).row) ?_ rfl (wds_rows _)).below b1
    exact hO0.out
  unfold maxLen at hcm
  clear m1 b1 hO0
  obtain ⟨V, HVw⟩ : ∃ V, Hid (V = w1) := ⟨_, rfl⟩
  go_wp2
  go_loopw [3, 5] (fun h i wr => ∃ k : Nat, k ≤ N ∧ i = .int .i64 (64 * (k : Int)) ∧ Hid (Sl wr 1 h (wds (sumTo (padded l) k).row)) ∧ Below w.heap.size w wr ∧ Below w1.heap.size w1 wr) (fun _ i _ => 64 * N - (intOf i).toNat)
  case atStart => exact ⟨0, by omega, rfl, hS0, hb0, Below.refl _ _⟩
  case round =>
    clear hS0 hb0
    obtain ⟨k, hk, rfl, HH, hb, hb1⟩ := hrel
    by_cases hlt : k < N
    · obtain ⟨A, n8, c8, rfl, hA⟩ := id HH.out
      clear hA
      have HBL := Lib.hid (sl_part (i := 64 * k) (m := 64) (l := padded l) (HM1.out.below hb1) (by omega) (by omega) (by unfold maxLen; omega))
      have hlt2 : 64 * (k : Int) < 64 * N := by omega
      have hne : ¬ cap = 64 * k := by omega
      have hle : 64 * k + 64 ≤ cap := by omega
      have HK := Lib.hid hlt
      have HLB := Lib.hid (show (((padded l).drop (64 * k)).take 64).length = 64 by rw [List.length_take, List.length_drop, HM.out]; omega)
      clear hk hlt2
      go_wp2_with fail
      refine (l1Block_any _ _ (sumTo (padded l) k) (((padded l).drop (64 * k)).take 64) _ HH.out HBL.out HLB.out).mono ?_; rintro e w2 ⟨v2, rfl, o2, b2⟩
      go_wp2
      refine ⟨⟨k + 1, by omega, ?_, Lib.hid (SlA.of_own o2 (by rw [wds_len]; rfl) (wds_rows _)), below_then hb b2, below_then hb1 b2⟩, ?_⟩
      · simp; omega
      · simp [intOf]; omega
    · obtain rfl : k = N := by omega
      obtain ⟨A, n8, c8, rfl, hA⟩ := id HH.out
      have h8 : n8 = 8 := by have := hA.len; rw [wds_len, row_len] at this; omega
      subst h8
      obtain ⟨B, off, rfl, hB, hcells⟩ := row_all (Value.int .u32) (show SlA wr 1 A 8 c8 ((sumTo (padded l) k).row.map fun x => [Value.int .u32 x]) from hA) (by omega)
      have HC := Lib.hid hcells
      obtain ⟨R, hR⟩ : ∃ R, R = (sumTo (padded l) k).row := ⟨_, rfl⟩
      rw [← hR] at HC
      have HRl := Lib.hid (show R.length = 8 by rw [hR]; rfl)
      have HSR := Lib.hid (show sumOf s.data.toList = R.flatMap be4 by rw [HS.out, hR]; rfl)
      have HOB := Lib.hid (World.ownsRow_made (base := wr.heap.size) (e := 5) (size := 1) wr #[] 0 (Nat.le_refl _) (Nat.zero_le _) rfl)
      clear hA hcells HS hR HM1 HH hb1 hnc hlt
      obtain ⟨wo, rfl⟩ : ∃ wo : World, wo = wr := ⟨_, rfl⟩
      go_wp2
      go_loopw [6, 7] (fun o i wr => ∃ k : Nat, k ≤ 8 ∧ i = .int .i64 k ∧ Hid (wr.ownsRow wo.heap.size 5 1 o (4 * k) (((R.take k).flatMap be4).map u8V)) ∧ Below wo.heap.size wo wr) (fun _ i _ => 8 - (intOf i).toNat)
      case atStart => exact ⟨0, by omega, rfl, HOB, by go_grown⟩
      case round =>
        clear HOB
        obtain ⟨k, hk, rfl, HO, hb2⟩ := hrel
        have hsz2 := hb2.size
        by_cases hlt : k < 8
        · have c0 := (hb2.cell (p := ⟨B, off + k, none⟩) hB).trans (HC.out k _ (getD_of (d := 0) (by rw [HRl.out]; exact hlt)))
          obtain ⟨x, hx⟩ : ∃ x, x = R.getD k 0 := ⟨_, rfl⟩
          rw [← hx] at c0
          have HX := Lib.hid (show (R.take (k + 1)).flatMap be4 = (R.take k).flatMap be4 ++ be4 x by
            rw [List.take_succ_eq_append_getElem (by rw [HRl.out]; exact hlt), List.flatMap_append, hx]
            simp [HRl.out, hlt])
          clear hx
          have HK := Lib.hid hlt
          have hlt2 : (k : Int) < 8 := by omega
          clear hk hlt
          go_wp2
          go_region_held3 (fun w' => w'.cell? ⟨B, off + k, none⟩ = some (.int .u32 x))
            (first | exact c0 | exact z0 | go_keep)
            ((refine step_appNg (w0 := wr.drew) 4 rfl (.tmp 29) (.tmp 53) _ rfl wo.heap.size 5 Tryd.underlying77 info_u8 rfl (by omega) (by omega) _ (4 * k) _ rfl (by exact HO.out) rfl (by simp [Value.oneCell']) rfl (by have := HK.out; omega) (by exact hsz2) ?_; intro v9 w9 hown9 hg9; have hb9 : Below wo.heap.size wr w9 := (Below.refl wo.heap.size wr).drew.grown hg9 (by exact hsz2) (fun k hk => (HO.out.lt k hk).1); have z0 := (hb9.cell (p := ⟨B, off + k, none⟩) hB).trans c0))
          go_wp2
          have hk := HK.out
          refine ⟨⟨k + 1, by omega, by go_num, ?_, hb2.trans hb9⟩, by simp [intOf]; omega⟩
          rw [HX.out, List.map_append]
          have E : ([.int .u8 (x / 16777216 % 256), .int .u8 (x / 65536 % 256), .int .u8 (x / 256 % 256), .int .u8 (x % 256)] : List Value) = (be4 x).map u8V := by simp only [be4, List.map, u8V, ← byteOf_mod]
          rw [← E]
          exact hown9
        · obtain rfl : k = 8 := by omega
          have ho := HO.out
          rw [List.take_of_length_le (by rw [HRl.out]; omega), ← HSR.out] at ho
          obtain ⟨g9, cap9, rfl, _, _⟩ := ho.form (by omega)
          have hconv := conv_back (by rw [sumOf_len]) ho
          clear ho HO
          go_wp2
          go_ret
          exact ⟨rfl, hb.trans (hb2.mono hb.size)⟩
end Go.Proofs.YtlodcjpoamaemaaDoor

-- The reference's figures: spec.l1Hex, spec.HashSum.
namespace Go.Proofs.YtlodcjpoamaemaaDoor
open Go.RowKit
set_option linter.unusedSimpArgs false
set_option linter.unusedVariables false

theorem bsize (l : List UInt8) : (⟨l.toArray⟩ : ByteArray).size = l.length := by simp [ByteArray.size]
theorem figs_at (i : Nat) (h : i < (⟨#[48, 49, 50, 51, 52, 53, 54, 55, 56, 57, 97, 98, 99, 100, 101, 102]⟩ : ByteArray).size) : (⟨#[48, 49, 50, 51, 52, 53, 54, 55, 56, 57, 97, 98, 99, 100, 101, 102]⟩ : ByteArray)[i] = fig i := by
  have h16 : i < 16 := h
  obtain rfl | rfl | rfl | rfl | rfl | rfl | rfl | rfl | rfl | rfl | rfl | rfl | rfl | rfl | rfl | rfl : i = 0 ∨ i = 1 ∨ i = 2 ∨ i = 3 ∨ i = 4 ∨ i = 5 ∨ i = 6 ∨ i = 7 ∨ i = 8 ∨ i = 9 ∨ i = 10 ∨ i = 11 ∨ i = 12 ∨ i = 13 ∨ i = 14 ∨ i = 15 := by omega
  all_goals rfl

set_option maxHeartbeats 2000000 in
theorem l1Hex_any (s : ByteArray) (w : World) (hs : s.size ≤ 16777216) (hpos : 0 < s.size) :
    Calls Tryd.prog 23 #[.string s] w fun e w' => e = .returned (.string ⟨(hexOf s.data.toList).toArray⟩) ∧ Below w.heap.size w w' := by
  have HOB := Lib.hid (World.ownsRow_made (base := w.heap.size) (e := 5) (size := 1) w #[] 0 (Nat.le_refl _) (Nat.zero_le _) rfl)
  have hlen : s.data.toList.length = s.size := by simp
  have HL := Lib.hid hlen; clear hlen
  go_enter Tryd.func23, Tryd.ntmps23
  go_wp2
  go_loopw [3, 4] (fun o i wr => ∃ k : Nat, k ≤ s.size ∧ i = .int .i64 k ∧ Hid (wr.ownsRow w.heap.size 5 1 o (2 * k) ((hexOf (s.data.toList.take k)).map u8V)) ∧ Below w.heap.size w wr) (fun _ i _ => s.size - (intOf i).toNat)
  case atStart => exact ⟨0, by omega, rfl, HOB, by go_grown⟩
  case round =>
    clear HOB
    obtain ⟨k, hk, rfl, HO, hb⟩ := hrel
    have hsz := hb.size
    by_cases hlt : k < s.size
    · have HT := Lib.hid (show hexOf (s.data.toList.take (k + 1)) = hexOf (s.data.toList.take k) ++ hex2 s[k] by
        rw [List.take_succ_eq_append_getElem (by rw [HL.out]; exact hlt), hexOf_snoc]; rfl)
      have n1 : 0 ≤ (s[k].toNat : Int) / 16 := by omega
      have n2 : (s[k].toNat : Int) / 16 < 16 := by have := UInt8.toNat_lt s[k]; omega
      have n3 : 0 ≤ (s[k].toNat : Int) % 16 := by omega
      have n4 : (s[k].toNat : Int) % 16 < 16 := by omega
      have t1 : ((s[k].toNat : Int)).tmod 16 = (s[k].toNat : Int) % 16 := Int.tmod_eq_emod_of_nonneg (by omega)
      have HK := Lib.hid hlt
      have hxl := UInt8.toNat_lt s[k]
      have w1 : IntKind.u8.wrap ((s[k].toNat : Int) / 16) = (s[k].toNat : Int) / 16 := by simp [IntKind.wrap, IntKind.bits, IntKind.signed]; omega
      have w2 : IntKind.u8.wrap ((s[k].toNat : Int) % 16) = (s[k].toNat : Int) % 16 := by simp [IntKind.wrap, IntKind.bits, IntKind.signed]; omega
      clear hxl hk
      go_wp2
      go_region_held3 (fun _ => True) (first | trivial | go_keep) ((refine step_appNg (w0 := wr.drew) 2 rfl (.tmp 12) (.tmp 23) _ rfl w.heap.size 5 Tryd.underlying77 info_u8 rfl (by omega) (by omega) _ (2 * k) _ rfl (by exact HO.out) rfl (by simp [Value.oneCell']) rfl (by have := HK.out; omega) (by exact hsz) ?_; intro v9 w9 hown9 hg9))
      all_goals
        have hb9 : Below w.heap.size wr w9 := (Below.refl w.heap.size wr).drew.grown hg9 (by exact hsz) (fun k hk => (HO.out.lt k hk).1)
        go_wp2
        have x1 : (IntKind.u8.wrap ((s[k].toNat : Int) / 16)).toNat = s[k].toNat / 16 := by rw [w1]; omega
        have x2 : ((s[k].toNat : Int) % 16).toNat = s[k].toNat % 16 := by omega
        simp only [figs_at] at hown9
        have h9 : w9.ownsRow w.heap.size 5 1 v9 (2 * k + 2) ((hexOf (s.data.toList.take k)).map u8V ++ [.int .u8 ((fig (IntKind.u8.wrap ((s[k].toNat : Int) / 16)).toNat).toNat : Int), .int .u8 ((fig ((s[k].toNat : Int) % 16).toNat).toNat : Int)]) := hown9
        rw [x1, x2] at h9
        have hk := HK.out
        refine ⟨⟨k + 1, by omega, by go_num, ?_, hb.trans hb9⟩, by simp [intOf]; omega⟩
        rw [HT.out, List.map_append]
        exact h9
    · obtain rfl : k = s.size := by omega
      have ho := HO.out
      rw [List.take_of_length_le (by rw [HL.out]; omega)] at ho
      obtain ⟨g9, cap9, rfl, _, _⟩ := ho.form (by omega)
      have hconv := conv_back (by rw [hexOf_len, HL.out]) ho
      clear ho HO
      go_wp2
      go_ret
      exact ⟨rfl, hb⟩

end Go.Proofs.YtlodcjpoamaemaaDoor
