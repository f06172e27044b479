/- The reference's block: spec.l1Consts, spec.l1Block. -/
import Derived.Test.YtaieopdfkapgdaaDoorHashW
import Derived.Deep.CutBlock
import Derived.Deep.DeepCutAuto
namespace Go.Proofs.YtaieopdfkapgdaaDoor
open Go.RowKit
set_option linter.unusedSimpArgs false
set_option linter.unusedVariables false

set_option maxRecDepth 100000 in
theorem l1Consts_any (w : World) :
    Calls Tryd.prog 78 #[] w fun e w' => e = .returned (.slice (some ⟨w.heap.size, 0, none⟩) 64 64) ∧ w' = w.alloc (.cells (kW.map (Value.int .u32)).toArray 96) := by
  go_enter Tryd.func78, Tryd.ntmps78
  go_wp2
  go_ret
  exact ⟨rfl, rfl⟩

/-- A block whose first cells are words. -/
def WRow (w : World) (g : Nat) (t : TypeId) (xs : List Int) : Prop := ∃ cur, Blk w g t cur ∧ ∀ (i : Nat) (x : Int), xs[i]? = some x → cur[i]? = some (.int .u32 x)
theorem WRow.lt {w : World} {g : Nat} {t : TypeId} {xs : List Int} (h : WRow w g t xs) : g < w.heap.size := let ⟨_, hb, _⟩ := h; hb.lt
theorem WRow.cell {w : World} {g : Nat} {t : TypeId} {xs : List Int} (h : WRow w g t xs) {i : Nat} {x : Int} (hx : xs[i]? = some x) : w.cell? ⟨g, i, none⟩ = some (.int .u32 x) :=
  let ⟨_, hb, hc⟩ := h; (hb.cell i).trans (hc i x hx)
theorem WRow.at_ {w : World} {g : Nat} {t : TypeId} {xs : List Int} (h : WRow w g t xs) {i : Nat} (hi : i < xs.length) : w.cell? ⟨g, i, none⟩ = some (.int .u32 (xs.getD i 0)) := h.cell (getD_of hi)
theorem WRow.frozen {w : World} {g : Nat} {t : TypeId} {xs : List Int} (h : WRow w g t xs) (i : Nat) : w.frozen? ⟨g, i, none⟩ = false := let ⟨_, hb, _⟩ := h; hb.frozen i
theorem WRow.set_ {w : World} {g : Nat} {t : TypeId} {xs : List Int} (h : WRow w g t xs) (i : Nat) (y : Int) : WRow (w.setCell ⟨g, i, none⟩ (.int .u32 y)) g t (xs.set i y) := by
  obtain ⟨cur, hb, hc⟩ := h
  refine ⟨_, hb.set_ i _, fun j x hx => ?_⟩
  rw [List.getElem?_set] at hx
  rw [Array.getElem?_setIfInBounds]
  by_cases e : i = j
  · subst e
    rw [if_pos rfl] at hx ⊢
    by_cases hi : i < xs.length
    · rw [if_pos hi] at hx
      cases hx
      have := hc i _ (List.getElem?_eq_getElem hi)
      rw [if_pos (Array.getElem?_eq_some_iff.1 this).1]
    · rw [if_neg hi] at hx; cases hx
  · rw [if_neg e] at hx ⊢
    exact hc j x hx
theorem WRow.block {w w' : World} {g : Nat} {t : TypeId} {xs : List Int} (h : WRow w g t xs) (e : w'.heap[g]? = w.heap[g]?) : WRow w' g t xs := let ⟨cur, hb, hc⟩ := h; ⟨cur, e.trans hb, hc⟩
theorem WRow.below {w w' : World} {B g : Nat} {t : TypeId} {xs : List Int} (h : WRow w g t xs) (hb : Below B w w') (hg : g < B) : WRow w' g t xs := h.block (hb.block g hg)
theorem WRow.drewN {w : World} {g : Nat} {t : TypeId} {xs : List Int} (h : WRow w g t xs) (n : Nat) : WRow (w.drewN n) g t xs := h
theorem WRow.of_own {w : World} {base n g c : Nat} {t : TypeId} {xs : List Int} (h : w.ownsRow base t 1 (.slice (some ⟨g, 0, none⟩) n c) n (wds xs).flatten) : WRow w g t xs := by
  rcases h.2 with ⟨e, _⟩ | ⟨g', cap, cur, e, _, hg, _, _, _, htake⟩
  · cases e
  · injection e with e1 e2 e3
    injection e1 with e1
    injection e1 with e1 _ _
    subst e1
    refine ⟨cur, hg, fun i x hx => ?_⟩
    have : (wds xs).flatten[i]? = some (.int .u32 x) := by rw [wds_flat, List.getElem?_map, hx]; rfl
    rw [← htake, List.getElem?_take] at this
    split at this
    · simpa using this
    · cases this
theorem addr_add (b o j : Nat) : (⟨b, o, none⟩ : Addr).add j = ⟨b, o + j, none⟩ := by
  unfold Addr.add
  split
  · rename_i h; subst h; rfl
  · rfl
theorem flat_cells {α : Type} (f : α → Value) {w : World} {B off : Nat} {xs : List α} (h : ∀ (k : Nat) (x : α), xs[k]? = some x → w.cell? ⟨B, off + k, none⟩ = some (f x)) :
    ∀ (j : Nat) (u : Value), (xs.map f)[j]? = some u → w.cell? ((⟨B, off, none⟩ : Addr).add j) = some u := by
  intro j u hu
  rw [List.getElem?_map] at hu
  obtain ⟨x, hx, rfl⟩ := Option.map_eq_some_iff.1 hu
  rw [addr_add]
  exact h j x hx
theorem drew2 (w : World) (a b : Nat) : ∃ n, (w.drewN a).drewN b = w.drewN n := ⟨a + b, World.drewN_drewN _ _ _⟩
theorem row_len (s : W8) : s.row.length = 8 := rfl

/-- A row that is moved on by one, from behind. -/
def shiftAt (r : List Int) (n : Nat) : List Int := r.take (n + 1) ++ (r.take 7).drop n
theorem shiftAt_len (s : W8) {n : Nat} (h : n ≤ 7) : (shiftAt s.row n).length = 8 := by simp [shiftAt, W8.row]; omega
theorem shiftAt_full (s : W8) : shiftAt s.row 7 = s.row := rfl
theorem shiftAt_step (s : W8) {n : Nat} (h : n < 7) : (shiftAt s.row (n + 1)).set (n + 1) ((shiftAt s.row (n + 1)).getD n 0) = shiftAt s.row n := by
  obtain rfl | rfl | rfl | rfl | rfl | rfl | rfl : n = 0 ∨ n = 1 ∨ n = 2 ∨ n = 3 ∨ n = 4 ∨ n = 5 ∨ n = 6 := by omega
  all_goals rfl
theorem shift_end (s : W8) (x y : Int) : ((shiftAt s.row 0).set 4 x).set 0 y = [y, s.a, s.b, s.c, x, s.e, s.f, s.g] := rfl
theorem addW_take (s t : W8) {k : Nat} (h : k < 8) : (addW s t).row.take (k + 1) = (addW s t).row.take k ++ [(s.row.getD k 0 + t.row.getD k 0) % 4294967296] := by
  obtain rfl | rfl | rfl | rfl | rfl | rfl | rfl | rfl : k = 0 ∨ k = 1 ∨ k = 2 ∨ k = 3 ∨ k = 4 ∨ k = 5 ∨ k = 6 ∨ k = 7 := by omega
  all_goals rfl
theorem kW_len : kW.length = 64 := rfl
theorem rnd_row (s : W8) (k w : Int) : (rnd s k w).row = [ad (ad (mixT s.e s.f s.g s.h k w) (bigA s.a)) (majI s.a s.b s.c), s.a, s.b, s.c, ad s.d (mixT s.e s.f s.g s.h k w), s.e, s.f, s.g] := rfl

set_option maxHeartbeats 4000000 in
set_option maxRecDepth 100000 in
theorem l1Block_any (v u : Value) (s : W8) (b : List UInt8) (w : World) (hv : Sl w 1 v (wds s.row)) (hs : Sl w 1 u (bts b)) (hb : b.length = 64) :
    Calls Tryd.prog 70 #[v, u] w fun e w' => ∃ v, e = .returned v ∧ w'.ownsRow w.heap.size 96 1 v 8 (wds (blockW s b).row).flatten ∧ Below w.heap.size w w' := by
  obtain ⟨i0, hi0, hz0, hz1, hz2⟩ := info_parts info_u32
  obtain ⟨A, n, c, rfl, hA⟩ := hv
  have hl : 8 = n := by have := hA.len; rwa [wds_len, row_len] at this
  subst hl
  obtain ⟨A2, n2, c2, rfl, hA2⟩ := id hs
  clear hA2
  have hcp := hA.cap
  have hmx := hA.max
  unfold maxLen at hmx
  obtain ⟨B, off, rfl, hB, hcells⟩ := row_all (Value.int .u32) (show SlA w 1 A 8 c (s.row.map fun x => [Value.int .u32 x]) from hA) (by omega)
  have HC := Lib.hid hcells; clear hcells hA
  go_enter Tryd.func70, Tryd.ntmps70
  go_wp2_with fail
  refine (l1Words_any _ b _ hs hb).mono ?_; rintro e w1 ⟨v1, rfl, o1, b1⟩
  obtain ⟨g1, cap1, rfl, hg1, hg1'⟩ := o1.form (by omega)
  have W1 := WRow.of_own o1
  have HW1 := Lib.hid W1
  have HO1 := Lib.hid o1
  clear o1 W1 hs
  go_wp2_with fail
  refine (l1Consts_any _).mono ?_; rintro e w2 ⟨rfl, hw2⟩
  have b2 : Below w1.heap.size w1 w2 := by rw [hw2]; go_grown
  have K2 : WRow w2 w1.heap.size 96 kW := ⟨_, by rw [hw2]; exact Blk.new _ _ _, fun i x hx => by simp [hx]⟩
  have z2 : w2.heap.size = w1.heap.size + 1 := by rw [hw2]; simp
  have b02 := below_then b1 b2
  have W2 := HW1.out.below b2 hg1'
  have HW2 := Lib.hid W2; have HK2 := Lib.hid K2
  have HZ2 := Lib.hid z2
  clear HW1 HO1 W2 K2 hw2
  have l12 : w1.heap.size < w2.heap.size := by omega
  clear z2
  have lB2 : B < w2.heap.size := by have := b1.size; omega
  have hb02c : Below w.heap.size w (w2.alloc (.cells #[] 96)) := b02.alloc (by omega) _
  have HN3 := Lib.hid (flat_cells (Value.int .u32) (w := w2.alloc (.cells #[] 96)) (B := B) (off := off) (xs := s.row) (fun k x hx => (hb02c.cell (p := ⟨B, off + k, none⟩) hB).trans (HC.out k x hx)))
  have HO3 := Lib.hid (World.ownsRow_made (base := w2.heap.size) (e := 96) (size := 1) w2 #[] 0 (Nat.le_refl _) (Nat.zero_le _) rfl)
  clear hb02c
  go_upto_block 0 with (at_builtin; go_must (refine wpList_append_own _ rfl (.tmp 20) (.tmp 21) _ rfl w2.heap.size 96 i0 (.int .u32 0) 1 4 Tryd.underlying97 hi0 hz0 hz1 hz2 rfl (by omega) (.slice (some ⟨w2.heap.size, 0, none⟩) 0 0) 0 [] rfl HO3.out ⟨B, off, none⟩ 8 c (s.row.map (Value.int .u32)) rfl rfl HN3.out (by simp [Value.oneCell']) (by unfold maxLen; omega) (by omega) (by simp) ?_; intro v3 w3 o3 g3 _))
  obtain ⟨g, cap, rfl, hg3, hg3'⟩ := o3.form (by omega)
  have b3 : Below w2.heap.size w2 w3 := ((Below.refl w2.heap.size w2).alloc (Nat.le_refl _) _).grown g3 (by simp) (fun k hk => (HO3.out.lt k hk).1)
  have R3 := Lib.hid (WRow.of_own (by rw [wds_flat]; simpa using o3 : w3.ownsRow w2.heap.size 96 1 (.slice (some ⟨g, 0, none⟩) 8 cap) 8 (wds s.row).flatten))
  have hval : Value.slice (some ⟨g, 0, none⟩) (0 + 8) cap = .slice (some ⟨g, 0, none⟩) 8 cap := rfl
  rw [hval]
  clear hval o3 g3 HO3 HN3
  go_cut [] (fun wx => Hid (WRow wx g 96 (rnds s (sched b) 64).row) ∧ Below w2.heap.size w2 wx)
  case first =>
    go_wp2
    go_loopw [8] (fun i wr => ∃ k : Nat, k ≤ 64 ∧ i = .int .i64 k ∧ Hid (WRow wr g 96 (rnds s (sched b) k).row) ∧ Below w2.heap.size w2 wr) (fun i _ => 64 - (intOf i).toNat)
    case atStart => exact ⟨0, by omega, rfl, R3, b3⟩
    case round =>
      clear R3 b3
      obtain ⟨k, hk, rfl, HR, hb⟩ := hrel
      by_cases hlt : k < 64
      · obtain ⟨wo, rfl⟩ : ∃ wo : World, wo = wr := ⟨_, rfl⟩
        have CW := (HW2.out.below hb (by omega)).at_ (i := k) (by rw [sched_len]; omega)
        have CK := (HK2.out.below hb (by omega)).at_ (i := k) (by rw [kW_len]; omega)
        obtain ⟨x, hx⟩ : ∃ x, x = (sched b).getD k 0 := ⟨_, rfl⟩
        obtain ⟨y, hy⟩ : ∃ y, y = kW.getD k 0 := ⟨_, rfl⟩
        have HRN := Lib.hid (show rnds s (sched b) (k + 1) = rnd (rnds s (sched b) k) y x by rw [hx, hy]; rfl)
        rw [← hx] at CW; rw [← hy] at CK
        clear hx hy
        obtain ⟨r, hr⟩ : ∃ r, r = rnds s (sched b) k := ⟨_, rfl⟩
        rw [← hr] at HRN HR
        clear hr
        obtain ⟨ra, rb, rc, rd, re, rf, rg, rh⟩ := r
        have c0 := HR.out.cell (i := 0) rfl
        have c1 := HR.out.cell (i := 1) rfl
        have c2 := HR.out.cell (i := 2) rfl
        have c4 := HR.out.cell (i := 4) rfl
        have c5 := HR.out.cell (i := 5) rfl
        have c6 := HR.out.cell (i := 6) rfl
        have c7 := HR.out.cell (i := 7) rfl
        have hlt2 : (k : Int) < 64 := by omega
        have HLT := Lib.hid hlt; clear hlt hk
        go_wp2
        go_quiet ((go_at_call 79; exact Calls.quiet_of (l1Turn_i _ _ _ (by omega) (by omega))))
        rename_i nq1
        go_wp2
        go_quiet ((fail))
        rename_i nq2
        go_wp2
        go_upto_region 9 with (fail)
        go_cut [11] (fun s11 wx => s11 = .int .u32 (mixT re rf rg rh y x) ∧ ∃ n, wx = wo.drewN n)
        case first =>
          go_quiet ((fail))
          go_wp2
          go_meet
          exact ⟨congrArg _ (by unfold mixT ad bigE chI nt xr an; omega), drew2 _ _ _⟩
        case rest =>
          obtain ⟨rfl, nq4, rfl⟩ := hcut
          obtain ⟨T, hT⟩ : ∃ T, T = mixT re rf rg rh y x := ⟨_, rfl⟩
          rw [← hT]
          have HT := Lib.hid hT; clear hT
          obtain ⟨V, hV⟩ : ∃ V, V = wo.drewN nq4 := ⟨_, rfl⟩
          rw [← hV]
          have HRV : Hid (WRow V g 96 (W8.mk ra rb rc rd re rf rg rh).row) := by rw [hV]; exact HR
          have hbV : Below w2.heap.size w2 V := by rw [hV]; exact below_drewN hb _
          clear hV c0 c1 c2 c4 c5 c6 c7 CW CK HR hb
          have c0 := HRV.out.cell (i := 0) rfl
          have c1 := HRV.out.cell (i := 1) rfl
          have c2 := HRV.out.cell (i := 2) rfl
          go_wp2
          go_quiet ((go_at_call 79; exact Calls.quiet_of (l1Turn_i _ _ _ (by omega) (by omega))))
          go_upto_region 11 with (fail)
          go_cut [13] (fun s13 wx => s13 = .int .u32 (majI ra rb rc) ∧ ∃ n, wx = V.drewN n)
          case first =>
            go_quiet ((fail))
            go_wp2
            go_meet
            exact ⟨rfl, drew2 _ _ _⟩
          case rest =>
            obtain ⟨rfl, nq6, hw⟩ := hcut
            have HRC : Hid (WRow wc g 96 (W8.mk ra rb rc rd re rf rg rh).row) := by rw [hw]; exact HRV
            have hbC : Below w2.heap.size w2 wc := by rw [hw]; exact below_drewN hbV _
            clear hw HRV hbV c0 c1 c2
            obtain ⟨r, hr⟩ : ∃ r, r = W8.mk ra rb rc rd re rf rg rh := ⟨_, rfl⟩
            rw [← hr] at HRC HRN
            have HRE := Lib.hid hr
            clear hr
            go_wp2
            go_loopw [14] (fun i wr => ∃ n : Nat, n ≤ 7 ∧ i = .int .i64 n ∧ Hid (WRow wr g 96 (shiftAt r.row n)) ∧ Below w2.heap.size w2 wr) (fun i _ => (intOf i).toNat)
            case atStart => exact ⟨7, by omega, rfl, Lib.hid (by rw [shiftAt_full]; exact HRC.out), hbC⟩
            case round =>
              clear HRC hbC
              obtain ⟨n, hn, rfl, HR, hb⟩ := hrel
              by_cases h0 : 0 < n
              · obtain ⟨m, rfl⟩ : ∃ m, n = m + 1 := ⟨n - 1, by omega⟩
                have cm := HR.out.at_ (i := m) (by rw [shiftAt_len _ hn]; omega)
                have cn := HR.out.at_ (i := m + 1) (by rw [shiftAt_len _ hn]; omega)
                have fn := HR.out.frozen (m + 1)
                obtain ⟨z, hz⟩ : ∃ z, z = (shiftAt r.row (m + 1)).getD m 0 := ⟨_, rfl⟩
                obtain ⟨z', hz'⟩ : ∃ z, z = (shiftAt r.row (m + 1)).getD (m + 1) 0 := ⟨_, rfl⟩
                rw [← hz] at cm
                rw [← hz'] at cn
                have HS := Lib.hid (show WRow (wr.setCell ⟨g, m + 1, none⟩ (.int .u32 z)) g 96 (shiftAt r.row m) by rw [← shiftAt_step r (by omega), ← hz]; exact HR.out.set_ _ _)
                clear hz hz'
                have HM := Lib.hid hn
                have hm7 : (m : Int) + 1 < 8 := by omega
                clear hn h0
                go_wp2
                refine ⟨⟨m, by have := HM.out; omega, ?_, HS, hb.setCell hg3 _⟩, ?_⟩
                · simp
                · simp [intOf]
              · obtain rfl : n = 0 := by omega
                have E0 : shiftAt r.row 0 = [ra, ra, rb, rc, rd, re, rf, rg] := by rw [HRE.out]; rfl
                rw [E0] at HR
                have c4 := HR.out.cell (i := 4) rfl
                have f4 := HR.out.frozen 4
                have c0 := HR.out.cell (i := 0) rfl
                have f0 := HR.out.frozen 0
                have HS := Lib.hid ((HR.out.set_ 4 ((rd + T) % 4294967296)).set_ 0 ((T + (bits .xor .u32 (bits .xor .u32 (rotI ra 2) (rotI ra 13)) (rotI ra 22)) + majI ra rb rc) % 4294967296))
                have HRN2 := HRN.out
                have hfin : (rnds s (sched b) (k + 1)).row = ([ra, ra, rb, rc, rd, re, rf, rg].set 4 ((rd + T) % 4294967296)).set 0 ((T + (bits .xor .u32 (bits .xor .u32 (rotI ra 2) (rotI ra 13)) (rotI ra 22)) + majI ra rb rc) % 4294967296) := by
                  rw [HRN.out, HRE.out, rnd_row, ← HT.out]
                  show _ = [(T + bigA ra + majI ra rb rc) % 4294967296, ra, rb, rc, (rd + T) % 4294967296, re, rf, rg]
                  rw [show ad (ad T (bigA ra)) (majI ra rb rc) = (T + bigA ra + majI ra rb rc) % 4294967296 by unfold ad; omega]
                  rfl
                have HFIN := Lib.hid hfin
                clear E0 hfin HRN2
                go_wp2
                have hk := HLT.out
                refine ⟨⟨k + 1, by omega, by go_num, ?_, (hb.setCell hg3 _).setCell hg3 _⟩, by simp [intOf]; omega⟩
                rw [HFIN.out]
                exact HS
      · obtain rfl : k = 64 := by omega
        go_wp2
        go_meet
        exact ⟨HR, hb⟩
  case rest =>
    obtain ⟨HR, hb⟩ := hcut
    clear R3 b3
    have hsz := hb.size
    have gl := HR.out.lt
    have b0c := below_step b02 (by omega) hb
    have hOE := Lib.hid (World.ownsRow_made (base := wc.heap.size) (e := 96) (size := 1) wc #[] 0 (Nat.le_refl _) (Nat.zero_le _) rfl)
    have hbE : Below wc.heap.size wc (wc.alloc (.cells #[] 96)) := by go_grown
    go_wp2
    go_loopw [15, 16] (fun o i wr => ∃ k : Nat, k ≤ 8 ∧ i = .int .i64 k ∧ wr.ownsRow wc.heap.size 96 1 o k (wds ((blockW s b).row.take k)).flatten ∧ Below wc.heap.size wc wr) (fun _ i _ => 8 - (intOf i).toNat)
    case atStart => exact ⟨0, by omega, rfl, hOE.out, hbE⟩
    case round =>
      clear hbE
      obtain ⟨k, hk, rfl, hown, hbr⟩ := hrel
      have hsr := hbr.size
      by_cases hlt : k < 8
      · have lBc : B < wc.heap.size := by omega
        have d1 := ((below_step b0c (by omega) hbr).cell (p := ⟨B, off + k, none⟩) hB).trans (HC.out k _ (getD_of (d := 0) (by rw [row_len]; exact hlt)))
        have d2 := (HR.out.below hbr gl).at_ (i := k) (by rw [row_len]; exact hlt)
        obtain ⟨x, hx⟩ : ∃ x, x = s.row.getD k 0 := ⟨_, rfl⟩
        obtain ⟨y, hy⟩ : ∃ y, y = (rnds s (sched b) 64).row.getD k 0 := ⟨_, rfl⟩
        have HX := Lib.hid (show (blockW s b).row.take (k + 1) = (blockW s b).row.take k ++ [(x + y) % 4294967296] by rw [hx, hy]; exact addW_take _ _ hlt)
        rw [← hx] at d1
        rw [← hy] at d2
        clear hx hy
        have HOW := Lib.hid hown
        have hlt2 : (k : Int) < 8 := by omega
        have HLT := Lib.hid hlt
        clear hown hlt hk
        go_wp2
        go_region_held3 (fun w' => w'.cell? ⟨B, off + k, none⟩ = some (.int .u32 x) ∧ w'.cell? ⟨g, k, none⟩ = some (.int .u32 y))
          (first | exact ⟨d1, d2⟩ | exact ⟨z1, z2⟩ | go_keep)
          ((refine step_app0g (w0 := wr.drew) rfl (.tmp 142) (.tmp 152) _ rfl wc.heap.size 96 Tryd.underlying97 info_u32 rfl (by omega) (by omega) _ k (wds ((blockW s b).row.take k)) rfl (by exact HOW.out) rfl (by simp [Value.oneCell']) rfl (by have := HLT.out; omega) (by exact hsr) ?_; intro v9 w9 hown9 hg9 _; have hb9 : Below wc.heap.size wr w9 := (Below.refl wc.heap.size wr).drew.grown hg9 (by exact hsr) (fun k hk => (HOW.out.lt k hk).1); have z1 := (hb9.cell (p := ⟨B, off + k, none⟩) lBc).trans d1; have z2 := (hb9.cell (p := ⟨g, k, none⟩) gl).trans d2))
        go_wp2
        have hk := HLT.out
        refine ⟨⟨k + 1, by omega, by go_num, ?_, hbr.trans hb9⟩, by simp [intOf]; omega⟩
        rw [HX.out, wds_snoc]
        exact hown9
      · obtain rfl : k = 8 := by omega
        go_wp2
        go_ret
        refine ⟨_, rfl, own_base hown (by omega), b0c.trans (hbr.mono (by omega))⟩
end Go.Proofs.YtaieopdfkapgdaaDoor
