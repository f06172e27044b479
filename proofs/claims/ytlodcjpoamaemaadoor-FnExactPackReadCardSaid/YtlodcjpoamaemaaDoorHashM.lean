/- The program's block: (*impl.hasher).mix. -/
import Derived.Test.YtlodcjpoamaemaaDoorHashA
import Derived.BigRegion
import Derived.Deep.MidRow
import Derived.Lib.LaidTab
namespace Go.Proofs.YtlodcjpoamaemaaDoor
open Go.RowKit
set_option linter.unusedSimpArgs false
set_option linter.unusedVariables false

/-- The world holds the table of the rounds' words. -/
def Kww (w : World) : Prop := Lib.TabIs Tryd.prog w "loop.example/gatelodge/impl.hashWords" .u32 kW
theorem kwwGlob : Tryd.prog.globalNamed "loop.example/gatelodge/impl.hashWords" = some 3 := by kernel_rfl
theorem Kww.blk {w : World} (h : Kww w) : ∃ t fr, w.heap[3]? = some (.cells (kW.map fun z => Value.int .u32 z).toArray t fr) := by
  unfold Kww Lib.TabIs World.var? at h
  rw [kwwGlob] at h
  simp only [Option.bind_some] at h
  cases hb : w.heap[3]? with
  | none => rw [hb] at h; cases h
  | some o =>
    rw [hb] at h
    cases o with
    | cells c t fr =>
      simp only [Option.some.injEq] at h
      exact ⟨t, fr, by rw [h]⟩
    | map es clock => cases h
    | _ => cases h
theorem Kww.of_block {w w' : World} (h : Kww w) (e : w'.heap[3]? = w.heap[3]?) : Kww w' := by
  unfold Kww Lib.TabIs World.var? at h ⊢
  rw [kwwGlob] at h ⊢
  simp only [Option.bind_some] at h ⊢
  rw [e]
  exact h
theorem Kww.lt {w : World} (h : Kww w) : 3 < w.heap.size := by
  obtain ⟨t, fr, e⟩ := h.blk
  exact (Array.getElem?_eq_some_iff.1 e).1
theorem Kww.below {w w' : World} {B : Nat} (h : Kww w) (hb : Below B w w') (hB : w.heap.size ≤ B) : Kww w' := h.of_block (hb.block _ (by have := h.lt; omega))
theorem Kww.cell {w : World} (h : Kww w) {i : Nat} (hi : i < 64) : w.cell? ⟨3, i, none⟩ = some (.int .u32 (kW.getD i 0)) := Lib.TabIs.cell h kwwGlob i hi
theorem Kww.apart {w : World} (h : Kww w) {p : Nat} {t : TypeId} {cs : Array Value} (hp : Blk w p t cs) (hs : cs.size ≠ 64) : p ≠ 3 := by
  rintro rfl
  obtain ⟨t', fr, e⟩ := h.blk
  unfold Blk at hp
  rw [hp] at e
  injection e with e
  injection e with e1 _ _
  exact hs (by rw [e1]; rfl)
theorem below_setRow {B : Nat} {a w : World} (h : Below B a w) {g : Nat} (hg : B ≤ g) (cs : Array Value) : Below B a (w.setRow g cs) :=
  ⟨h.os, h.tape, h.output, by have := h.size; unfold World.setRow; simpa using this, fun k hk => by
    unfold World.setRow
    show (w.heap.modify g _)[k]? = _
    rw [Array.getElem?_modify, if_neg (by omega)]
    exact h.block k hk⟩
theorem Blk.setRow_ {w : World} {g : Nat} {t : TypeId} {old : Array Value} (h : Blk w g t old) (cs : Array Value) : Blk (w.setRow g cs) g t cs := setRow_heap w g old cs t (0, 0) h

/-- A store of eight words at once. -/
theorem store8 {ops : Array Oper} {rest : List Oper} {o : Oper} {a : Act} {w : World} {Q : Exit → Act → World → Prop} (hgd : o.guard = none) (x y : Operand) (ho : o.op = .store 118 x y)
    (g : Nat) (hx : a.eval x = .pointer (some ⟨g, 0, none⟩)) (v0 v1 v2 v3 v4 v5 v6 v7 : Int) (hy : a.eval y = .agg #[.int .u32 v0, .int .u32 v1, .int .u32 v2, .int .u32 v3, .int .u32 v4, .int .u32 v5, .int .u32 v6, .int .u32 v7])
    (t : TypeId) (old : Array Value) (hg : Blk w g t old) (hs : old.size = 8)
    (h : wpList Tryd.prog ops Q rest (a.put o.dst undef) (w.setRow g #[.int .u32 v0, .int .u32 v1, .int .u32 v2, .int .u32 v3, .int .u32 v4, .int .u32 v5, .int .u32 v6, .int .u32 v7])) : wpList Tryd.prog ops Q (o :: rest) a w :=
  wpList_store_row hgd 118 x y ho g _ hx hy t old hg (by kernel_rfl) hs (by simp [Value.oneCell']) h

theorem below_gr {w w' : World} (h : Below w.heap.size w w') (r : Option Nat) : w.grownBy w' r := ⟨h.os, h.tape, h.output, h.size, fun k hk _ => h.block k hk⟩
theorem grown_dn {w wr : World} {p : Nat} (h : w.grownBy wr (some p)) (n i : Nat) (v : Value) : w.grownBy ((wr.drewN n).setCell ⟨p, i, none⟩ v) (some p) :=
  World.grownBy.trans h ((show wr.grownBy (wr.drewN n) (some p) from ⟨rfl, rfl, rfl, Nat.le_refl _, fun _ _ _ => rfl⟩).trans (grown_set (wr.drewN n) p i v))
/-- A row whose first words are turned. -/
def mixRow (s t : W8) (k : Nat) : List Int := (addW s t).row.take k ++ s.row.drop k
theorem mixRow_at (s t : W8) {k : Nat} (h : k < 8) : (mixRow s t k)[k]? = some (s.row.getD k 0) := by
  obtain rfl | rfl | rfl | rfl | rfl | rfl | rfl | rfl : k = 0 ∨ k = 1 ∨ k = 2 ∨ k = 3 ∨ k = 4 ∨ k = 5 ∨ k = 6 ∨ k = 7 := by omega
  all_goals rfl
theorem mixRow_set (s t : W8) {k : Nat} (h : k < 8) : (mixRow s t k).set k ((s.row.getD k 0 + t.row.getD k 0) % 4294967296) = mixRow s t (k + 1) := by
  obtain rfl | rfl | rfl | rfl | rfl | rfl | rfl | rfl : k = 0 ∨ k = 1 ∨ k = 2 ∨ k = 3 ∨ k = 4 ∨ k = 5 ∨ k = 6 ∨ k = 7 := by omega
  all_goals rfl
theorem mixRow_len (s t : W8) {k : Nat} (h : k ≤ 8) : (mixRow s t k).length = 8 := by
  unfold mixRow
  rw [List.length_append, List.length_take, List.length_drop, row_len, row_len]
  omega

/-- The cells of a hasher. -/
def hcells (ws : List Int) (blk : List UInt8) (used : Nat) (taken : Int) : Array Value :=
  (ws.map (Value.int .u32) ++ (blk.map u8V ++ [Value.int .i64 (used : Int), Value.int .u64 taken])).toArray
theorem hcells_w {ws : List Int} {blk : List UInt8} {used : Nat} {taken : Int} {i : Nat} {x : Int} (h : ws[i]? = some x) : (hcells ws blk used taken)[i]? = some (.int .u32 x) := by
  unfold hcells
  have hi := (List.getElem?_eq_some_iff.1 h).1
  rw [List.getElem?_toArray, List.getElem?_append_left (by rw [List.length_map]; exact hi), List.getElem?_map, h]
  rfl
theorem hcells_b {ws : List Int} {blk : List UInt8} {used : Nat} {taken : Int} {i : Nat} {x : UInt8} (hl : ws.length = 8) (h : blk[i]? = some x) : (hcells ws blk used taken)[8 + i]? = some (u8V x) := by
  unfold hcells
  have hi := (List.getElem?_eq_some_iff.1 h).1
  rw [List.getElem?_toArray, List.getElem?_append_right (by rw [List.length_map, hl]; omega), List.length_map, hl, show 8 + i - 8 = i by omega, List.getElem?_append_left (by rw [List.length_map]; exact hi), List.getElem?_map, h]
  rfl
theorem hcells_used {ws : List Int} {blk : List UInt8} {used : Nat} {taken : Int} (hl : ws.length = 8) (hb : blk.length = 64) : (hcells ws blk used taken)[72]? = some (.int .i64 (used : Int)) := by
  unfold hcells
  rw [List.getElem?_toArray, List.getElem?_append_right (by rw [List.length_map, hl]; omega), List.length_map, hl, List.getElem?_append_right (by rw [List.length_map, hb]; omega), List.length_map, hb]
  rfl
theorem hcells_taken {ws : List Int} {blk : List UInt8} {used : Nat} {taken : Int} (hl : ws.length = 8) (hb : blk.length = 64) : (hcells ws blk used taken)[73]? = some (.int .u64 taken) := by
  unfold hcells
  rw [List.getElem?_toArray, List.getElem?_append_right (by rw [List.length_map, hl]; omega), List.length_map, hl, List.getElem?_append_right (by rw [List.length_map, hb]; omega), List.length_map, hb]
  rfl
theorem hcells_size {ws : List Int} {blk : List UInt8} {used : Nat} {taken : Int} (hl : ws.length = 8) (hb : blk.length = 64) : (hcells ws blk used taken).size = 74 := by
  simp [hcells, hl, hb]
theorem hcells_setw {ws : List Int} {blk : List UInt8} {used : Nat} {taken : Int} {i : Nat} (hi : i < ws.length) (x : Int) : (hcells ws blk used taken).setIfInBounds i (.int .u32 x) = hcells (ws.set i x) blk used taken := by
  unfold hcells
  rw [List.setIfInBounds_toArray, List.set_append_left _ _ (by rw [List.length_map]; exact hi), List.map_set]
theorem hcells_setused {ws : List Int} {blk : List UInt8} {used : Nat} {taken : Int} (hl : ws.length = 8) (hb : blk.length = 64) (n : Nat) : (hcells ws blk used taken).setIfInBounds 72 (.int .i64 (n : Int)) = hcells ws blk n taken := by
  unfold hcells
  rw [List.setIfInBounds_toArray, List.set_append_right _ _ (by rw [List.length_map, hl]; omega), List.length_map, hl, List.set_append_right _ _ (by rw [List.length_map, hb]; omega), List.length_map, hb]
  rfl
theorem hcells_settaken {ws : List Int} {blk : List UInt8} {used : Nat} {taken : Int} (hl : ws.length = 8) (hb : blk.length = 64) (n : Int) : (hcells ws blk used taken).setIfInBounds 73 (.int .u64 n) = hcells ws blk used n := by
  unfold hcells
  rw [List.setIfInBounds_toArray, List.set_append_right _ _ (by rw [List.length_map, hl]; omega), List.length_map, hl, List.set_append_right _ _ (by rw [List.length_map, hb]; omega), List.length_map, hb]
  rfl

set_option maxHeartbeats 8000000 in
set_option maxRecDepth 100000 in
theorem mix_any (p : Nat) (s : W8) (blk : List UInt8) (used : Nat) (taken : Int) (w : World) (hb : blk.length = 64) (hp : Blk w p 120 (hcells s.row blk used taken)) (hkw : Kww w) :
    Calls Tryd.prog 70 #[.pointer (some ⟨p, 0, none⟩)] w fun e w' => e = .returned (.tuple #[]) ∧ Blk w' p 120 (hcells (blockW s blk).row blk used taken) ∧ w.grownBy w' (some p) := by
  go_enter Tryd.func70, Tryd.ntmps70
  have hpl := hp.lt
  have HP := Lib.hid hp; have HB := Lib.hid hb; have HKW := Lib.hid hkw
  clear hp hb hkw
  go_upto_block 0 with (fail)
  obtain ⟨gw, hgw⟩ : ∃ g, g = w.heap.size := ⟨_, rfl⟩
  have W0 : WRow (w.alloc (.cells (List.replicate 64 (Value.int .u32 0)).toArray 129)) gw 129 (firstW blk 0 ++ List.replicate (64 - 0) 0) := by
    rw [hgw]
    refine ⟨_, Blk.new _ _ _, fun i x hx => ?_⟩
    rw [List.getElem?_toArray]
    rw [show firstW blk 0 ++ List.replicate (64 - 0) 0 = List.replicate 64 (0 : Int) from rfl] at hx
    obtain ⟨h1, h2⟩ := List.getElem?_eq_some_iff.1 hx
    rw [List.getElem_replicate] at h2
    subst h2
    rw [List.length_replicate] at h1
    rw [List.getElem?_eq_getElem (by rw [List.length_replicate]; exact h1), List.getElem_replicate]
  have HW0 := Lib.hid W0
  have hne : ¬ p = gw := by omega
  have hne2 : ¬ gw = p := by omega
  have hle : w.heap.size ≤ gw := by omega
  rw [← hgw]
  have HGW := Lib.hid hgw
  clear W0 hgw
  go_cut [] (fun wx => Hid (WRow wx gw 129 (firstW blk 16 ++ List.replicate 48 0)) ∧ Below w.heap.size w wx)
  case first =>
    go_wp2
    go_loopw [20] (fun i wr => ∃ k : Nat, k ≤ 16 ∧ i = .int .i64 k ∧ Hid (WRow wr gw 129 (firstW blk k ++ List.replicate (64 - k) 0)) ∧ Below w.heap.size w wr) (fun i _ => 16 - (intOf i).toNat)
    case atStart => exact ⟨0, by omega, rfl, HW0, by go_grown⟩
    case round =>
      clear HW0
      obtain ⟨k, hk, rfl, HR, hbw⟩ := hrel
      by_cases hlt : k < 16
      · have hlt2 : (k : Int) < 16 := by omega
        obtain ⟨x0, hx0⟩ : ∃ x, x = byteAt blk (4 * k) := ⟨_, rfl⟩
        have c0 : wr.cell? ⟨p, 8 + 4 * k, none⟩ = some (.int .u8 x0) := by rw [hx0]; exact (HP.out.below hbw hpl).cell _ |>.trans (hcells_b rfl (getD_of (by rw [HB.out]; omega)))
        have w0 : IntKind.u32.wrap x0 = x0 := by rw [hx0]; exact byteAt_wrap _ _
        have v0 : x0 % 4294967296 = x0 := by rw [hx0]; exact byteAt_mod _ _
        obtain ⟨x1, hx1⟩ : ∃ x, x = byteAt blk (4 * k + 1) := ⟨_, rfl⟩
        have c1 : wr.cell? ⟨p, 8 + (4 * k + 1), none⟩ = some (.int .u8 x1) := by rw [hx1]; exact (HP.out.below hbw hpl).cell _ |>.trans (hcells_b rfl (getD_of (by rw [HB.out]; omega)))
        have w1 : IntKind.u32.wrap x1 = x1 := by rw [hx1]; exact byteAt_wrap _ _
        have v1 : x1 % 4294967296 = x1 := by rw [hx1]; exact byteAt_mod _ _
        obtain ⟨x2, hx2⟩ : ∃ x, x = byteAt blk (4 * k + 2) := ⟨_, rfl⟩
        have c2 : wr.cell? ⟨p, 8 + (4 * k + 2), none⟩ = some (.int .u8 x2) := by rw [hx2]; exact (HP.out.below hbw hpl).cell _ |>.trans (hcells_b rfl (getD_of (by rw [HB.out]; omega)))
        have w2 : IntKind.u32.wrap x2 = x2 := by rw [hx2]; exact byteAt_wrap _ _
        have v2 : x2 % 4294967296 = x2 := by rw [hx2]; exact byteAt_mod _ _
        obtain ⟨x3, hx3⟩ : ∃ x, x = byteAt blk (4 * k + 3) := ⟨_, rfl⟩
        have c3 : wr.cell? ⟨p, 8 + (4 * k + 3), none⟩ = some (.int .u8 x3) := by rw [hx3]; exact (HP.out.below hbw hpl).cell _ |>.trans (hcells_b rfl (getD_of (by rw [HB.out]; omega)))
        have w3 : IntKind.u32.wrap x3 = x3 := by rw [hx3]; exact byteAt_wrap _ _
        have v3 : x3 % 4294967296 = x3 := by rw [hx3]; exact byteAt_mod _ _
        have HX := Lib.hid (show firstW blk (k + 1) = firstW blk k ++ [word4 x0 x1 x2 x3] by rw [hx0, hx1, hx2, hx3]; rfl)
        clear hx0 hx1 hx2 hx3
        obtain ⟨z, hz⟩ : ∃ z, (firstW blk k ++ List.replicate (64 - k) 0)[k]? = some z := ⟨_, List.getElem?_eq_getElem (by rw [List.length_append, firstW_len, List.length_replicate]; omega)⟩
        have cz := HR.out.cell hz
        have fz := HR.out.frozen k
        have HS := Lib.hid (show WRow (wr.setCell ⟨gw, k, none⟩ (.int .u32 (word4 x0 x1 x2 x3))) gw 129 (firstW blk (k + 1) ++ List.replicate (64 - (k + 1)) 0) by
          have := HR.out.set_ k (word4 x0 x1 x2 x3)
          rw [List.set_append_right _ _ (by rw [firstW_len]; exact Nat.le_refl _), firstW_len, Nat.sub_self, show 64 - k = (64 - (k + 1)) + 1 by omega, List.replicate_succ, List.set_cons_zero] at this
          rw [HX.out, List.append_assoc]
          exact this)
        have HK := Lib.hid hlt
        have HZ := Lib.hid hz
        clear hlt hk hz
        go_wp2
        have p0 : 0 ≤ (k : Int) := by omega
        have p1 : (k : Int) < 64 := by omega
        have e0 : IntKind.i64.wrap (4 * (k : Int)) = 4 * (k : Int) := IntWalk.i64_in _ (by omega)
        have t0 : (4 * (k : Int)).toNat = 4 * k := by omega
        have q0 : 0 ≤ 4 * (k : Int) := by omega
        have r0 : 4 * (k : Int) < 64 := by omega
        have e1 : IntKind.i64.wrap (4 * (k : Int) + 1) = 4 * (k : Int) + 1 := IntWalk.i64_in _ (by omega)
        have t1 : (4 * (k : Int) + 1).toNat = 4 * k + 1 := by omega
        have q1 : 0 ≤ 4 * (k : Int) + 1 := by omega
        have r1 : 4 * (k : Int) + 1 < 64 := by omega
        have e2 : IntKind.i64.wrap (4 * (k : Int) + 2) = 4 * (k : Int) + 2 := IntWalk.i64_in _ (by omega)
        have t2 : (4 * (k : Int) + 2).toNat = 4 * k + 2 := by omega
        have q2 : 0 ≤ 4 * (k : Int) + 2 := by omega
        have r2 : 4 * (k : Int) + 2 < 64 := by omega
        have e3 : IntKind.i64.wrap (4 * (k : Int) + 3) = 4 * (k : Int) + 3 := IntWalk.i64_in _ (by omega)
        have t3 : (4 * (k : Int) + 3).toNat = 4 * k + 3 := by omega
        have q3 : 0 ≤ 4 * (k : Int) + 3 := by omega
        have r3 : 4 * (k : Int) + 3 < 64 := by omega
        go_region_held3 (fun w' => w'.cell? ⟨p, 8 + 4 * k, none⟩ = some (.int .u8 x0) ∧ w'.cell? ⟨p, 8 + (4 * k + 1), none⟩ = some (.int .u8 x1) ∧ w'.cell? ⟨p, 8 + (4 * k + 2), none⟩ = some (.int .u8 x2) ∧ w'.cell? ⟨p, 8 + (4 * k + 3), none⟩ = some (.int .u8 x3)) (first | exact ⟨c0, c1, c2, c3⟩ | go_keep) (fail)
        clear p0 p1 e0 e1 e2 e3 t0 t1 t2 t3 q0 q1 q2 q3 r0 r1 r2 r3
        go_wp2
        have hk := HK.out
        refine ⟨⟨k + 1, by omega, by go_num, HS, ?_⟩, by simp [intOf]; omega⟩
        first | exact hbw.setCell hle _ | exact hbw.drew.setCell hle _ | exact (below_drewN hbw _).setCell hle _
      · obtain rfl : k = 16 := by omega
        go_wp2
        go_meet
        exact ⟨HR, hbw⟩
  case rest =>
    obtain ⟨HR, hbw⟩ := hcut
    clear HW0
    obtain ⟨F, hF⟩ : ∃ F, F = firstW blk 16 := ⟨_, rfl⟩
    rw [← hF] at HR
    have HFl := Lib.hid (show F.length = 16 by rw [hF, firstW_len])
    have HF := Lib.hid (show sched blk = growW 48 F by rw [hF]; rfl)
    clear hF
    go_upto_block 2 with (fail)
    go_cut [] (fun wx => Hid (WRow wx gw 129 (sched blk)) ∧ Below w.heap.size w wx)
    case first =>
      go_wp2
      go_loopw [5] (fun i wr => ∃ j : Nat, j ≤ 48 ∧ i = .int .i64 ((j : Int) + 16) ∧ Hid (WRow wr gw 129 (growW j F ++ List.replicate (48 - j) 0)) ∧ Below w.heap.size w wr) (fun i _ => 64 - (intOf i).toNat)
      case atStart => exact ⟨0, by omega, rfl, HR, hbw⟩
      case round =>
        clear HR hbw
        obtain ⟨j, hj, rfl, HR, hbw⟩ := hrel
        by_cases hlt : j < 48
        · obtain ⟨G, hG⟩ : ∃ G, G = growW j F := ⟨_, rfl⟩
          have hGl : G.length = j + 16 := by rw [hG, growW_len, HFl.out]; omega
          have HG := Lib.hid (show growW (j + 1) F = G ++ [nextW G] by rw [hG]; rfl)
          rw [← hG] at HR
          clear hG
          have cell : ∀ i, i < j + 16 → wr.cell? ⟨gw, i, none⟩ = some (.int .u32 (G.getD i 0)) := fun i hi => HR.out.cell (by rw [List.getElem?_append_left (by omega)]; exact getD_of (by omega))
          have HN := Lib.hid (show nextW G = ad (ad (ad (G.getD j 0) (smallS (G.getD (j + 1) 0))) (G.getD (j + 9) 0)) (greatS (G.getD (j + 14) 0)) by
            unfold nextW; rw [hGl, show j + 16 - 16 = j by omega, show j + 16 - 15 = j + 1 by omega, show j + 16 - 7 = j + 9 by omega, show j + 16 - 2 = j + 14 by omega])
          obtain ⟨y16, h16⟩ : ∃ y, y = G.getD j 0 := ⟨_, rfl⟩
          obtain ⟨y15, h15⟩ : ∃ y, y = G.getD (j + 1) 0 := ⟨_, rfl⟩
          obtain ⟨y7, h7⟩ : ∃ y, y = G.getD (j + 9) 0 := ⟨_, rfl⟩
          obtain ⟨y2, h2⟩ : ∃ y, y = G.getD (j + 14) 0 := ⟨_, rfl⟩
          rw [← h16, ← h15, ← h7, ← h2] at HN
          have c16 := cell j (by omega)
          have c15 := cell (j + 1) (by omega)
          have c7 := cell (j + 9) (by omega)
          have c2 := cell (j + 14) (by omega)
          rw [← h16] at c16; rw [← h15] at c15; rw [← h7] at c7; rw [← h2] at c2
          clear cell h16 h15 h7 h2
          obtain ⟨z, hz⟩ : ∃ z, (G ++ List.replicate (48 - j) 0)[j + 16]? = some z := ⟨_, List.getElem?_eq_getElem (by rw [List.length_append, hGl, List.length_replicate]; omega)⟩
          have cz := HR.out.cell hz
          have fz := HR.out.frozen (j + 16)
          have HS : Hid (∀ W : World, WRow W gw 129 (G ++ List.replicate (48 - j) 0) → WRow (W.setCell ⟨gw, j + 16, none⟩ (.int .u32 (ad (ad (ad y16 (smallS y15)) y7) (greatS y2)))) gw 129 (growW (j + 1) F ++ List.replicate (48 - (j + 1)) 0)) := fun W h => by
            have := h.set_ (j + 16) (ad (ad (ad y16 (smallS y15)) y7) (greatS y2))
            rw [List.set_append_right _ _ (by rw [hGl]; exact Nat.le_refl _), hGl, Nat.sub_self, show 48 - j = (48 - (j + 1)) + 1 by omega, List.replicate_succ, List.set_cons_zero] at this
            rw [HG.out, HN.out, List.append_assoc]
            exact this
          have HGl := Lib.hid hGl
          have hlt2 : (j : Int) + 16 < 64 := by omega
          have HJ := Lib.hid hlt
          have HZ := Lib.hid hz
          clear hj hlt hGl hz
          go_wp2
          have e15 : IntKind.i64.wrap ((j : Int) + 16 - 15) = j + 1 := by rw [IntWalk.i64_in _ (by omega)]; omega
          have e2 : IntKind.i64.wrap ((j : Int) + 16 - 2) = j + 14 := by rw [IntWalk.i64_in _ (by omega)]; omega
          have e15b : IntKind.i64.wrap ((j : Int) + 1) = j + 1 := IntWalk.i64_in _ (by omega)
          have e2b : IntKind.i64.wrap ((j : Int) + 14) = j + 14 := IntWalk.i64_in _ (by omega)
          have t15 : ((j : Int) + 1).toNat = j + 1 := by omega
          have t2 : ((j : Int) + 14).toNat = j + 14 := by omega
          have p15 : 0 ≤ (j : Int) + 1 := by omega
          have p2 : 0 ≤ (j : Int) + 14 := by omega
          have q15 : (j : Int) + 1 < 64 := by omega
          have q2 : (j : Int) + 14 < 64 := by omega
          go_quiet ((fail))
          clear e15 e2 e15b e2b t15 t2 p15 p2 q15 q2
          go_wp2_with fail
          refine (rotl7 _ _).mono ?_; rintro e w' ⟨rfl, rfl⟩
          go_wp2_with fail
          refine (rotl18 _ _).mono ?_; rintro e w' ⟨rfl, rfl⟩
          go_wp2_with fail
          refine (rotl17 _ _).mono ?_; rintro e w' ⟨rfl, rfl⟩
          go_wp2_with fail
          refine (rotl19 _ _).mono ?_; rintro e w' ⟨rfl, rfl⟩
          go_wp2
          have e16 : IntKind.i64.wrap ((j : Int) + 16 - 16) = j := by rw [IntWalk.i64_in _ (by omega)]; omega
          have e16b : IntKind.i64.wrap (j : Int) = j := IntWalk.i64_in _ (by omega)
          have e7 : IntKind.i64.wrap ((j : Int) + 16 - 7) = j + 9 := by rw [IntWalk.i64_in _ (by omega)]; omega
          have e7b : IntKind.i64.wrap ((j : Int) + 9) = j + 9 := IntWalk.i64_in _ (by omega)
          have t7 : ((j : Int) + 9).toNat = j + 9 := by omega
          have t0 : ((j : Int) + 16).toNat = j + 16 := by omega
          have p16 : 0 ≤ (j : Int) := by omega
          have p7 : 0 ≤ (j : Int) + 9 := by omega
          have p0 : 0 ≤ (j : Int) + 16 := by omega
          have q16 : (j : Int) < 64 := by omega
          have q7 : (j : Int) + 9 < 64 := by omega
          have n1 : ¬ j + 9 = j + 16 := by omega
          have n2 : ¬ j = j + 16 := by omega
          have n3 : ¬ j + 16 = j + 9 := by omega
          have n4 : ¬ j + 16 = j := by omega
          have kA : ∀ (W : World) (v : Value), W.cell? ⟨gw, j, none⟩ = some (.int .u32 y16) → (W.setCell ⟨gw, j + 16, none⟩ v).cell? ⟨gw, j, none⟩ = some (.int .u32 y16) := fun W v h => (World.cell?_setCell_other W _ _ v (fun e => by injection e; omega)).trans h
          have kB : ∀ (W : World) (v : Value), W.cell? ⟨gw, j + 9, none⟩ = some (.int .u32 y7) → (W.setCell ⟨gw, j + 16, none⟩ v).cell? ⟨gw, j + 9, none⟩ = some (.int .u32 y7) := fun W v h => (World.cell?_setCell_other W _ _ v (fun e => by injection e; omega)).trans h
          have KA := Lib.hid kA; have KB := Lib.hid kB
          clear kA kB
          go_region_held3 (fun w' => w'.cell? ⟨gw, j, none⟩ = some (.int .u32 y16) ∧ w'.cell? ⟨gw, j + 9, none⟩ = some (.int .u32 y7)) (first | exact ⟨c16, c7⟩ | exact ⟨KA.out _ _ c16, KB.out _ _ c7⟩ | go_keep) (fail)
          clear e16 e16b e7 e7b t7 t0 p16 p7 p0 q16 q7 n1 n2 n3 n4
          go_wp2
          have hj := HJ.out
          refine ⟨⟨j + 1, by omega, ?_, ?_, ?_⟩, ?_⟩
          · simp; omega
          · exact Lib.hid (HS.out _ (HR.out.drewN _))
          · first | exact hbw.setCell hle _ | exact hbw.drew.setCell hle _ | exact (below_drewN hbw _).setCell hle _ | exact (below_drewN hbw _).drew.setCell hle _
          · simp [intOf]; omega
        · obtain rfl : j = 48 := by omega
          go_wp2
          go_meet
          refine ⟨Lib.hid ?_, hbw⟩
          have := HR.out
          rw [HF.out]
          simpa using this
    case rest =>
      obtain ⟨HR, hbw⟩ := hcut
      obtain ⟨wz, rfl⟩ : ∃ wz : World, wz = wc := ⟨_, rfl⟩
      obtain ⟨sa, sb, sc, sd, se, sf, sg, sh⟩ := s
      have hr : wz.rangeAt p 0 [.int .u32 sa, .int .u32 sb, .int .u32 sc, .int .u32 sd, .int .u32 se, .int .u32 sf, .int .u32 sg, .int .u32 sh] := fun j v hv => by
        have hv' : ([sa, sb, sc, sd, se, sf, sg, sh].map (Value.int .u32))[j]? = some v := hv
        rw [List.getElem?_map] at hv'
        obtain ⟨x, hx, rfl⟩ := Option.map_eq_some_iff.1 hv'
        rw [Nat.zero_add]
        exact ((HP.out.below hbw hpl).cell j).trans (hcells_w hx)
      have HRR := Lib.hid hr
      have hi8 : (Tryd.prog.info? 118).map (·.size) = some 8 := by kernel_rfl
      have HI8 := Lib.hid hi8
      clear hr hi8
      go_upto_block 4 with (refine wpList_load_mid rfl 118 (.tmp 110) rfl p 0 rfl [.int .u32 sa, .int .u32 sb, .int .u32 sc, .int .u32 sd, .int .u32 se, .int .u32 sf, .int .u32 sg, .int .u32 sh] _ HRR.out Tryd.underlying118 rfl HI8.out ?_)
      obtain ⟨gs, hgs⟩ : ∃ g, g = wz.heap.size := ⟨_, rfl⟩
      obtain ⟨T, hT⟩ : ∃ T : W8, T = ⟨sa, sb, sc, sd, se, sf, sg, sh⟩ := ⟨_, rfl⟩
      have hgle : wz.heap.size ≤ gs := by omega
      have HS0 : Hid (Blk (wz.alloc (.cells #[.int .u32 sa, .int .u32 sb, .int .u32 sc, .int .u32 sd, .int .u32 se, .int .u32 sf, .int .u32 sg, .int .u32 sh] 118)) gs 118 ((rnds T (sched blk) 0).row.map (Value.int .u32)).toArray) := by rw [hgs, hT]; exact Blk.new _ _ _
      rw [← hgs]
      have HT := Lib.hid hT
      have HKC := Lib.hid (HKW.out.below hbw (Nat.le_refl _))
      have hplc : p < wz.heap.size := by have := hbw.size; omega
      have hgwl := HR.out.lt
      have hkl := HKC.out.lt
      clear hgs hT
      have hsi : (Tryd.prog.info? 118).map (·.size) = some 8 := HI8.out
      have HSI := Lib.hid hsi
      clear hsi
      go_cut [] (fun wx => Hid (Blk wx gs 118 ((rnds T (sched blk) 64).row.map (Value.int .u32)).toArray) ∧ Below wz.heap.size wz wx)
      case first =>
        go_wp2
        go_loopw [112] (fun i wr => ∃ k : Nat, k ≤ 64 ∧ i = .int .i64 k ∧ Hid (Blk wr gs 118 ((rnds T (sched blk) k).row.map (Value.int .u32)).toArray) ∧ Below wz.heap.size wz wr) (fun i _ => 64 - (intOf i).toNat)
        case atStart => exact ⟨0, by omega, rfl, HS0, by go_grown⟩
        case round =>
          clear HS0
          obtain ⟨k, hk, rfl, HR3, hb3⟩ := hrel
          by_cases hlt : k < 64
          · obtain ⟨wo, rfl⟩ : ∃ wo : World, wo = wr := ⟨_, rfl⟩
            have CW := (HR.out.below hb3 hgwl).at_ (i := k) (by rw [sched_len]; omega)
            have CK := (HKC.out.below hb3 (Nat.le_refl _)).cell hlt
            obtain ⟨x, hx⟩ : ∃ x, x = (sched blk).getD k 0 := ⟨_, rfl⟩
            obtain ⟨y, hy⟩ : ∃ y, y = kW.getD k 0 := ⟨_, rfl⟩
            have HRN := Lib.hid (show rnds T (sched blk) (k + 1) = rnd (rnds T (sched blk) k) y x by rw [hx, hy]; rfl)
            rw [← hx] at CW; rw [← hy] at CK
            clear hx hy
            obtain ⟨r, hr⟩ : ∃ r, r = rnds T (sched blk) k := ⟨_, rfl⟩
            rw [← hr] at HRN HR3
            clear hr
            obtain ⟨ra, rb, rc, rd, re, rf, rg, rh⟩ := r
            have c0 := (show _ = some (Value.int .u32 ra) from HR3.out.cell 0)
            have c1 := (show _ = some (Value.int .u32 rb) from HR3.out.cell 1)
            have c2 := (show _ = some (Value.int .u32 rc) from HR3.out.cell 2)
            have c3 := (show _ = some (Value.int .u32 rd) from HR3.out.cell 3)
            have c4 := (show _ = some (Value.int .u32 re) from HR3.out.cell 4)
            have c5 := (show _ = some (Value.int .u32 rf) from HR3.out.cell 5)
            have c6 := (show _ = some (Value.int .u32 rg) from HR3.out.cell 6)
            have c7 := (show _ = some (Value.int .u32 rh) from HR3.out.cell 7)
            have p0 : 0 ≤ (k : Int) := by omega
            have p1 : (k : Int) < 64 := by omega
            have HK := Lib.hid hlt; clear hlt hk
            go_wp2
            go_quiet ((fail))
            go_wp2_with fail
            refine (rotl6 _ _).mono ?_; rintro e w' ⟨rfl, rfl⟩
            go_wp2_with fail
            refine (rotl11 _ _).mono ?_; rintro e w' ⟨rfl, rfl⟩
            go_wp2_with fail
            refine (rotl25 _ _).mono ?_; rintro e w' ⟨rfl, rfl⟩
            go_upto_region 21 with (fail)
            have e : (if IntKind.u32.signed = true then (-1 : Int) else IntKind.u32.max) = IntKind.u32.max := rfl
            rw [e]
            clear e
            go_cut [16] (fun s16 wx => s16 = .int .u32 (mixT re rf rg rh y x) ∧ ∃ n, wx = wo.drewN n)
            case first =>
              clear HRN HK HR3 hb3 HR HRR HI8 HSI HT HKC HB HKW HP c0 c1 c2 c3 c4 c5 c6
              go_region
              go_wp2
              go_meet
              refine ⟨congrArg _ ?_, _, rfl⟩
              unfold mixT ad bigE chI nt xr an
              omega
            case rest =>
              obtain ⟨rfl, nq, hw⟩ := hcut
              obtain ⟨M, hM⟩ : ∃ M, M = mixT re rf rg rh y x := ⟨_, rfl⟩
              rw [← hM]
              have HM := Lib.hid hM; clear hM
              have HR4 : Hid (Blk wc gs 118 ((W8.mk ra rb rc rd re rf rg rh).row.map (Value.int .u32)).toArray) := by rw [hw]; exact HR3
              have hb4 : Below wz.heap.size wz wc := by rw [hw]; exact below_drewN hb3 _
              clear hw HR3 hb3 c0 c1 c2 c3 c4 c5 c6 c7 CW CK p0 p1
              have hlt2 : (k : Int) < 64 := by have := HK.out; omega
              have c1 := (show _ = some (Value.int .u32 rb) from HR4.out.cell 1)
              have c2 := (show _ = some (Value.int .u32 rc) from HR4.out.cell 2)
              have c3 := (show _ = some (Value.int .u32 rd) from HR4.out.cell 3)
              have c5 := (show _ = some (Value.int .u32 rf) from HR4.out.cell 5)
              have c6 := (show _ = some (Value.int .u32 rg) from HR4.out.cell 6)
              go_wp2_with fail
              refine (rotl2 _ _).mono ?_; rintro e w' ⟨rfl, rfl⟩
              go_wp2_with fail
              refine (rotl13 _ _).mono ?_; rintro e w' ⟨rfl, rfl⟩
              go_wp2_with fail
              refine (rotl22 _ _).mono ?_; rintro e w' ⟨rfl, rfl⟩
              go_upto_region 24 with (fail)
              go_wp2_with (refine store8 rfl (.tmp 10) (.tmp 193) rfl gs rfl _ _ _ _ _ _ _ _ rfl _ _ HR4.out rfl ?_)
              have hk := HK.out
              refine ⟨⟨k + 1, by omega, by go_num, ?_, below_setRow hb4 hgle _⟩, by simp [intOf]; omega⟩
              rw [HRN.out, rnd_row, ← HM.out, show ad (ad M (bigA ra)) (majI ra rb rc) = (M + bigA ra + majI ra rb rc) % 4294967296 by unfold ad; omega]
              exact Lib.hid (Blk.setRow_ HR4.out _)
          · obtain rfl : k = 64 := by omega
            go_wp2
            go_meet
            exact ⟨HR3, hb3⟩
      case rest =>
        obtain ⟨HR3, hb3⟩ := hcut
        clear HS0
        obtain ⟨wy, rfl⟩ : ∃ wy : World, wy = wc := ⟨_, rfl⟩
        have hP0 := (HP.out.below hbw hpl).below hb3 hplc
        rw [← HT.out] at hP0 HP
        obtain ⟨R, hR⟩ : ∃ R, R = rnds T (sched blk) 64 := ⟨_, rfl⟩
        rw [← hR] at HR3
        have HRD := Lib.hid (show blockW T blk = addW T R by rw [hR]; rfl)
        clear hR
        have hgsp : gs ≠ p := by omega
        have HGS := Lib.hid hgsp
        clear hgsp
        have HP0 := Lib.hid hP0
        have hg0 : w.grownBy wy (some p) := below_gr (below_step hbw hbw.size hb3) _
        have HG0 := Lib.hid hg0
        clear hP0 hg0
        go_wp2
        go_loopw [195] (fun i wr => ∃ k : Nat, k ≤ 8 ∧ i = .int .i64 k ∧ Hid (Blk wr p 120 (hcells (mixRow T R k) blk used taken)) ∧ Hid (Blk wr gs 118 (R.row.map (Value.int .u32)).toArray) ∧ Hid (w.grownBy wr (some p))) (fun i _ => 8 - (intOf i).toNat)
        case atStart => exact ⟨0, by omega, rfl, HP0, HR3, HG0⟩
        case round =>
          clear HP0 HR3 HG0
          obtain ⟨k, hk, rfl, HP4, HR4, HG4⟩ := hrel
          by_cases hlt : k < 8
          · have c1 := (HP4.out.cell k).trans (hcells_w (mixRow_at T R hlt))
            have f1 := HP4.out.frozen k
            have c2 : wr.cell? ⟨gs, k, none⟩ = some (.int .u32 (R.row.getD k 0)) := (HR4.out.cell k).trans (by rw [List.getElem?_toArray, List.getElem?_map, getD_of (d := 0) (by rw [row_len]; exact hlt)]; rfl)
            obtain ⟨x, hx⟩ : ∃ x, x = T.row.getD k 0 := ⟨_, rfl⟩
            obtain ⟨y, hy⟩ : ∃ y, y = R.row.getD k 0 := ⟨_, rfl⟩
            have HM := Lib.hid (show (mixRow T R k).set k ((x + y) % 4294967296) = mixRow T R (k + 1) by rw [hx, hy]; exact mixRow_set T R hlt)
            rw [← hx] at c1
            rw [← hy] at c2
            clear hx hy
            have HK := Lib.hid hlt
            have p0 : 0 ≤ (k : Int) := by omega
            have p1 : (k : Int) < 8 := by omega
            clear hlt hk
            go_wp2
            go_region
            all_goals
              go_wp2
              have hk := HK.out
              refine ⟨⟨k + 1, by omega, by go_num, ?_, ?_, ?_⟩, by simp [intOf]; omega⟩
              · have := HP4.out.set_ k (.int .u32 ((x + y) % 4294967296))
                rw [hcells_setw (by rw [mixRow_len _ _ (by omega)]; omega), HM.out] at this
                exact Lib.hid this
              · exact Lib.hid (HR4.out.far (p := ⟨p, k, none⟩) HGS.out _)
              · first | exact Lib.hid (grown_dn HG4.out 0 _ _) | exact Lib.hid (grown_dn HG4.out 1 _ _) | exact Lib.hid (grown_dn HG4.out _ _ _)
          · obtain rfl : k = 8 := by omega
            go_wp2
            go_end0
            refine ⟨rfl, ?_, HG4.out⟩
            have := HP4.out
            rw [HT.out] at HRD
            rw [HRD.out, ← HT.out]
            exact this
end Go.Proofs.YtlodcjpoamaemaaDoor
