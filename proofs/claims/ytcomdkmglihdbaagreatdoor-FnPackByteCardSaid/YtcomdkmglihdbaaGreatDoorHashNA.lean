/- Joined texts: HashM HashN MRow HashE HashO HashQ. -/
import Derived.Test.YtcomdkmglihdbaaGreatDoorHashA
import Derived.BigRegion
import Derived.Deep.MidRow
import Derived.Lib.LaidTab
import Derived.Lib.BufferWrite
import Derived.ArgAppend
import Derived.Laws.IdiomStrings
import Derived.Deep.LoopGhost
-- The program's block: (*impl.hasher).mix.
namespace Go.Proofs.YtcomdkmglihdbaaGreatDoor
open Go.RowKit
set_option linter.unusedSimpArgs false
set_option linter.unusedVariables false

/-- The world holds the table of the rounds' words. -/
def Kww (w : World) : Prop := Lib.TabIs Tryz.prog w "loop.example/gatelodge/impl.hashWords" .u32 kW
theorem kwwGlob : Tryz.prog.globalNamed "loop.example/gatelodge/impl.hashWords" = some 3 := by kernel_rfl
theorem Kww.blk {w : World} (h : Kww w) : ∃ t fr, w.heap[3]? = some (.cells (kW.map fun z => Value.int .u32 z).toArray t fr) := by
  unfold Kww Lib.TabIs World.var? at h
  rw [kwwGlob] at h
  simp only [Option.bind_some] at h
  cases hb : w.heap[3]? with
  | none => rw [hb] at h; cases h
  | some o =>
    rw [hb] at h
    cases o with
    | cells c t fr =>
      simp only [Option.some.injEq] at h
      exact ⟨t, fr, by rw [h]⟩
    | map es clock => cases h
    | _ => cases h
theorem Kww.of_block {w w' : World} (h : Kww w) (e : w'.heap[3]? = w.heap[3]?) : Kww w' := by
  unfold Kww Lib.TabIs World.var? at h ⊢
  rw [kwwGlob] at h ⊢
  simp only [Option.bind_some] at h ⊢
  rw [e]
  exact h
theorem Kww.lt {w : World} (h : Kww w) : 3 < w.heap.size := by
  obtain ⟨t, fr, e⟩ := h.blk
  exact (Array.getElem?_eq_some_iff.1 e).1
theorem Kww.below {w w' : World} {B : Nat} (h : Kww w) (hb : Below B w w') (hB : w.heap.size ≤ B) : Kww w' := h.of_block (hb.block _ (by have := h.lt; omega))
theorem Kww.cell {w : World} (h : Kww w) {i : Nat} (hi : i < 64) : w.cell? ⟨3, i, none⟩ = some (.int .u32 (kW.getD i 0)) := Lib.TabIs.cell h kwwGlob i hi
theorem Kww.apart {w : World} (h : Kww w) {p : Nat} {t : TypeId} {cs : Array Value} (hp : Blk w p t cs) (hs : cs.size ≠ 64) : p ≠ 3 := by
  rintro rfl
  obtain ⟨t', fr, e⟩ := h.blk
  unfold Blk at hp
  rw [hp] at e
  injection e with e
  injection e with e1 _ _
  exact hs (by rw [e1]; rfl)
theorem below_setRow {B : Nat} {a w : World} (h : Below B a w) {g : Nat} (hg : B ≤ g) (cs : Array Value) : Below B a (w.setRow g cs) :=
  ⟨h.os, h.tape, h.output, by have := h.size; unfold World.setRow; simpa using this, fun k hk => by
    unfold World.setRow
    show (w.heap.modify g _)[k]? = _
    rw [Array.getElem?_modify, if_neg (by omega)]
    exact h.block k hk⟩
theorem Blk.setRow_ {w : World} {g : Nat} {t : TypeId} {old : Array Value} (h : Blk w g t old) (cs : Array Value) : Blk (w.setRow g cs) g t cs := setRow_heap w g old cs t (0, 0) h

/-- A store of eight words at once. -/
theorem store8 {ops : Array Oper} {rest : List Oper} {o : Oper} {a : Act} {w : World} {Q : Exit → Act → World → Prop} (hgd : o.guard = none) (x y : Operand) (ho : o.op = .store 135 x y)
    (g : Nat) (hx : a.eval x = .pointer (some ⟨g, 0, none⟩)) (v0 v1 v2 v3 v4 v5 v6 v7 : Int) (hy : a.eval y = .agg #[.int .u32 v0, .int .u32 v1, .int .u32 v2, .int .u32 v3, .int .u32 v4, .int .u32 v5, .int .u32 v6, .int .u32 v7])
    (t : TypeId) (old : Array Value) (hg : Blk w g t old) (hs : old.size = 8)
    (h : wpList Tryz.prog ops Q rest (a.put o.dst undef) (w.setRow g #[.int .u32 v0, .int .u32 v1, .int .u32 v2, .int .u32 v3, .int .u32 v4, .int .u32 v5, .int .u32 v6, .int .u32 v7])) : wpList Tryz.prog ops Q (o :: rest) a w :=
  wpList_store_row hgd 135 x y ho g _ hx hy t old hg (by kernel_rfl) hs (by simp [Value.oneCell']) h

theorem below_gr {w w' : World} (h : Below w.heap.size w w') (r : Option Nat) : w.grownBy w' r := ⟨h.os, h.tape, h.output, h.size, fun k hk _ => h.block k hk⟩
theorem grown_dn {w wr : World} {p : Nat} (h : w.grownBy wr (some p)) (n i : Nat) (v : Value) : w.grownBy ((wr.drewN n).setCell ⟨p, i, none⟩ v) (some p) :=
  World.grownBy.trans h ((show wr.grownBy (wr.drewN n) (some p) from ⟨rfl, rfl, rfl, Nat.le_refl _, fun _ _ _ => rfl⟩).trans (grown_set (wr.drewN n) p i v))
/-- A row whose first words are turned. -/
def mixRow (s t : W8) (k : Nat) : List Int := (addW s t).row.take k ++ s.row.drop k
theorem mixRow_at (s t : W8) {k : Nat} (h : k < 8) : (mixRow s t k)[k]? = some (s.row.getD k 0) := by
  obtain rfl | rfl | rfl | rfl | rfl | rfl | rfl | rfl : k = 0 ∨ k = 1 ∨ k = 2 ∨ k = 3 ∨ k = 4 ∨ k = 5 ∨ k = 6 ∨ k = 7 := by omega
  all_goals rfl
theorem mixRow_set (s t : W8) {k : Nat} (h : k < 8) : (mixRow s t k).set k ((s.row.getD k 0 + t.row.getD k 0) % 4294967296) = mixRow s t (k + 1) := by
  obtain rfl | rfl | rfl | rfl | rfl | rfl | rfl | rfl : k = 0 ∨ k = 1 ∨ k = 2 ∨ k = 3 ∨ k = 4 ∨ k = 5 ∨ k = 6 ∨ k = 7 := by omega
  all_goals rfl
theorem mixRow_len (s t : W8) {k : Nat} (h : k ≤ 8) : (mixRow s t k).length = 8 := by
  unfold mixRow
  rw [List.length_append, List.length_take, List.length_drop, row_len, row_len]
  omega

/-- The cells of a hasher. -/
def hcells (ws : List Int) (blk : List UInt8) (used : Nat) (taken : Int) : Array Value :=
  (ws.map (Value.int .u32) ++ (blk.map u8V ++ [Value.int .i64 (used : Int), Value.int .u64 taken])).toArray
theorem hcells_w {ws : List Int} {blk : List UInt8} {used : Nat} {taken : Int} {i : Nat} {x : Int} (h : ws[i]? = some x) : (hcells ws blk used taken)[i]? = some (.int .u32 x) := by
  unfold hcells
  have hi := (List.getElem?_eq_some_iff.1 h).1
  rw [List.getElem?_toArray, List.getElem?_append_left (by rw [List.length_map]; exact hi), List.getElem?_map, h]
  rfl
theorem hcells_b {ws : List Int} {blk : List UInt8} {used : Nat} {taken : Int} {i : Nat} {x : UInt8} (hl : ws.length = 8) (h : blk[i]? = some x) : (hcells ws blk used taken)[8 + i]? = some (u8V x) := by
  unfold hcells
  have hi := (List.getElem?_eq_some_iff.1 h).1
  rw [List.getElem?_toArray, List.getElem?_append_right (by rw [List.length_map, hl]; omega), List.length_map, hl, show 8 + i - 8 = i by omega, List.getElem?_append_left (by rw [List.length_map]; exact hi), List.getElem?_map, h]
  rfl
theorem hcells_used {ws : List Int} {blk : List UInt8} {used : Nat} {taken : Int} (hl : ws.length = 8) (hb : blk.length = 64) : (hcells ws blk used taken)[72]? = some (.int .i64 (used : Int)) := by
  unfold hcells
  rw [List.getElem?_toArray, List.getElem?_append_right (by rw [List.length_map, hl]; omega), List.length_map, hl, List.getElem?_append_right (by rw [List.length_map, hb]; omega), List.length_map, hb]
  rfl
theorem hcells_taken {ws : List Int} {blk : List UInt8} {used : Nat} {taken : Int} (hl : ws.length = 8) (hb : blk.length = 64) : (hcells ws blk used taken)[73]? = some (.int .u64 taken) := by
  unfold hcells
  rw [List.getElem?_toArray, List.getElem?_append_right (by rw [List.length_map, hl]; omega), List.length_map, hl, List.getElem?_append_right (by rw [List.length_map, hb]; omega), List.length_map, hb]
  rfl
theorem hcells_size {ws : List Int} {blk : List UInt8} {used : Nat} {taken : Int} (hl : ws.length = 8) (hb : blk.length = 64) : (hcells ws blk used taken).size = 74 := by
  simp [hcells, hl, hb]
theorem hcells_setw {ws : List Int} {blk : List UInt8} {used : Nat} {taken : Int} {i : Nat} (hi : i < ws.length) (x : Int) : (hcells ws blk used taken).setIfInBounds i (.int .u32 x) = hcells (ws.set i x) blk used taken := by
  unfold hcells
  rw [List.setIfInBounds_toArray, List.set_append_left _ _ (by rw [List.length_map]; exact hi), List.map_set]
theorem hcells_setused {ws : List Int} {blk : List UInt8} {used : Nat} {taken : Int} (hl : ws.length = 8) (hb : blk.length = 64) (n : Nat) : (hcells ws blk used taken).setIfInBounds 72 (.int .i64 (n : Int)) = hcells ws blk n taken := by
  unfold hcells
  rw [List.setIfInBounds_toArray, List.set_append_right _ _ (by rw [List.length_map, hl]; omega), List.length_map, hl, List.set_append_right _ _ (by rw [List.length_map, hb]; omega), List.length_map, hb]
  rfl
theorem hcells_settaken {ws : List Int} {blk : List UInt8} {used : Nat} {taken : Int} (hl : ws.length = 8) (hb : blk.length = 64) (n : Int) : (hcells ws blk used taken).setIfInBounds 73 (.int .u64 n) = hcells ws blk used n := by
  unfold hcells
  rw [List.setIfInBounds_toArray, List.set_append_right _ _ (by rw [List.length_map, hl]; omega), List.length_map, hl, List.set_append_right _ _ (by rw [List.length_map, hb]; omega), List.length_map, hb]
  rfl

set_option maxHeartbeats 8000000 in
set_option maxRecDepth 100000 in
theorem mix_any (p : Nat) (s : W8) (blk : List UInt8) (used : Nat) (taken : Int) (w : World) (hb : blk.length = 64) (hp : Blk w p 137 (hcells s.row blk used taken)) (hkw : Kww w) :
    Calls Tryz.prog 81 #[.pointer (some ⟨p, 0, none⟩)] w fun e w' => e = .returned (.tuple #[]) ∧ Blk w' p 137 (hcells (blockW s blk).row blk used taken) ∧ w.grownBy w' (some p) := by
  go_enter Tryz.func81, Tryz.ntmps81
  have hpl := hp.lt
  have HP := Lib.hid hp; have HB := Lib.hid hb; have HKW := Lib.hid hkw
  clear hp hb hkw
  go_upto_block 0 with (fail)
  obtain ⟨gw, hgw⟩ : ∃ g, g = w.heap.size := ⟨_, rfl⟩
  have W0 : WRow (w.alloc (.cells (List.replicate 64 (Value.int .u32 0)).toArray 170)) gw 170 (firstW blk 0 ++ List.replicate (64 - 0) 0) := by
    rw [hgw]
    refine ⟨_, Blk.new _ _ _, fun i x hx => ?_⟩
    rw [List.getElem?_toArray]
    rw [show firstW blk 0 ++ List.replicate (64 - 0) 0 = List.replicate 64 (0 : Int) from rfl] at hx
    obtain ⟨h1, h2⟩ := List.getElem?_eq_some_iff.1 hx
    rw [List.getElem_replicate] at h2
    subst h2
    rw [List.length_replicate] at h1
    rw [List.getElem?_eq_getElem (by rw [List.length_replicate]; exact h1), List.getElem_replicate]
  have HW0 := Lib.hid W0
  have hne : ¬ p = gw := by omega
  have hne2 : ¬ gw = p := by omega
  have hle : w.heap.size ≤ gw := by omega
  rw [← hgw]
  have HGW := Lib.hid hgw
  clear W0 hgw
  go_cut [] (fun wx => Hid (WRow wx gw 170 (firstW blk 16 ++ List.replicate 48 0)) ∧ Below w.heap.size w wx)
  case first =>
    go_wp2
    go_loopw [20] (fun i wr => ∃ k : Nat, k ≤ 16 ∧ i = .int .i64 k ∧ Hid (WRow wr gw 170 (firstW blk k ++ List.replicate (64 - k) 0)) ∧ Below w.heap.size w wr) (fun i _ => 16 - (intOf i).toNat)
    case atStart => exact ⟨0, by omega, rfl, HW0, by go_grown⟩
    case round =>
      clear HW0
      obtain ⟨k, hk, rfl, HR, hbw⟩ := hrel
      by_cases hlt : k < 16
      · have hlt2 : (k : Int) < 16 := by omega
        obtain ⟨x0, hx0⟩ : ∃ x, x = byteAt blk (4 * k) := ⟨_, rfl⟩
        have c0 : wr.cell? ⟨p, 8 + 4 * k, none⟩ = some (.int .u8 x0) := by rw [hx0]; exact (HP.out.below hbw hpl).cell _ |>.trans (hcells_b rfl (getD_of (by rw [HB.out]; omega)))
        have w0 : IntKind.u32.wrap x0 = x0 := by rw [hx0]; exact byteAt_wrap _ _
        have v0 : x0 % 4294967296 = x0 := by rw [hx0]; exact byteAt_mod _ _
        obtain ⟨x1, hx1⟩ : ∃ x, x = byteAt blk (4 * k + 1) := ⟨_, rfl⟩
        have c1 : wr.cell? ⟨p, 8 + (4 * k + 1), none⟩ = some (.int .u8 x1) := by rw [hx1]; exact (HP.out.below hbw hpl).cell _ |>.trans (hcells_b rfl (getD_of (by rw [HB.out]; omega)))
        have w1 : IntKind.u32.wrap x1 = x1 := by rw [hx1]; exact byteAt_wrap _ _
        have v1 : x1 % 4294967296 = x1 := by rw [hx1]; exact byteAt_mod _ _
        obtain ⟨x2, hx2⟩ : ∃ x, x = byteAt blk (4 * k + 2) := ⟨_, rfl⟩
        have c2 : wr.cell? ⟨p, 8 + (4 * k + 2), none⟩ = some (.int .u8 x2) := by rw [hx2]; exact (HP.out.below hbw hpl).cell _ |>.trans (hcells_b rfl (getD_of (by rw [HB.out]; omega)))
        have w2 : IntKind.u32.wrap x2 = x2 := by rw [hx2]; exact byteAt_wrap _ _
        have v2 : x2 % 4294967296 = x2 := by rw [hx2]; exact byteAt_mod _ _
        obtain ⟨x3, hx3⟩ : ∃ x, x = byteAt blk (4 * k + 3) := ⟨_, rfl⟩
        have c3 : wr.cell? ⟨p, 8 + (4 * k + 3), none⟩ = some (.int .u8 x3) := by rw [hx3]; exact (HP.out.below hbw hpl).cell _ |>.trans (hcells_b rfl (getD_of (by rw [HB.out]; omega)))
        have w3 : IntKind.u32.wrap x3 = x3 := by rw [hx3]; exact byteAt_wrap _ _
        have v3 : x3 % 4294967296 = x3 := by rw [hx3]; exact byteAt_mod _ _
        have HX := Lib.hid (show firstW blk (k + 1) = firstW blk k ++ [word4 x0 x1 x2 x3] by rw [hx0, hx1, hx2, hx3]; rfl)
        clear hx0 hx1 hx2 hx3
        obtain ⟨z, hz⟩ : ∃ z, (firstW blk k ++ List.replicate (64 - k) 0)[k]? = some z := ⟨_, List.getElem?_eq_getElem (by rw [List.length_append, firstW_len, List.length_replicate]; omega)⟩
        have cz := HR.out.cell hz
        have fz := HR.out.frozen k
        have HS := Lib.hid (show WRow (wr.setCell ⟨gw, k, none⟩ (.int .u32 (word4 x0 x1 x2 x3))) gw 170 (firstW blk (k + 1) ++ List.replicate (64 - (k + 1)) 0) by
          have := HR.out.set_ k (word4 x0 x1 x2 x3)
          rw [List.set_append_right _ _ (by rw [firstW_len]; exact Nat.le_refl _), firstW_len, Nat.sub_self, show 64 - k = (64 - (k + 1)) + 1 by omega, List.replicate_succ, List.set_cons_zero] at this
          rw [HX.out, List.append_assoc]
          exact this)
        have HK := Lib.hid hlt
        have HZ := Lib.hid hz
        clear hlt hk hz
        go_wp2
        have p0 : 0 ≤ (k : Int) := by omega
        have p1 : (k : Int) < 64 := by omega
        have e0 : IntKind.i64.wrap (4 * (k : Int)) = 4 * (k : Int) := IntWalk.i64_in _ (by omega)
        have t0 : (4 * (k : Int)).toNat = 4 * k := by omega
        have q0 : 0 ≤ 4 * (k : Int) := by omega
        have r0 : 4 * (k : Int) < 64 := by omega
        have e1 : IntKind.i64.wrap (4 * (k : Int) + 1) = 4 * (k : Int) + 1 := IntWalk.i64_in _ (by omega)
        have t1 : (4 * (k : Int) + 1).toNat = 4 * k + 1 := by omega
        have q1 : 0 ≤ 4 * (k : Int) + 1 := by omega
        have r1 : 4 * (k : Int) + 1 < 64 := by omega
        have e2 : IntKind.i64.wrap (4 * (k : Int) + 2) = 4 * (k : Int) + 2 := IntWalk.i64_in _ (by omega)
        have t2 : (4 * (k : Int) + 2).toNat = 4 * k + 2 := by omega
        have q2 : 0 ≤ 4 * (k : Int) + 2 := by omega
        have r2 : 4 * (k : Int) + 2 < 64 := by omega
        have e3 : IntKind.i64.wrap (4 * (k : Int) + 3) = 4 * (k : Int) + 3 := IntWalk.i64_in _ (by omega)
        have t3 : (4 * (k : Int) + 3).toNat = 4 * k + 3 := by omega
        have q3 : 0 ≤ 4 * (k : Int) + 3 := by omega
        have r3 : 4 * (k : Int) + 3 < 64 := by omega
        go_region_held3 (fun w' => w'.cell? ⟨p, 8 + 4 * k, none⟩ = some (.int .u8 x0) ∧ w'.cell? ⟨p, 8 + (4 * k + 1), none⟩ = some (.int .u8 x1) ∧ w'.cell? ⟨p, 8 + (4 * k + 2), none⟩ = some (.int .u8 x2) ∧ w'.cell? ⟨p, 8 + (4 * k + 3), none⟩ = some (.int .u8 x3)) (first | exact ⟨c0, c1, c2, c3⟩ | go_keep) (fail)
        clear p0 p1 e0 e1 e2 e3 t0 t1 t2 t3 q0 q1 q2 q3 r0 r1 r2 r3
        go_wp2
        have hk := HK.out
        refine ⟨⟨k + 1, by omega, by go_num, HS, ?_⟩, by simp [intOf]; omega⟩
        first | exact hbw.setCell hle _ | exact hbw.drew.setCell hle _ | exact (below_drewN hbw _).setCell hle _
      · obtain rfl : k = 16 := by omega
        go_wp2
        go_meet
        exact ⟨HR, hbw⟩
  case rest =>
    obtain ⟨HR, hbw⟩ := hcut
    clear HW0
    obtain ⟨F, hF⟩ : ∃ F, F = firstW blk 16 := ⟨_, rfl⟩
    rw [← hF] at HR
    have HFl := Lib.hid (show F.length = 16 by rw [hF, firstW_len])
    have HF := Lib.hid (show sched blk = growW 48 F by rw [hF]; rfl)
    clear hF
    go_upto_block 2 with (fail)
    go_cut [] (fun wx => Hid (WRow wx gw 170 (sched blk)) ∧ Below w.heap.size w wx)
    case first =>
      go_wp2
      go_loopw [5] (fun i wr => ∃ j : Nat, j ≤ 48 ∧ i = .int .i64 ((j : Int) + 16) ∧ Hid (WRow wr gw 170 (growW j F ++ List.replicate (48 - j) 0)) ∧ Below w.heap.size w wr) (fun i _ => 64 - (intOf i).toNat)
      case atStart => exact ⟨0, by omega, rfl, HR, hbw⟩
      case round =>
        clear HR hbw
        obtain ⟨j, hj, rfl, HR, hbw⟩ := hrel
        by_cases hlt : j < 48
        · obtain ⟨G, hG⟩ : ∃ G, G = growW j F := ⟨_, rfl⟩
          have hGl : G.length = j + 16 := by rw [hG, growW_len, HFl.out]; omega
          have HG := Lib.hid (show growW (j + 1) F = G ++ [nextW G] by rw [hG]; rfl)
          rw [← hG] at HR
          clear hG
          have cell : ∀ i, i < j + 16 → wr.cell? ⟨gw, i, none⟩ = some (.int .u32 (G.getD i 0)) := fun i hi => HR.out.cell (by rw [List.getElem?_append_left (by omega)]; exact getD_of (by omega))
          have HN := Lib.hid (show nextW G = ad (ad (ad (G.getD j 0) (smallS (G.getD (j + 1) 0))) (G.getD (j + 9) 0)) (greatS (G.getD (j + 14) 0)) by
            unfold nextW; rw [hGl, show j + 16 - 16 = j by omega, show j + 16 - 15 = j + 1 by omega, show j + 16 - 7 = j + 9 by omega, show j + 16 - 2 = j + 14 by omega])
          obtain ⟨y16, h16⟩ : ∃ y, y = G.getD j 0 := ⟨_, rfl⟩
          obtain ⟨y15, h15⟩ : ∃ y, y = G.getD (j + 1) 0 := ⟨_, rfl⟩
          obtain ⟨y7, h7⟩ : ∃ y, y = G.getD (j + 9) 0 := ⟨_, rfl⟩
          obtain ⟨y2, h2⟩ : ∃ y, y = G.getD (j + 14) 0 := ⟨_, rfl⟩
          rw [← h16, ← h15, ← h7, ← h2] at HN
          have c16 := cell j (by omega)
          have c15 := cell (j + 1) (by omega)
          have c7 := cell (j + 9) (by omega)
          have c2 := cell (j + 14) (by omega)
          rw [← h16] at c16; rw [← h15] at c15; rw [← h7] at c7; rw [← h2] at c2
          clear cell h16 h15 h7 h2
          obtain ⟨z, hz⟩ : ∃ z, (G ++ List.replicate (48 - j) 0)[j + 16]? = some z := ⟨_, List.getElem?_eq_getElem (by rw [List.length_append, hGl, List.length_replicate]; omega)⟩
          have cz := HR.out.cell hz
          have fz := HR.out.frozen (j + 16)
          have HS : Hid (∀ W : World, WRow W gw 170 (G ++ List.replicate (48 - j) 0) → WRow (W.setCell ⟨gw, j + 16, none⟩ (.int .u32 (ad (ad (ad y16 (smallS y15)) y7) (greatS y2)))) gw 170 (growW (j + 1) F ++ List.replicate (48 - (j + 1)) 0)) := fun W h => by
            have := h.set_ (j + 16) (ad (ad (ad y16 (smallS y15)) y7) (greatS y2))
            rw [List.set_append_right _ _ (by rw [hGl]; exact Nat.le_refl _), hGl, Nat.sub_self, show 48 - j = (48 - (j + 1)) + 1 by omega, List.replicate_succ, List.set_cons_zero] at this
            rw [HG.out, HN.out, List.append_assoc]
            exact this
          have HGl := Lib.hid hGl
          have hlt2 : (j : Int) + 16 < 64 := by omega
          have HJ := Lib.hid hlt
          have HZ := Lib.hid hz
          clear hj hlt hGl hz
          go_wp2
          have e15 : IntKind.i64.wrap ((j : Int) + 16 - 15) = j + 1 := by rw [IntWalk.i64_in _ (by omega)]; omega
          have e2 : IntKind.i64.wrap ((j : Int) + 16 - 2) = j + 14 := by rw [IntWalk.i64_in _ (by omega)]; omega
          have e15b : IntKind.i64.wrap ((j : Int) + 1) = j + 1 := IntWalk.i64_in _ (by omega)
          have e2b : IntKind.i64.wrap ((j : Int) + 14) = j + 14 := IntWalk.i64_in _ (by omega)
          have t15 : ((j : Int) + 1).toNat = j + 1 := by omega
          have t2 : ((j : Int) + 14).toNat = j + 14 := by omega
          have p15 : 0 ≤ (j : Int) + 1 := by omega
          have p2 : 0 ≤ (j : Int) + 14 := by omega
          have q15 : (j : Int) + 1 < 64 := by omega
          have q2 : (j : Int) + 14 < 64 := by omega
          go_quiet ((fail))
          clear e15 e2 e15b e2b t15 t2 p15 p2 q15 q2
          go_wp2_with fail
          refine (rotl7 _ _).mono ?_; rintro e w' ⟨rfl, rfl⟩
          go_wp2_with fail
          refine (rotl18 _ _).mono ?_; rintro e w' ⟨rfl, rfl⟩
          go_wp2_with fail
          refine (rotl17 _ _).mono ?_; rintro e w' ⟨rfl, rfl⟩
          go_wp2_with fail
          refine (rotl19 _ _).mono ?_; rintro e w' ⟨rfl, rfl⟩
          go_wp2
          have e16 : IntKind.i64.wrap ((j : Int) + 16 - 16) = j := by rw [IntWalk.i64_in _ (by omega)]; omega
          have e16b : IntKind.i64.wrap (j : Int) = j := IntWalk.i64_in _ (by omega)
          have e7 : IntKind.i64.wrap ((j : Int) + 16 - 7) = j + 9 := by rw [IntWalk.i64_in _ (by omega)]; omega
          have e7b : IntKind.i64.wrap ((j : Int) + 9) = j + 9 := IntWalk.i64_in _ (by omega)
          have t7 : ((j : Int) + 9).toNat = j + 9 := by omega
          have t0 : ((j : Int) + 16).toNat = j + 16 := by omega
          have p16 : 0 ≤ (j : Int) := by omega
          have p7 : 0 ≤ (j : Int) + 9 := by omega
          have p0 : 0 ≤ (j : Int) + 16 := by omega
          have q16 : (j : Int) < 64 := by omega
          have q7 : (j : Int) + 9 < 64 := by omega
          have n1 : ¬ j + 9 = j + 16 := by omega
          have n2 : ¬ j = j + 16 := by omega
          have n3 : ¬ j + 16 = j + 9 := by omega
          have n4 : ¬ j + 16 = j := by omega
          have kA : ∀ (W : World) (v : Value), W.cell? ⟨gw, j, none⟩ = some (.int .u32 y16) → (W.setCell ⟨gw, j + 16, none⟩ v).cell? ⟨gw, j, none⟩ = some (.int .u32 y16) := fun W v h => (World.cell?_setCell_other W _ _ v (fun e => by injection e; omega)).trans h
          have kB : ∀ (W : World) (v : Value), W.cell? ⟨gw, j + 9, none⟩ = some (.int .u32 y7) → (W.setCell ⟨gw, j + 16, none⟩ v).cell? ⟨gw, j + 9, none⟩ = some (.int .u32 y7) := fun W v h => (World.cell?_setCell_other W _ _ v (fun e => by injection e; omega)).trans h
          have KA := Lib.hid kA; have KB := Lib.hid kB
          clear kA kB
          go_region_held3 (fun w' => w'.cell? ⟨gw, j, none⟩ = some (.int .u32 y16) ∧ w'.cell? ⟨gw, j + 9, none⟩ = some (.int .u32 y7)) (first | exact ⟨c16, c7⟩ | exact ⟨KA.out _ _ c16, KB.out _ _ c7⟩ | go_keep) (fail)
          clear e16 e16b e7 e7b t7 t0 p16 p7 p0 q16 q7 n1 n2 n3 n4
          go_wp2
          have hj := HJ.out
          refine ⟨⟨j + 1, by omega, ?_, ?_, ?_⟩, ?_⟩
          · simp; omega
          · exact Lib.hid (HS.out _ (HR.out.drewN _))
          · first | exact hbw.setCell hle _ | exact hbw.drew.setCell hle _ | exact (below_drewN hbw _).setCell hle _ | exact (below_drewN hbw _).drew.setCell hle _
          · simp [intOf]; omega
        · obtain rfl : j = 48 := by omega
          go_wp2
          go_meet
          refine ⟨Lib.hid ?_, hbw⟩
          have := HR.out
          rw [HF.out]
          simpa using this
    case rest =>
      obtain ⟨HR, hbw⟩ := hcut
      obtain ⟨wz, rfl⟩ : ∃ wz : World, wz = wc := ⟨_, rfl⟩
      obtain ⟨sa, sb, sc, sd, se, sf, sg, sh⟩ := s
      have hr : wz.rangeAt p 0 [.int .u32 sa, .int .u32 sb, .int .u32 sc, .int .u32 sd, .int .u32 se, .int .u32 sf, .int .u32 sg, .int .u32 sh] := fun j v hv => by
        have hv' : ([sa, sb, sc, sd, se, sf, sg, sh].map (Value.int .u32))[j]? = some v := hv
        rw [List.getElem?_map] at hv'
        obtain ⟨x, hx, rfl⟩ := Option.map_eq_some_iff.1 hv'
        rw [Nat.zero_add]
        exact ((HP.out.below hbw hpl).cell j).trans (hcells_w hx)
      have HRR := Lib.hid hr
      have hi8 : (Tryz.prog.info? 135).map (·.size) = some 8 := by kernel_rfl
      have HI8 := Lib.hid hi8
      clear hr hi8
      go_upto_block 4 with (refine wpList_load_mid rfl 135 (.tmp 110) rfl p 0 rfl [.int .u32 sa, .int .u32 sb, .int .u32 sc, .int .u32 sd, .int .u32 se, .int .u32 sf, .int .u32 sg, .int .u32 sh] _ HRR.out Tryz.underlying135 rfl HI8.out ?_)
      obtain ⟨gs, hgs⟩ : ∃ g, g = wz.heap.size := ⟨_, rfl⟩
      obtain ⟨T, hT⟩ : ∃ T : W8, T = ⟨sa, sb, sc, sd, se, sf, sg, sh⟩ := ⟨_, rfl⟩
      have hgle : wz.heap.size ≤ gs := by omega
      have HS0 : Hid (Blk (wz.alloc (.cells #[.int .u32 sa, .int .u32 sb, .int .u32 sc, .int .u32 sd, .int .u32 se, .int .u32 sf, .int .u32 sg, .int .u32 sh] 135)) gs 135 ((rnds T (sched blk) 0).row.map (Value.int .u32)).toArray) := by rw [hgs, hT]; exact Blk.new _ _ _
      rw [← hgs]
      have HT := Lib.hid hT
      have HKC := Lib.hid (HKW.out.below hbw (Nat.le_refl _))
      have hplc : p < wz.heap.size := by have := hbw.size; omega
      have hgwl := HR.out.lt
      have hkl := HKC.out.lt
      clear hgs hT
      have hsi : (Tryz.prog.info? 135).map (·.size) = some 8 := HI8.out
      have HSI := Lib.hid hsi
      clear hsi
      go_cut [] (fun wx => Hid (Blk wx gs 135 ((rnds T (sched blk) 64).row.map (Value.int .u32)).toArray) ∧ Below wz.heap.size wz wx)
      case first =>
        go_wp2
        go_loopw [112] (fun i wr => ∃ k : Nat, k ≤ 64 ∧ i = .int .i64 k ∧ Hid (Blk wr gs 135 ((rnds T (sched blk) k).row.map (Value.int .u32)).toArray) ∧ Below wz.heap.size wz wr) (fun i _ => 64 - (intOf i).toNat)
        case atStart => exact ⟨0, by omega, rfl, HS0, by go_grown⟩
        case round =>
          clear HS0
          obtain ⟨k, hk, rfl, HR3, hb3⟩ := hrel
          by_cases hlt : k < 64
          · obtain ⟨wo, rfl⟩ : ∃ wo : World, wo = wr := ⟨_, rfl⟩
            have CW := (HR.out.below hb3 hgwl).at_ (i := k) (by rw [sched_len]; omega)
            have CK := (HKC.out.below hb3 (Nat.le_refl _)).cell hlt
            obtain ⟨x, hx⟩ : ∃ x, x = (sched blk).getD k 0 := ⟨_, rfl⟩
            obtain ⟨y, hy⟩ : ∃ y, y = kW.getD k 0 := ⟨_, rfl⟩
            have HRN := Lib.hid (show rnds T (sched blk) (k + 1) = rnd (rnds T (sched blk) k) y x by rw [hx, hy]; rfl)
            rw [← hx] at CW; rw [← hy] at CK
            clear hx hy
            obtain ⟨r, hr⟩ : ∃ r, r = rnds T (sched blk) k := ⟨_, rfl⟩
            rw [← hr] at HRN HR3
            clear hr
            obtain ⟨ra, rb, rc, rd, re, rf, rg, rh⟩ := r
            have c0 := (show _ = some (Value.int .u32 ra) from HR3.out.cell 0)
            have c1 := (show _ = some (Value.int .u32 rb) from HR3.out.cell 1)
            have c2 := (show _ = some (Value.int .u32 rc) from HR3.out.cell 2)
            have c3 := (show _ = some (Value.int .u32 rd) from HR3.out.cell 3)
            have c4 := (show _ = some (Value.int .u32 re) from HR3.out.cell 4)
            have c5 := (show _ = some (Value.int .u32 rf) from HR3.out.cell 5)
            have c6 := (show _ = some (Value.int .u32 rg) from HR3.out.cell 6)
            have c7 := (show _ = some (Value.int .u32 rh) from HR3.out.cell 7)
            have p0 : 0 ≤ (k : Int) := by omega
            have p1 : (k : Int) < 64 := by omega
            have HK := Lib.hid hlt; clear hlt hk
            go_wp2
            go_quiet ((fail))
            go_wp2_with fail
            refine (rotl6 _ _).mono ?_; rintro e w' ⟨rfl, rfl⟩
            go_wp2_with fail
            refine (rotl11 _ _).mono ?_; rintro e w' ⟨rfl, rfl⟩
            go_wp2_with fail
            refine (rotl25 _ _).mono ?_; rintro e w' ⟨rfl, rfl⟩
            go_upto_region 21 with (fail)
            have e : (if IntKind.u32.signed = true then (-1 : Int) else IntKind.u32.max) = IntKind.u32.max := rfl
            rw [e]
            clear e
            go_cut [16] (fun s16 wx => s16 = .int .u32 (mixT re rf rg rh y x) ∧ ∃ n, wx = wo.drewN n)
            case first =>
              clear HRN HK HR3 hb3 HR HRR HI8 HSI HT HKC HB HKW HP c0 c1 c2 c3 c4 c5 c6
              go_region
              go_wp2
              go_meet
              refine ⟨congrArg _ ?_, _, rfl⟩
              unfold mixT ad bigE chI nt xr an
              omega
            case rest =>
              obtain ⟨rfl, nq, hw⟩ := hcut
              obtain ⟨M, hM⟩ : ∃ M, M = mixT re rf rg rh y x := ⟨_, rfl⟩
              rw [← hM]
              have HM := Lib.hid hM; clear hM
              have HR4 : Hid (Blk wc gs 135 ((W8.mk ra rb rc rd re rf rg rh).row.map (Value.int .u32)).toArray) := by rw [hw]; exact HR3
              have hb4 : Below wz.heap.size wz wc := by rw [hw]; exact below_drewN hb3 _
              clear hw HR3 hb3 c0 c1 c2 c3 c4 c5 c6 c7 CW CK p0 p1
              have hlt2 : (k : Int) < 64 := by have := HK.out; omega
              have c1 := (show _ = some (Value.int .u32 rb) from HR4.out.cell 1)
              have c2 := (show _ = some (Value.int .u32 rc) from HR4.out.cell 2)
              have c3 := (show _ = some (Value.int .u32 rd) from HR4.out.cell 3)
              have c5 := (show _ = some (Value.int .u32 rf) from HR4.out.cell 5)
              have c6 := (show _ = some (Value.int .u32 rg) from HR4.out.cell 6)
              go_wp2_with fail
              refine (rotl2 _ _).mono ?_; rintro e w' ⟨rfl, rfl⟩
              go_wp2_with fail
              refine (rotl13 _ _).mono ?_; rintro e w' ⟨rfl, rfl⟩
              go_wp2_with fail
              refine (rotl22 _ _).mono ?_; rintro e w' ⟨rfl, rfl⟩
              go_upto_region 24 with (fail)
              go_wp2_with (refine store8 rfl (.tmp 10) (.tmp 193) rfl gs rfl _ _ _ _ _ _ _ _ rfl _ _ HR4.out rfl ?_)
              have hk := HK.out
              refine ⟨⟨k + 1, by omega, by go_num, ?_, below_setRow hb4 hgle _⟩, by simp [intOf]; omega⟩
              rw [HRN.out, rnd_row, ← HM.out, show ad (ad M (bigA ra)) (majI ra rb rc) = (M + bigA ra + majI ra rb rc) % 4294967296 by unfold ad; omega]
              exact Lib.hid (Blk.setRow_ HR4.out _)
          · obtain rfl : k = 64 := by omega
            go_wp2
            go_meet
            exact ⟨HR3, hb3⟩
      case rest =>
        obtain ⟨HR3, hb3⟩ := hcut
        clear HS0
        obtain ⟨wy, rfl⟩ : ∃ wy : World, wy = wc := ⟨_, rfl⟩
        have hP0 := (HP.out.below hbw hpl).below hb3 hplc
        rw [← HT.out] at hP0 HP
        obtain ⟨R, hR⟩ : ∃ R, R = rnds T (sched blk) 64 := ⟨_, rfl⟩
        rw [← hR] at HR3
        have HRD := Lib.hid (show blockW T blk = addW T R by rw [hR]; rfl)
        clear hR
        have hgsp : gs ≠ p := by omega
        have HGS := Lib.hid hgsp
        clear hgsp
        have HP0 := Lib.hid hP0
        have hg0 : w.grownBy wy (some p) := below_gr (below_step hbw hbw.size hb3) _
        have HG0 := Lib.hid hg0
        clear hP0 hg0
        go_wp2
        go_loopw [195] (fun i wr => ∃ k : Nat, k ≤ 8 ∧ i = .int .i64 k ∧ Hid (Blk wr p 137 (hcells (mixRow T R k) blk used taken)) ∧ Hid (Blk wr gs 135 (R.row.map (Value.int .u32)).toArray) ∧ Hid (w.grownBy wr (some p))) (fun i _ => 8 - (intOf i).toNat)
        case atStart => exact ⟨0, by omega, rfl, HP0, HR3, HG0⟩
        case round =>
          clear HP0 HR3 HG0
          obtain ⟨k, hk, rfl, HP4, HR4, HG4⟩ := hrel
          by_cases hlt : k < 8
          · have c1 := (HP4.out.cell k).trans (hcells_w (mixRow_at T R hlt))
            have f1 := HP4.out.frozen k
            have c2 : wr.cell? ⟨gs, k, none⟩ = some (.int .u32 (R.row.getD k 0)) := (HR4.out.cell k).trans (by rw [List.getElem?_toArray, List.getElem?_map, getD_of (d := 0) (by rw [row_len]; exact hlt)]; rfl)
            obtain ⟨x, hx⟩ : ∃ x, x = T.row.getD k 0 := ⟨_, rfl⟩
            obtain ⟨y, hy⟩ : ∃ y, y = R.row.getD k 0 := ⟨_, rfl⟩
            have HM := Lib.hid (show (mixRow T R k).set k ((x + y) % 4294967296) = mixRow T R (k + 1) by rw [hx, hy]; exact mixRow_set T R hlt)
            rw [← hx] at c1
            rw [← hy] at c2
            clear hx hy
            have HK := Lib.hid hlt
            have p0 : 0 ≤ (k : Int) := by omega
            have p1 : (k : Int) < 8 := by omega
            clear hlt hk
            go_wp2
            go_region
            all_goals
              go_wp2
              have hk := HK.out
              refine ⟨⟨k + 1, by omega, by go_num, ?_, ?_, ?_⟩, by simp [intOf]; omega⟩
              · have := HP4.out.set_ k (.int .u32 ((x + y) % 4294967296))
                rw [hcells_setw (by rw [mixRow_len _ _ (by omega)]; omega), HM.out] at this
                exact Lib.hid this
              · exact Lib.hid (HR4.out.far (p := ⟨p, k, none⟩) HGS.out _)
              · first | exact Lib.hid (grown_dn HG4.out 0 _ _) | exact Lib.hid (grown_dn HG4.out 1 _ _) | exact Lib.hid (grown_dn HG4.out _ _ _)
          · obtain rfl : k = 8 := by omega
            go_wp2
            go_end0
            refine ⟨rfl, ?_, HG4.out⟩
            have := HP4.out
            rw [HT.out] at HRD
            rw [HRD.out, ← HT.out]
            exact this
end Go.Proofs.YtcomdkmglihdbaaGreatDoor

-- The program's hasher: (*impl.hasher).take.
namespace Go.Proofs.YtcomdkmglihdbaaGreatDoor
open Go.RowKit
set_option linter.unusedSimpArgs false
set_option linter.unusedVariables false

/-- 'copy(dst, s)', s a string of which as much goes over as there is room for. -/
theorem run_copy_strN {P : Program} (w : World) (dT sT ty elem : TypeId) (g o dLen dCap m : Nat) (s : ByteArray) (cur : Array Value) (t : TypeId)
    (hu : P.underlying dT = some (.slice elem)) (hs : (P.info? elem).map (·.size) = some 1) (hg : w.heap[g]? = some (.cells cur t (0, 0))) (hm : Nat.min s.size dLen = m) (hfit : o + m ≤ cur.size) :
    (Builtin.copy_ #[dT, sT] ty #[.slice (some ⟨g, o, none⟩) dLen dCap, .string s]).run P w =
      .ok (goInt m) (w.setRow g (cur.toList.take o ++ (s.data.toList.take m).map u8V ++ cur.toList.drop (o + m)).toArray) := by
  have hms : m ≤ s.size := by rw [← hm]; exact Nat.min_le_left _ _
  have hlen : ((s.data.toList.take m).map u8V).length = m := by rw [List.length_map, List.length_take, Array.length_toList]; exact Nat.min_eq_left hms
  have hst := run_storeCells_at P g o t ((s.data.toList.take m).map u8V) 0 cur w hg (by rw [hlen]; simpa using hfit) (by
    intro v hv
    obtain ⟨x, _, rfl⟩ := List.mem_map.1 hv
    rfl)
  have htk : List.take m (List.map (fun b : UInt8 => Value.int IntKind.u8 (b.toNat : Int)) s.data.toList) = (s.data.toList.take m).map u8V := by
    rw [List.map_take]
    rfl
  rw [hlen] at hst
  simp only [Nat.add_zero] at hst
  cases hq : P.info? elem with
  | none => simp [hq] at hs
  | some i =>
    simp [Builtin.copy_, run_underlying hu, Builtin.lenOf, Builtin.firstCells, sizeOf, typeInfo, hq, hm]
    rw [htk, hst]
    simp [Result.andThen]

theorem step_copy_strN {P : Program} {ops : Array Oper} {o : Oper} {a : Act} {w : World} {K : Act → World → Prop} {Q : Exit → Act → World → Prop} {E : Prop}
    (hgd : o.guard = none) (d x : Operand) (dT sT : TypeId) (hop : o.op = Op.call { callee := Callee.builtin Builtin.copy, args := #[d, x], argTypes := #[dT, sT] })
    (elem : TypeId) (hu : P.underlying dT = some (.slice elem)) (hs : (P.info? elem).map (·.size) = some 1)
    (g off dLen dCap m : Nat) (hd : a.eval d = .slice (some ⟨g, off, none⟩) dLen dCap) (s : ByteArray) (hx : a.eval x = .string s) (cur : Array Value) (t : TypeId) (hg : w.heap[g]? = some (.cells cur t (0, 0)))
    (hm : Nat.min s.size dLen = m) (hfit : off + m ≤ cur.size)
    (hK : ∀ w', w' = w.setRow g (cur.toList.take off ++ (s.data.toList.take m).map u8V ++ cur.toList.drop (off + m)).toArray → K (a.put o.dst (.int .i64 (m : Int))) w') :
    if Region.wanted o (yielded ops a.tmps) = true then Oper.wp P o a w K Q else E := by
  have hw : Region.wanted o (yielded ops a.tmps) = true := by simp [Region.wanted, hgd]
  rw [if_pos hw]
  have hrun := run_copy_strN (P := P) w dT sT o.type elem g off dLen dCap m s cur t hu hs hg hm hfit
  unfold Oper.wp
  simp [execOp, hop, resolve, invoke, builtin, hd, hx, hrun, Result.andThen]
  exact hK _ (by simp [List.map_take, List.append_assoc])

theorem hcells_copy (ws : List Int) (blk m : List UInt8) (used : Nat) (u : Nat) (tk : Int) (hl : ws.length = 8) (hb : blk.length = 64) (hm : used + m.length ≤ 64) :
    ((hcells ws blk u tk).toList.take (8 + used) ++ m.map u8V ++ (hcells ws blk u tk).toList.drop (8 + used + m.length)).toArray = hcells ws (blk.take used ++ m ++ blk.drop (used + m.length)) u tk := by
  unfold hcells
  have e1 : (ws.map (Value.int .u32)).length = 8 := by rw [List.length_map, hl]
  have e2 : (blk.map u8V).length = 64 := by rw [List.length_map, hb]
  congr 1
  have t1 : (ws.map (Value.int .u32) ++ (blk.map u8V ++ [Value.int .i64 (u : Int), Value.int .u64 tk])).take (8 + used) = ws.map (Value.int .u32) ++ (blk.take used).map u8V := by
    rw [List.take_append, e1, List.take_of_length_le (by rw [e1]; omega), show 8 + used - 8 = used by omega, List.take_append_of_le_length (by rw [e2]; omega), List.map_take]
  have t2 : (ws.map (Value.int .u32) ++ (blk.map u8V ++ [Value.int .i64 (u : Int), Value.int .u64 tk])).drop (8 + used + m.length) = (blk.drop (used + m.length)).map u8V ++ [Value.int .i64 (u : Int), Value.int .u64 tk] := by
    rw [List.drop_append, e1, List.drop_eq_nil_of_le (by rw [e1]; omega), List.nil_append, show 8 + used + m.length - 8 = used + m.length by omega, List.drop_append_of_le_length (by rw [e2]; omega), List.map_drop]
  simp only [List.toList_toArray]
  rw [t1, t2]
  simp [List.map_append]

/-- A hasher that has taken a text. -/
structure TookB (l : List UInt8) (ws : List Int) (blk : List UInt8) (used : Nat) : Prop where
  len : blk.length = 64
  pre : blk.take (l.length % 64) = l.drop (64 * (l.length / 64))
  words : ws = (sumTo l (l.length / 64)).row
  used : used = l.length % 64
theorem TookB.start (blk : List UInt8) (h : blk.length = 64) : TookB [] h0W blk 0 := ⟨h, by simp, rfl, rfl⟩
theorem TookB.few {l m : List UInt8} {ws : List Int} {blk : List UInt8} {used : Nat} (h : TookB l ws blk used) (hm : used + m.length < 64) : TookB (l ++ m) ws (blk.take used ++ m ++ blk.drop (used + m.length)) (used + m.length) := by
  have hu := h.used
  have h1 : (l ++ m).length / 64 = l.length / 64 := by rw [List.length_append]; omega
  have h2 : (l ++ m).length % 64 = used + m.length := by rw [List.length_append]; omega
  have hlb := h.len
  refine ⟨?_, ?_, ?_, h2.symm⟩
  · rw [List.length_append, List.length_append, List.length_take, List.length_drop]; omega
  · rw [h2, h1, List.take_append_of_le_length (by rw [List.length_append, List.length_take]; omega), List.take_of_length_le (by rw [List.length_append, List.length_take]; omega),
      List.drop_append_of_le_length (by omega), hu, h.pre]
  · rw [h1, sumTo_append _ _ _ (by omega)]; exact h.words
theorem TookB.full {l m : List UInt8} {s : W8} {blk : List UInt8} {used : Nat} (h : TookB l s.row blk used) (hm : used + m.length = 64) (hs : s = sumTo l (l.length / 64)) :
    TookB (l ++ m) (blockW s (blk.take used ++ m ++ blk.drop (used + m.length))).row (blk.take used ++ m ++ blk.drop (used + m.length)) 0 := by
  have hu := h.used
  have hlb := h.len
  have h1 : (l ++ m).length / 64 = l.length / 64 + 1 := by rw [List.length_append]; omega
  have h2 : (l ++ m).length % 64 = 0 := by rw [List.length_append]; omega
  have h3 : (l ++ m).length = 64 * (l.length / 64) + 64 := by rw [List.length_append]; omega
  have hd : blk.drop (used + m.length) = [] := List.drop_eq_nil_of_le (by omega)
  refine ⟨?_, ?_, ?_, h2.symm⟩
  · rw [List.length_append, List.length_append, List.length_take, List.length_drop]; omega
  · rw [h2, h1, List.take_zero, List.drop_eq_nil_of_le (by rw [h3]; omega)]
  · rw [h1, sumTo, sumTo_append _ _ _ (by omega), ← hs]
    congr 2
    rw [hd, List.append_nil, List.drop_append_of_le_length (by omega), hu, h.pre, List.take_of_length_le]
    rw [List.length_append, List.length_drop]
    omega

theorem below_sr (w : World) (g : Nat) (cs : Array Value) : w.grownBy (w.setRow g cs) (some g) :=
  ⟨rfl, rfl, rfl, by unfold World.setRow; simp, fun k _ hk => by
    unfold World.setRow
    show (w.heap.modify g _)[k]? = _
    rw [Array.getElem?_modify, if_neg (fun e => hk (by rw [e]))]⟩
theorem ext_drop {t : ByteArray} {L X : List UInt8} {k m : Nat} (h1 : t.data.toList = X) (h2 : X = L.drop k) : t.extract m t.size = ⟨(L.drop (k + m)).toArray⟩ := by
  apply ByteArray.ext
  apply Array.toList_inj.1
  rw [Lib.extract_data, h1, h2, List.drop_drop, List.toList_toArray]
  exact List.take_of_length_le (by
    have : t.size = X.length := by rw [← h1, Array.length_toList]; rfl
    rw [this, h2, List.length_drop, List.length_drop]
    omega)
theorem take_nextN {L X : List UInt8} {k m : Nat} (h2 : X = L.drop k) : L.take (k + m) = L.take k ++ X.take m := by rw [h2, List.take_add]
def lenT : Value → Nat
  | .string s => s.size
  | _ => 0
/-- What taking a text leaves. -/
def TakePost (p : Nat) (l : List UInt8) (tk : Int) (w : World) (e : Ending) (w' : World) : Prop :=
  e = .returned (.tuple #[]) ∧ (∃ ws blk used, TookB l ws blk used ∧ Blk w' p 137 (hcells ws blk used tk)) ∧ w.grownBy w' (some p)

set_option maxRecDepth 100000 in
set_option maxHeartbeats 2000000 in
theorem take_any (p : Nat) (l : List UInt8) (ws : List Int) (blk : List UInt8) (used : Nat) (tk : Int) (s : ByteArray) (w : World) (hk : Kww w) (hp : Blk w p 137 (hcells ws blk used tk)) (ht : TookB l ws blk used) (h0 : 0 ≤ tk) (h1 : tk + s.size ≤ 1099511627776) :
    Calls Tryz.prog 54 #[.pointer (some ⟨p, 0, none⟩), .string s] w (TakePost p (l ++ s.data.toList) (tk + s.size) w) := by
  have hwl : ws.length = 8 := by rw [ht.words]; rfl
  have hbl := ht.len
  have c73 := (hp.cell 73).trans (hcells_taken hwl hbl)
  have f73 := hp.frozen 73
  obtain ⟨L, hL⟩ : ∃ L, L = s.data.toList := ⟨_, rfl⟩
  have hn : L.length = s.size := by rw [hL, Array.length_toList]; rfl
  obtain ⟨n, hnn⟩ : ∃ n, n = s.size := ⟨_, rfl⟩
  rw [← hnn] at hn h1
  have hnsz : (s.size : Int) = n := by rw [hnn]
  have HS := Lib.hid (show s = ⟨L.toArray⟩ by rw [hL])
  rw [← hL, hnsz]
  have HP0 : Hid (Blk (w.setCell ⟨p, 73, none⟩ (.int .u64 (tk + n))) p 137 (hcells ws blk used (tk + n))) := by
    have := hp.set_ 73 (.int .u64 (tk + n))
    rwa [hcells_settaken hwl hbl] at this
  have HG0 := Lib.hid (grown_set w p 73 (.int .u64 (tk + n)))
  have HKP := Lib.hid (hk.apart hp (by rw [hcells_size hwl hbl]; decide))
  have HKW := Lib.hid hk
  have HT := Lib.hid ht
  have HN := Lib.hid hn
  have hN0 : (0 : Int) ≤ n := by omega
  have w1 : IntKind.u64.wrap (n : Int) = n := by simp [IntKind.wrap, IntKind.bits, IntKind.signed]; omega
  have w2 : IntKind.u64.wrap (tk + (n : Int)) = tk + n := by simp [IntKind.wrap, IntKind.bits, IntKind.signed]; omega
  have w3 : (tk + (n : Int)) % 18446744073709551616 = tk + n := by omega
  have w4 : (n : Int) % 18446744073709551616 = n := by omega
  clear hk hp ht hL hnn hn hwl hbl
  go_enter Tryz.func54, Tryz.ntmps54
  go_wp2
  clear w1 w2 w3 w4 c73 f73 h0
  go_loopw [1] (fun t wr => ∃ (k : Nat) (ws : List Int) (blk : List UInt8) (used : Nat), k ≤ n ∧ t = .string ⟨(L.drop k).toArray⟩ ∧ Hid (TookB (l ++ L.take k) ws blk used) ∧ Hid (Blk wr p 137 (hcells ws blk used (tk + n))) ∧ Hid (w.grownBy wr (some p))) (fun t _ => lenT t)
  case atStart => exact ⟨0, ws, blk, used, by omega, by rw [HS.out]; rfl, by simpa using HT, HP0, HG0⟩
  case round =>
    clear HP0 HG0 HT
    obtain ⟨k, ws, blk, used, hk, rfl, HT, HP, HG⟩ := hrel
    obtain ⟨X, hX⟩ : ∃ X, X = L.drop k := ⟨_, rfl⟩
    have hXl : X.length = n - k := by rw [hX, List.length_drop, HN.out]
    obtain ⟨q, hq⟩ : ∃ q, q = n - k := ⟨_, rfl⟩
    rw [← hq] at hXl
    rw [← hX]
    obtain ⟨t, htt⟩ : ∃ t : ByteArray, t = ⟨X.toArray⟩ := ⟨_, rfl⟩
    have htl : t.data.toList = X := by rw [htt]
    have htq : (t.size : Int) = q := by rw [htt]; simp [ByteArray.size]; omega
    have htq2 : t.size = q := by omega
    rw [← htt]
    have HXD := Lib.hid hX; have HTL := Lib.hid htl; have HQ := Lib.hid hq; have HTQ := Lib.hid htq2; have HTT := Lib.hid htt
    clear hX htl hq htq2 htt
    by_cases hpos : 0 < q
    · have hu64 : used < 64 := by have := HT.out.used; omega
      have hwl : ws.length = 8 := by rw [HT.out.words]; rfl
      have hbl := HT.out.len
      obtain ⟨m, hm⟩ : ∃ m, m = min q (64 - used) := ⟨_, rfl⟩
      have hm1 : m ≤ q := by omega
      have hm2 : used + m ≤ 64 := by omega
      have hm3 : 0 < m := by omega
      have hm4 : m = q ∨ used + m = 64 := by omega
      have HMM := Lib.hid (show Nat.min t.size (64 - used) = m by rw [HTQ.out, hm])
      have c72 := (HP.out.cell 72).trans (hcells_used hwl hbl)
      have u0 : 0 ≤ (used : Int) := by omega
      have u1 : (used : Int) ≤ 64 := by omega
      have u2 : ¬ 64 = used := by omega
      have u3 : ¬ used = 64 := by omega
      have HFIT := Lib.hid (show 8 + used + m ≤ (hcells ws blk used (tk + n)).size by rw [hcells_size hwl hbl]; omega)
      have HWL := Lib.hid hwl; have HBL := Lib.hid hbl; have HM4 := Lib.hid hm4
      clear hm hwl hbl hm4
      have hi1 : (Tryz.prog.info? 5).map (·.size) = some 1 := by kernel_rfl
      have HI1 := Lib.hid hi1
      clear hi1
      go_wp2
      go_region_law ((refine step_copy_strN rfl (.tmp 25) (.tmp 26) _ _ rfl 5 Tryz.underlying22 HI1.out p (8 + used) (64 - used) (64 - used) m rfl t rfl _ _ HP.out HMM.out HFIT.out ?_; intro w9 hw9; have HW9 := Lib.hid hw9; clear hw9))
      obtain ⟨b2, hb2⟩ : ∃ b2, b2 = blk.take used ++ X.take m ++ blk.drop (used + m) := ⟨_, rfl⟩
      have hxm : (X.take m).length = m := by rw [List.length_take, hXl]; exact Nat.min_eq_left hm1
      have HP9 : Hid (Blk w9 p 137 (hcells ws b2 used (tk + n))) := by
        rw [HW9.out, hb2, HTL.out]
        have e := hcells_copy ws blk (X.take m) used used (tk + n) HWL.out HBL.out (by rw [hxm]; omega)
        rw [hxm] at e
        rw [← e]
        exact Blk.setRow_ (show Blk wr.drew p _ _ from HP.out) _
      have HG9 : Hid (w.grownBy w9 (some p)) := by
        rw [HW9.out]
        exact World.grownBy.trans HG.out ((show wr.grownBy wr.drew (some p) from ⟨rfl, rfl, rfl, Nat.le_refl _, fun _ _ _ => rfl⟩).trans (below_sr wr.drew p _))
      have HB2 := Lib.hid hb2; have HXM := Lib.hid hxm
      have HXL := Lib.hid hXl
      clear HW9 hb2 hxm c72 u0 u1 u2 u3 hXl
      have d72 := (HP9.out.cell 72).trans (hcells_used HWL.out (by rw [HB2.out, List.length_append, List.length_append, List.length_take, List.length_drop, HXM.out, HBL.out]; omega))
      have f72 := HP9.out.frozen 72
      by_cases hfull : used + m = 64
      · have hbt : ((used : Int) + m == 64) = true := by simp; omega
        have HF := Lib.hid hfull
        clear hfull
        have hb64 : b2.length = 64 := by rw [HB2.out, List.length_append, List.length_append, List.length_take, List.length_drop, HXM.out, HBL.out]; omega
        obtain ⟨S, hS⟩ : ∃ S, S = sumTo (l ++ L.take k) ((l ++ L.take k).length / 64) := ⟨_, rfl⟩
        have hws : ws = S.row := by rw [HT.out.words, hS]
        have HPA : Hid (Blk (w9.setCell ⟨p, 72, none⟩ (.int .i64 ((used : Int) + m))) p 137 (hcells S.row b2 (used + m) (tk + n))) := by
          have := HP9.out.set_ 72 (.int .i64 (((used + m : Nat)) : Int))
          rw [hcells_setused HWL.out hb64, hws] at this
          exact this
        have HTF : Hid (TookB (l ++ L.take (k + m)) (blockW S b2).row b2 0) := by
          have h3 := HT.out
          rw [hws] at h3
          have := h3.full (m := X.take m) (by rw [HXM.out]; exact HF.out) hS
          rw [HXM.out, ← HB2.out] at this
          rw [take_nextN HXD.out, ← List.append_assoc]
          exact this
        have HGA := Lib.hid (World.grownBy.trans HG9.out (grown_set w9 p 72 (.int .i64 ((used : Int) + m))))
        have HB64 := Lib.hid hb64
        have hkw := HKW.out.of_block (HGA.out.block _ HKW.out.lt (fun e => HKP.out (by injection e with e; exact e.symm)))
        have HKA := Lib.hid hkw
        clear hws hS hb64 hkw
        go_wp2_with fail
        refine (mix_any p S b2 (used + m) (tk + n) _ HB64.out HPA.out HKA.out).mono ?_; rintro e w10 ⟨rfl, hP10, hG10⟩
        have e72 := (hP10.cell 72).trans (hcells_used rfl HB64.out)
        have f72 := hP10.frozen 72
        have HPB : Hid (Blk (w10.setCell ⟨p, 72, none⟩ (.int .i64 0)) p 137 (hcells (blockW S b2).row b2 0 (tk + n))) := by
          have := hP10.set_ 72 (.int .i64 ((0 : Nat) : Int))
          rw [hcells_setused rfl HB64.out] at this
          exact this
        have HGB := Lib.hid ((HGA.out.trans hG10).trans (grown_set w10 p 72 (.int .i64 0)))
        clear hP10 hG10
        go_wp2
        have hq := HQ.out
        refine ⟨⟨k + m, _, _, _, by omega, by rw [ext_drop HTL.out HXD.out], HTF, HPB, HGB⟩, ?_⟩
        rw [ext_drop HTL.out HXD.out]
        simp only [lenT, HTQ.out, ByteArray.size]
        simp [HN.out]
        omega
      · have hbt : ((used : Int) + m == 64) = false := by simp; omega
        have HF := Lib.hid hfull
        clear hfull
        go_wp2
        have hq := HQ.out
        have hf := HF.out
        have hb64 : b2.length = 64 := by rw [HB2.out, List.length_append, List.length_append, List.length_take, List.length_drop, HXM.out, HBL.out]; omega
        refine ⟨⟨k + m, ws, b2, used + m, by omega, by rw [ext_drop HTL.out HXD.out], ?_, ?_, Lib.hid (World.grownBy.trans HG9.out (grown_set w9 p 72 _))⟩, ?_⟩
        · have := HT.out.few (m := X.take m) (by rw [HXM.out]; omega)
          rw [HXM.out, ← HB2.out] at this
          rw [take_nextN HXD.out, ← List.append_assoc]
          exact Lib.hid this
        · have := HP9.out.set_ 72 (.int .i64 (((used + m : Nat)) : Int))
          rw [hcells_setused HWL.out hb64] at this
          exact Lib.hid this
        · rw [ext_drop HTL.out HXD.out]
          simp only [lenT, HTQ.out, ByteArray.size]
          simp [HN.out]
          omega
    · have hq0 : q = 0 := by omega
      have hkn : k = n := by have := HQ.out; omega
      have htk : L.take k = L := List.take_of_length_le (by rw [HN.out, hkn]; exact Nat.le_refl _)
      rw [htk] at HT
      have hz : ¬ (0 : Int) < q := by omega
      clear hq0 hkn htk hpos
      go_wp2
      go_end0
      exact ⟨rfl, ⟨ws, blk, used, HT.out, HP.out⟩, HG.out⟩
end Go.Proofs.YtcomdkmglihdbaaGreatDoor

-- Rows that a conversion has laid ('[]byte(s)': its block bears a mark behind its last cell), and what is appended to them, one element at a time.
namespace Go.Proofs.YtcomdkmglihdbaaGreatDoor
open Go.RowKit
set_option linter.unusedSimpArgs false
set_option linter.unusedVariables false

def MRow (w : World) (base : Nat) (e : TypeId) (v : Value) (n : Nat) (xs : List Value) : Prop :=
  xs.length = n ∧ ∃ g cap cur fr, v = .slice (some ⟨g, 0, none⟩) n cap ∧ base ≤ g ∧ w.heap[g]? = some (.cells cur e fr) ∧ (∀ j, j < cap → (decide (fr.1 ≤ j) && decide (j < fr.2)) = false) ∧ n ≤ cap ∧ cap ≤ maxLen ∧ cap ≤ cur.size ∧ cur.toList.take n = xs

theorem MRow.of_own {w : World} {base n : Nat} {e : TypeId} {v : Value} {xs : List Value} (h : w.ownsRow base e 1 v n xs) (hn : 0 < n) : MRow w base e v n xs := by
  refine ⟨by rw [h.1]; omega, ?_⟩
  rcases h.2 with ⟨_, h0⟩ | ⟨g, cap, cur, rfl, hb, hg, hnc, hm, hs, ht⟩
  · omega
  · exact ⟨g, cap, cur, (0, 0), rfl, hb, hg, fun j _ => by simp, hnc, hm, by omega, by rw [← ht, Nat.mul_one]⟩
theorem MRow.below {w w' : World} {base n : Nat} {e : TypeId} {v : Value} {xs : List Value} (h : MRow w base e v n xs) (hb : Below w.heap.size w w') : MRow w' base e v n xs := by
  obtain ⟨hl, g, cap, cur, fr, e1, e2, e3, rest⟩ := h
  exact ⟨hl, g, cap, cur, fr, e1, e2, (hb.block g (Array.getElem?_eq_some_iff.1 e3).1).trans e3, rest⟩
theorem MRow.alloc {w : World} {base n : Nat} {e : TypeId} {v : Value} {xs : List Value} (h : MRow w base e v n xs) (o : Obj) : MRow (w.alloc o) base e v n xs := h.below ((Below.refl _ _).alloc (Nat.le_refl _) o)
theorem MRow.drew {w : World} {base n : Nat} {e : TypeId} {v : Value} {xs : List Value} (h : MRow w base e v n xs) : MRow w.drew base e v n xs := h
theorem MRow.form {w : World} {base n : Nat} {e : TypeId} {v : Value} {xs : List Value} (h : MRow w base e v n xs) : ∃ g cap, v = .slice (some ⟨g, 0, none⟩) n cap ∧ base ≤ g ∧ g < w.heap.size ∧ n ≤ cap ∧ cap ≤ maxLen := by
  obtain ⟨hl, g, cap, cur, fr, e1, e2, e3, _, e4, e5, _⟩ := h
  exact ⟨g, cap, e1, e2, (Array.getElem?_eq_some_iff.1 e3).1, e4, e5⟩
theorem heap_cell {w : World} {g : Nat} {cur : Array Value} {e : TypeId} {fr : Nat × Nat} (h : w.heap[g]? = some (.cells cur e fr)) (j : Nat) : w.cell? ⟨g, j, none⟩ = cur[j]? := by
  unfold World.cell?
  rw [h]
  simp
theorem heap_frozen {w : World} {g : Nat} {cur : Array Value} {e : TypeId} {fr : Nat × Nat} (h : w.heap[g]? = some (.cells cur e fr)) (j : Nat) : w.frozen? ⟨g, j, none⟩ = (decide (fr.1 ≤ j) && decide (j < fr.2)) := by
  unfold World.frozen?
  rw [h]
theorem MRow.cells {w : World} {base n c : Nat} {g : Nat} {e : TypeId} {xs : List Value} (h : MRow w base e (.slice (some ⟨g, 0, none⟩) n c) n xs) {j : Nat} {u : Value} (hu : xs[j]? = some u) : w.cell? ⟨g, j, none⟩ = some u := by
  obtain ⟨hl, g', cap, cur, fr, e1, e2, e3, _, _, _, _, ht⟩ := h
  injection e1 with e1 _ _
  injection e1 with e1
  injection e1 with e1 _ _
  subst e1
  rw [heap_cell e3]
  rw [← ht, List.getElem?_take] at hu
  split at hu
  · simpa using hu
  · cases hu

/-- One element more. -/
theorem run_append_M {P : Program} (w : World) (base : Nat) (t ty e : TypeId) (i : TypeInfo) (z : Value) (bytes : Nat) (ht : P.underlying t = some (.slice e)) (hi : P.info? e = some i) (hz : i.zero = some z)
    (hsize : i.size = 1) (hby : i.bytes = bytes) (hzs : z.cells.size = 1)
    (v : Value) (n : Nat) (xs : List Value) (hown : MRow w base e v n xs) (ad : Addr) (c : Nat) (u : Value) (hu : w.cell? ad = some u) (h1 : u.oneCell' = true)
    (h63 : n + 1 ≤ maxLen) (hbytes : (n + 1) * bytes ≤ 140737488355328) (hbase : base ≤ w.heap.size) :
    ∃ v' w', (Builtin.append_ #[t, t] ty #[v, .slice (some ad) 1 c]).run P w = .ok v' w' ∧ MRow w' base e v' (n + 1) (xs ++ [u]) ∧ Below base w w' := by
  have hn1 : ∀ j x, [u][j]? = some x → w.cell? (ad.add j) = some x := by
    intro j x hx
    have hj : j = 0 := by have := (List.getElem?_eq_some_iff.1 hx).1; simpa using this
    subst hj
    rw [add_zero', hu]
    simpa using hx
  obtain ⟨hl, g, cap, cur, fr, rfl, hg1, hg, hfr, hnc, hm, hcs, htk⟩ := hown
  have hlt := (Array.getElem?_eq_some_iff.1 hg).1
  by_cases hr : n + 1 ≤ cap
  · have hrun := run_append_room_cells (P := P) w t ty e i ht hi g 0 n cap ad 1 c [u] (by rw [hsize]; rfl) hn1 (by simpa using h1) hr
      (fun j hj => by
        rw [heap_cell hg, hsize]
        simp at hj
        subst hj
        rw [Array.getElem?_eq_getElem (by omega)]
        rfl)
      (fun j hj => by
        rw [heap_frozen hg, hsize]
        simp at hj
        subst hj
        exact hfr _ (by omega))
    refine ⟨_, _, hrun, ?_, ?_⟩
    · have e1 : w.setCells g (0 + n * i.size) [u] = w.setCell ⟨g, n, none⟩ u := by rw [hsize, Nat.mul_one, Nat.zero_add]; rfl
      rw [e1]
      refine ⟨by simp [hl], g, cap, cur.setIfInBounds n u, fr, rfl, hg1, ?_, hfr, hr, hm, by simpa using hcs, ?_⟩
      · simp [World.setCell, Array.getElem?_modify, hg]
      · apply List.ext_getElem?
        intro j
        rw [List.getElem?_take]
        have hx : ∀ j, j < n → cur[j]? = xs[j]? := fun j hj => by
          rw [← htk, List.getElem?_take, if_pos hj]
          simp
        by_cases hj : j < n
        · rw [if_pos (by omega), List.getElem?_append_left (by omega), ← hx j hj]
          rw [Array.getElem?_toList, Array.getElem?_setIfInBounds, if_neg (by omega)]
        · rw [List.getElem?_append_right (by omega), hl]
          by_cases hj2 : j = n
          · subst hj2
            rw [if_pos (by omega), Array.getElem?_toList, Array.getElem?_setIfInBounds, if_pos rfl, if_pos (by omega), Nat.sub_self]
            rfl
          · rw [if_neg (by omega), List.getElem?_eq_none (by simp; omega)]
    · have e1 : w.setCells g (0 + n * i.size) [u] = w.setCell ⟨g, n, none⟩ u := by rw [hsize, Nat.mul_one, Nat.zero_add]; rfl
      rw [e1]
      exact (Below.refl _ _).setCell (p := ⟨g, n, none⟩) hg1 u
  · obtain ⟨v', w', hrun, r1, r2⟩ := run_append_arg_grows (P := P) w t ty e i z 1 bytes ht hi hz hsize hby hzs (by omega) ⟨g, 0, none⟩ n cap xs (by omega)
      (fun j x hx => by
        rw [add_at, heap_cell hg]
        rw [← htk, List.getElem?_take] at hx
        split at hx
        · simpa using hx
        · cases hx)
      ad 1 c [u] rfl hn1 (by omega) h63 hbytes
    refine ⟨v', w', hrun, ?_, ?_⟩
    · have := MRow.of_own r1 (by omega)
      obtain ⟨q1, g', cap', cur', fr', q2, q3, q4⟩ := this
      exact ⟨q1, g', cap', cur', fr', q2, by omega, q4⟩
    · exact (Below.refl base w).grown r2 hbase (by intro k hk; cases hk)

theorem wp_append_M {P : Program} {w : World} {o : Oper} {a : Act} {K : Act → World → Prop} {Q : Exit → Act → World → Prop} (s x : Operand) (t : TypeId)
    (ho : o.op = .call { callee := .builtin .append, args := #[s, x], argTypes := #[t, t] })
    (base : Nat) (e : TypeId) {z : Value} {bytes : Nat} (ht : P.underlying t = some (.slice e)) (hinfo : (P.info? e).map (fun i => (i.zero, i.size, i.bytes)) = some (some z, 1, bytes))
    (hzs : z.cells.size = 1) (v : Value) (n : Nat) (xs : List Value) (hs : a.eval s = v) (hown : MRow w base e v n xs)
    (ad : Addr) (c : Nat) (u : Value) (hx : a.eval x = .slice (some ad) 1 c) (hu : w.cell? ad = some u) (h1 : u.oneCell' = true)
    (h63 : n + 1 ≤ maxLen) (hbytes : (n + 1) * bytes ≤ 140737488355328) (hbase : base ≤ w.heap.size)
    (h : ∀ v' w', MRow w' base e v' (n + 1) (xs ++ [u]) → Below base w w' → K (a.put o.dst v') w') : o.wp P a w K Q := by
  obtain ⟨i0, hi0, hz0, hz1, hz2⟩ := info_parts hinfo
  obtain ⟨v', w', hr, h2, h3⟩ := run_append_M (P := P) w base t o.type e i0 z bytes ht hi0 hz0 hz1 hz2 hzs v n xs hown ad c u hu h1 h63 hbytes hbase
  unfold Oper.wp execOp
  simp only [ho, resolve, invoke, builtin, Sem.run_bind, Sem.run_pure, Result.andThen_ok, List.map_toArray, List.map_cons, List.map_nil, hs, hx, hr]
  exact h v' w' h2 h3

/-- 'append(out, x)', x a byte laid in a new block. -/
theorem wpList_app1M {P : Program} {w0 : World} {ops : Array Oper} {rest : List Oper} {o : Oper} {a : Act} {Q : Exit → Act → World → Prop} {e2 : TypeId} {u : Value} (hgd : o.guard = none) (s x : Operand) (t : TypeId)
    (ho : o.op = .call { callee := .builtin .append, args := #[s, x], argTypes := #[t, t] })
    (base : Nat) (e : TypeId) {z : Value} {bytes : Nat} (ht : P.underlying t = some (.slice e)) (hinfo : (P.info? e).map (fun i => (i.zero, i.size, i.bytes)) = some (some z, 1, bytes))
    (hzs : z.cells.size = 1) (v : Value) (n : Nat) (xs : List Value) (hs : a.eval s = v) (hown : MRow w0 base e v n xs)
    (h1 : u.oneCell' = true) (hx : a.eval x = .slice (some ⟨w0.heap.size, 0, none⟩) 1 1) (hby : 0 < bytes)
    (hn : (n + 1) * bytes ≤ 140737488355328) (hbase : base ≤ w0.heap.size)
    (h : ∀ v' w', MRow w' base e v' (n + 1) (xs ++ [u]) → Below base w0 w' → wpList P ops Q rest (a.put o.dst v') w') :
    wpList P ops Q (o :: rest) a (w0.alloc (.cells #[u] e2)) := by
  have hn1 : n + 1 ≤ 140737488355328 := Nat.le_trans (Nat.le_mul_of_pos_right _ hby) hn
  refine wpList_plain hgd fun _ hK => wp_append_M s x t ho base e ht hinfo hzs v n xs hs (hown.alloc _) ⟨w0.heap.size, 0, none⟩ 1 u hx ?_ h1 (by unfold maxLen; omega) hn (by simp; omega)
    fun v' w' h2 h3 => hK _ _ (h v' w' h2 (((Below.refl base w0).alloc hbase _).trans h3))
  exact (Blk.new w0 e2 #[u]).cell 0

theorem MRow.sl {w : World} {base n : Nat} {e : TypeId} {v : Value} {l : List UInt8} (h : MRow w base e v n (l.map u8V)) : Sl w 1 v (bts l) := by
  have h0 := h
  obtain ⟨hl, g, cap, cur, fr, rfl, e2, e3, _, e4, e5, _, ht⟩ := h
  refine ⟨_, _, _, rfl, ⟨by rw [bts_len]; simpa using hl, e4, e5, fun _ => ⟨g, 0, rfl, (Array.getElem?_eq_some_iff.1 e3).1, fun k r hr j x hx => ?_⟩⟩⟩
  unfold bts at hr
  rw [List.getElem?_map] at hr
  obtain ⟨b, hb, rfl⟩ := Option.map_eq_some_iff.1 hr
  have hj : j = 0 := by have := (List.getElem?_eq_some_iff.1 hx).1; simpa using this
  subst hj
  rw [Nat.zero_add, Nat.mul_one, Nat.add_zero]
  refine h0.cells ?_
  rw [List.getElem?_map, hb]
  simpa using hx

/-- '[]byte(s)'. -/
theorem MRow.of_text (w : World) (e : TypeId) (s : ByteArray) (hs : grownCap w s.size 0 e ≤ maxLen) (hc : s.size ≤ grownCap w s.size 0 e) :
    MRow (w.drew.alloc (.cells (bytesRow s (grownCap w s.size 0 e)) e ((bytesRow s (grownCap w s.size 0 e)).size, (bytesRow s (grownCap w s.size 0 e)).size + 1))) w.heap.size e (.slice (some ⟨w.heap.size, 0, none⟩) s.size (grownCap w s.size 0 e)) s.size (s.data.toList.map u8V) := by
  obtain ⟨C, hC⟩ : ∃ C, C = grownCap w s.size 0 e := ⟨_, rfl⟩
  rw [← hC] at hs hc ⊢
  clear hC
  have hds : s.data.size = s.size := rfl
  have hsz : (bytesRow s C).size = C := by
    unfold bytesRow
    rw [Array.size_append, Array.size_map, Array.size_replicate, hds]
    omega
  rw [hsz]
  refine ⟨by rw [List.length_map, Array.length_toList]; rfl, w.heap.size, C, bytesRow s C, (C, C + 1), rfl, Nat.le_refl _, ?_, fun j hj => ?_, hc, hs, by rw [hsz]; exact Nat.le_refl _, ?_⟩
  · show (w.heap.push _)[w.heap.size]? = _
    rw [Array.getElem?_push_size]
  · have : decide (C ≤ j) = false := by simpa using hj
    rw [this]; rfl
  · unfold bytesRow
    rw [Array.toList_append, List.take_append_of_le_length (by rw [Array.length_toList, Array.size_map, hds]; exact Nat.le_refl _), List.take_of_length_le (by rw [Array.length_toList, Array.size_map, hds]; exact Nat.le_refl _), Array.toList_map]
    rfl
end Go.Proofs.YtcomdkmglihdbaaGreatDoor

-- Joined texts: HashD HashS HashX.
-- The reference's padding: spec.l1Padded.
namespace Go.Proofs.YtcomdkmglihdbaaGreatDoor
open Go.RowKit
set_option linter.unusedSimpArgs false
set_option linter.unusedVariables false

def lenV : Value → Nat
  | .slice _ m _ => m
  | _ => 0
theorem conv_text (w : World) (s : ByteArray) (hs : s.size ≤ 140737488355328) : ∃ C W1, (convert 9 22 (.string s)).run Tryz.prog w = .ok (.slice (some ⟨w.heap.size, 0, none⟩) s.size C) W1 ∧
    MRow W1 w.heap.size 5 (.slice (some ⟨w.heap.size, 0, none⟩) s.size C) s.size (s.data.toList.map u8V) ∧ Below w.heap.size w W1 := by
  refine ⟨_, _, run_bytes_of_string w 9 22 5 s Tryz.underlying9 Tryz.underlying22 Tryz.underlying5, MRow.of_text w 5 s (grownCap_le_maxLen _ _ _ _ (by unfold maxLen; omega)) (grownCap_ge _ _ _ _), ?_⟩
  exact (Below.refl _ _).drew.alloc (Nat.le_refl _) _

set_option maxHeartbeats 1000000 in
theorem l1Padded_any (s : ByteArray) (w : World) (hs : s.size ≤ 16777216) :
    Calls Tryz.prog 45 #[.string s] w fun e w' => ∃ v, e = .returned v ∧ MRow w' w.heap.size 5 v (padded s.data.toList).length ((padded s.data.toList).map u8V) ∧ Below w.heap.size w w' := by
  obtain ⟨C, W1, hconv, m1, b1⟩ := conv_text w s (by omega)
  obtain ⟨n, hn⟩ : ∃ n, n = s.size := ⟨_, rfl⟩
  have hl : s.data.toList.length = n := by rw [hn]; rfl
  rw [← hn] at m1 hs hconv
  have hsz1 := b1.size
  have HL := Lib.hid hl; have HM1 := Lib.hid m1
  have HN := Lib.hid hn
  have hn2 : (s.size : Int) = n := by omega
  clear hl m1 hn
  go_enter Tryz.func45, Tryz.ntmps45
  go_wp2_with (at_builtin; go_must (refine wpList_app1M (w0 := W1) rfl (.tmp 7) (.tmp 8) _ rfl w.heap.size 5 Tryz.underlying22 info_u8 rfl _ n _ rfl HM1.out rfl rfl (by omega) (by omega) hsz1 ?_); intro v2 w2 m2 b2)
  have b02 := b1.trans b2
  have HM2 : Hid (MRow w2 w.heap.size 5 v2 (n + 1 + 0) ((s.data.toList ++ [128] ++ List.replicate 0 0).map u8V)) := by
    rw [show (List.replicate 0 (0 : UInt8)) = [] from rfl, List.append_nil, List.map_append]
    exact m2
  clear m2 b2 hconv HM1
  go_loopw [3] (fun v wr => ∃ k : Nat, k ≤ zerosFor n ∧ Hid (MRow wr w.heap.size 5 v (n + 1 + k) ((s.data.toList ++ [128] ++ List.replicate k 0).map u8V)) ∧ Below w.heap.size w wr) (fun v _ => n + 65 - lenV v)
  case atStart => exact ⟨0, by omega, HM2, b02⟩
  case round =>
    obtain ⟨k, hk, HM, hb⟩ := hrel
    have hsz := hb.size
    obtain ⟨g, cap, rfl, hg1, hg2, hnc, hcm⟩ := HM.out.form
    have hz := zerosFor_lt n
    obtain ⟨m, hm⟩ : ∃ m, m = n + 1 + k := ⟨_, rfl⟩
    rw [← hm]
    rw [← hm] at HM hnc
    have hm3 : m ≤ n + 65 := by omega
    have hm4 : k < m := by omega
    by_cases hlt : k < zerosFor n
    · have h1 : ((m : Int) % 64 != 56) = true := by have := zerosFor_least n k hlt; simp; omega
      have HK := Lib.hid hlt
      have HMM := Lib.hid hm
      clear hlt hm hk hz
      go_wp2_with (at_builtin; go_must (refine wpList_app1M (w0 := wr) rfl (.tmp 14) (.tmp 15) _ rfl w.heap.size 5 Tryz.underlying22 info_u8 rfl (.slice (some ⟨g, 0, none⟩) m cap) m _ rfl HM.out rfl rfl (by omega) (by omega) hsz ?_); intro v3 w3 m3 b3)
      obtain ⟨g3, cap3, rfl, hg31, hg32, hnc3, hcm3⟩ := m3.form
      have hk := HK.out
      have hm := HMM.out
      refine ⟨⟨k + 1, by omega, ?_, hb.trans b3⟩, ?_⟩
      · rw [show n + 1 + (k + 1) = m + 1 by omega, List.replicate_succ']
        rw [show s.data.toList ++ [128] ++ (List.replicate k 0 ++ [0]) = (s.data.toList ++ [128] ++ List.replicate k 0) ++ [0] by simp, List.map_append]
        exact m3
      · have hz := zerosFor_lt n
        simp [lenV]; omega
    · have hkz : k = zerosFor n := by omega
      have h1 : ((m : Int) % 64 != 56) = false := by have := zerosFor_mod n; rw [← hkz] at this; simp; omega
      obtain ⟨L, hL⟩ : ∃ L, L = s.data.toList ++ [128] ++ List.replicate k 0 := ⟨_, rfl⟩
      rw [← hL] at HM
      have HPD := Lib.hid (show padded s.data.toList = L ++ be8 n by rw [hL]; unfold padded; rw [HL.out, ← hkz]; simp)
      have HLL := Lib.hid (show L.length = m by rw [hL, hm, List.length_append, List.length_append, HL.out, List.length_replicate]; rfl)
      clear hL hm hkz hlt hk hz hm4
      obtain ⟨wo, rfl⟩ : ∃ wo : World, wo = wr := ⟨_, rfl⟩
      go_wp2
      go_loopw [3, 5] (fun v i wr => ∃ k : Nat, k ≤ 8 ∧ i = .int .i64 (7 - (k : Int)) ∧ Hid (MRow wr w.heap.size 5 v (m + k) ((L ++ (be8 n).take k).map u8V)) ∧ Below w.heap.size w wr) (fun _ i _ => (intOf i + 1).toNat)
      case atStart => exact ⟨0, by omega, rfl, by simpa using HM, hb⟩
      case round =>
        clear h1 HM
        obtain ⟨k, hk, rfl, HM, hb⟩ := hrel
        have hsz := hb.size
        obtain ⟨g, cap, rfl, hg1, hg2, hnc, hcm⟩ := HM.out.form
        by_cases hlt : k < 8
        · have h7 : 0 ≤ 7 - (k : Int) := by omega
          obtain ⟨x, hx⟩ : ∃ x : UInt8, x = byteOf (((8 * n : Nat) : Int) / 2 ^ (56 - 8 * k)) := ⟨_, rfl⟩
          have HX := Lib.hid (show (be8 n).take (k + 1) = (be8 n).take k ++ [x] by
            rw [List.take_succ_eq_append_getElem (by rw [be8_len]; omega), hx]
            simp [be8])
          have HV := Lib.hid (show (Value.int .u8 ((n : Int) * 8 / 2 ^ (8 * (7 - k)) % 256)) = u8V x by
            rw [hx, u8V, ← byteOf_mod, show 8 * (7 - k) = 56 - 8 * k by omega]
            congr 3
            omega)
          have HK := Lib.hid hlt
          clear hx hlt hk
          go_wp2_with (at_builtin; go_must (refine wpList_app1M (w0 := wr) rfl (.tmp 24) (.tmp 30) _ rfl w.heap.size 5 Tryz.underlying22 info_u8 rfl (.slice (some ⟨g, 0, none⟩) (m + k) cap) (m + k) _ rfl HM.out rfl rfl (by omega) (by have := HK.out; omega) hsz ?_); intro v3 w3 m3 b3)
          rw [HV.out] at m3
          have hk := HK.out
          refine ⟨⟨k + 1, by omega, ?_, ?_, hb.trans b3⟩, ?_⟩
          · simp; omega
          · rw [HX.out, ← Nat.add_assoc, ← List.append_assoc, List.map_append]
            exact m3
          · simp [intOf]; omega
        · obtain rfl : k = 8 := by omega
          go_wp2
          go_ret
          refine ⟨_, rfl, ?_, hb⟩
          rw [HPD.out]
          have := HM.out
          rw [List.take_of_length_le (by rw [be8_len]; omega)] at this
          rw [List.length_append, be8_len, HLL.out]
          exact this
end Go.Proofs.YtcomdkmglihdbaaGreatDoor

-- The reference's sum: spec.l1Sum.
namespace Go.Proofs.YtcomdkmglihdbaaGreatDoor
open Go.RowKit
set_option linter.unusedSimpArgs false
set_option linter.unusedVariables false

/-- 'append(out, x, y, ..)' inside a region that draws. -/
theorem step_appNg {P : Program} {w0 : World} {ops : Array Oper} {o : Oper} {a : Act} {K : Act → World → Prop} {Q : Exit → Act → World → Prop} {E : Prop} {e2 : TypeId} {r : List Value} (m : Nat) (hgd : o.guard = none) (s x : Operand) (t : TypeId)
    (ho : o.op = .call { callee := .builtin .append, args := #[s, x], argTypes := #[t, t] })
    (base : Nat) (e : TypeId) {z : Value} {size bytes : Nat} (ht : P.underlying t = some (.slice e)) (hinfo : (P.info? e).map (fun i => (i.zero, i.size, i.bytes)) = some (some z, size, bytes))
    (hzs : z.cells.size = size) (hsz : 0 < size) (hby : 0 < bytes)
    (v : Value) (n : Nat) (cs : List Value) (hs : a.eval s = v) (hown : w0.ownsRow base e size v n cs)
    (hr : r.length = m * size) (h1 : ∀ u ∈ r, u.oneCell' = true) (hx : a.eval x = .slice (some ⟨w0.heap.size, 0, none⟩) m m)
    (hn : (n + m) * bytes ≤ 140737488355328) (hbase : base ≤ w0.heap.size)
    (h : ∀ v' w', w'.ownsRow base e size v' (n + m) (cs ++ r) → w0.grownBy w' v.ownBlock → K (a.put o.dst v') w') :
    if Region.wanted o (yielded ops a.tmps) = true then Oper.wp P o a (w0.alloc (.cells r.toArray e2)) K Q else E := by
  have hw : Region.wanted o (yielded ops a.tmps) = true := by simp [Region.wanted, hgd]
  rw [if_pos hw]
  obtain ⟨i0, hi0, hz0, hz1, hz2⟩ := info_parts hinfo
  have hn1 : n + m ≤ 140737488355328 := Nat.le_trans (Nat.le_mul_of_pos_right _ hby) hn
  refine wp_append_own _ s x t ho base e i0 z size bytes ht hi0 hz0 hz1 hz2 hzs hsz v n cs hs (hown.alloc _) ⟨w0.heap.size, 0, none⟩ m m r hx hr (fun j u hu => ?_) h1 (by unfold maxLen; omega) hn
    (by simp; omega) (fun v' w' hown' hg hv => h v' w' hown' ((World.grownBy_alloc w0 _ _).trans hg))
  rw [add_at, cell_of_row _ _ _ r.toArray e2 (0, 0) (heap_alloc_new w0 _)]
  simpa using hu

/-- 'string(b)' of a row of the call's own. -/
theorem conv_back {w : World} {base g c : Nat} {l : List UInt8} {n : Nat} (hn : l.length = n) (h : w.ownsRow base 5 1 (.slice (some ⟨g, 0, none⟩) n c) n (l.map u8V)) :
    (convert 22 9 (.slice (some ⟨g, 0, none⟩) n c)).run Tryz.prog w = .ok (.string ⟨l.toArray⟩) w := by
  subst hn
  refine run_convert_bytes_back w 22 9 5 ⟨g, 0, none⟩ c l Tryz.underlying22 Tryz.underlying5 Tryz.underlying9 (fun j hj => ?_)
  exact h.cells (g := g) rfl j (.int .u8 (l[j].toNat : Int)) (by rw [List.getElem?_map, List.getElem?_eq_getElem hj]; rfl)

/-- A part of a row of bytes. -/
theorem sl_part {w : World} {base g n c i m : Nat} {l : List UInt8} (h : MRow w base 5 (.slice (some ⟨g, 0, none⟩) n c) n (l.map u8V)) (him : i + m ≤ n) (hc : m ≤ c - i) (hnc : c ≤ maxLen) : Sl w 1 (.slice (some ⟨g, i, none⟩) m (c - i)) (bts ((l.drop i).take m)) := by
  have hl : l.length = n := by have := h.1; rwa [List.length_map] at this
  refine ⟨_, _, _, rfl, ⟨by rw [bts_len, List.length_take, List.length_drop]; omega, hc, by omega, fun hm => ⟨g, i, rfl, ?_, fun k r hr j x hx => ?_⟩⟩⟩
  · obtain ⟨g', cap, e, _, hlt, _⟩ := h.form
    injection e with e _ _
    injection e with e
    injection e with e _ _
    subst e
    exact hlt
  · unfold bts at hr
    rw [List.getElem?_map] at hr
    obtain ⟨b, hb, rfl⟩ := Option.map_eq_some_iff.1 hr
    have hj : j = 0 := by have := (List.getElem?_eq_some_iff.1 hx).1; simpa using this
    subst hj
    rw [List.getElem?_take] at hb
    split at hb
    · rw [List.getElem?_drop] at hb
      rw [Nat.mul_one, Nat.add_zero]
      refine h.cells ?_
      rw [List.getElem?_map, hb]
      simpa using hx
    · cases hb

set_option maxHeartbeats 2000000 in
theorem l1Sum_any (s : ByteArray) (w : World) (hs : s.size ≤ 16777216) :
    Calls Tryz.prog 23 #[.string s] w fun e w' => e = .returned (.string ⟨(sumOf s.data.toList).toArray⟩) ∧ Below w.heap.size w w' := by
  obtain ⟨l, hl⟩ : ∃ l, l = s.data.toList := ⟨_, rfl⟩
  have hll : l.length ≤ 16777216 := by rw [hl]; exact hs
  obtain ⟨N, hN⟩ : ∃ N, N = (padded l).length / 64 := ⟨_, rfl⟩
  have hM : (padded l).length = 64 * N := by have := padded_mod l; omega
  have hN2 : N ≤ 262200 := by have := padded_len l; have := zerosFor_lt l.length; omega
  have HP := fun W => l1Padded_any s W hs
  have HS := Lib.hid (show sumOf s.data.toList = bytesW (sumTo (padded l) N) by rw [← hl, hN]; rfl)
  rw [← hl] at HP
  have HPh := Lib.hid HP
  have HM := Lib.hid hM
  clear hM hN hl HP
  have hO0 := Lib.hid (World.ownsRow_lit (base := w.heap.size) (e := 73) (size := 1) w (h0W.map (Value.int .u32)).toArray 8 (Nat.le_refl _) (by unfold maxLen; omega) rfl)
  go_enter Tryz.func23, Tryz.ntmps23
  go_wp2_with fail
  refine (HPh.out _).mono ?_; rintro e w1 ⟨v1, rfl, m1, b1⟩
  obtain ⟨g, cap, rfl, hg1, hg2, hnc, hcm⟩ := m1.form
  rw [HM.out] at hnc m1
  rw [HM.out]
  have hb0 : Below w.heap.size w w1 := below_step (by go_grown) (by simp) b1
  have HM1 := Lib.hid m1
  have hS0 : Hid (Sl w1 1 (.slice (some ⟨w.heap.size, 0, none⟩) 8 8) (wds (sumTo (padded l) 0).row)) := by
    refine (SlA.of_own (base := w.heap.size) (e := 73) (n := 8) (cs := wds (sumTo (padded l) 0).row) ?_ rfl (wds_rows _)).below b1
    exact hO0.out
  unfold maxLen at hcm
  clear m1 b1 hO0
  obtain ⟨V, HVw⟩ : ∃ V, Hid (V = w1) := ⟨_, rfl⟩
  go_wp2
  go_loopw [3, 5] (fun h i wr => ∃ k : Nat, k ≤ N ∧ i = .int .i64 (64 * (k : Int)) ∧ Hid (Sl wr 1 h (wds (sumTo (padded l) k).row)) ∧ Below w.heap.size w wr ∧ Below w1.heap.size w1 wr) (fun _ i _ => 64 * N - (intOf i).toNat)
  case atStart => exact ⟨0, by omega, rfl, hS0, hb0, Below.refl _ _⟩
  case round =>
    clear hS0 hb0
    obtain ⟨k, hk, rfl, HH, hb, hb1⟩ := hrel
    by_cases hlt : k < N
    · obtain ⟨A, n8, c8, rfl, hA⟩ := id HH.out
      clear hA
      have HBL := Lib.hid (sl_part (i := 64 * k) (m := 64) (l := padded l) (HM1.out.below hb1) (by omega) (by omega) (by unfold maxLen; omega))
      have hlt2 : 64 * (k : Int) < 64 * N := by omega
      have hne : ¬ cap = 64 * k := by omega
      have hle : 64 * k + 64 ≤ cap := by omega
      have HK := Lib.hid hlt
      have HLB := Lib.hid (show (((padded l).drop (64 * k)).take 64).length = 64 by rw [List.length_take, List.length_drop, HM.out]; omega)
      clear hk hlt2
      go_wp2_with fail
      refine (l1Block_any _ _ (sumTo (padded l) k) (((padded l).drop (64 * k)).take 64) _ HH.out HBL.out HLB.out).mono ?_; rintro e w2 ⟨v2, rfl, o2, b2⟩
      go_wp2
      refine ⟨⟨k + 1, by omega, ?_, Lib.hid (SlA.of_own o2 (by rw [wds_len]; rfl) (wds_rows _)), below_then hb b2, below_then hb1 b2⟩, ?_⟩
      · simp; omega
      · simp [intOf]; omega
    · obtain rfl : k = N := by omega
      obtain ⟨A, n8, c8, rfl, hA⟩ := id HH.out
      have h8 : n8 = 8 := by have := hA.len; rw [wds_len, row_len] at this; omega
      subst h8
      obtain ⟨B, off, rfl, hB, hcells⟩ := row_all (Value.int .u32) (show SlA wr 1 A 8 c8 ((sumTo (padded l) k).row.map fun x => [Value.int .u32 x]) from hA) (by omega)
      have HC := Lib.hid hcells
      obtain ⟨R, hR⟩ : ∃ R, R = (sumTo (padded l) k).row := ⟨_, rfl⟩
      rw [← hR] at HC
      have HRl := Lib.hid (show R.length = 8 by rw [hR]; rfl)
      have HSR := Lib.hid (show sumOf s.data.toList = R.flatMap be4 by rw [HS.out, hR]; rfl)
      have HOB := Lib.hid (World.ownsRow_made (base := wr.heap.size) (e := 5) (size := 1) wr #[] 0 (Nat.le_refl _) (Nat.zero_le _) rfl)
      clear hA hcells HS hR HM1 HH hb1 hnc hlt
      obtain ⟨wo, rfl⟩ : ∃ wo : World, wo = wr := ⟨_, rfl⟩
      go_wp2
      go_loopw [6, 7] (fun o i wr => ∃ k : Nat, k ≤ 8 ∧ i = .int .i64 k ∧ Hid (wr.ownsRow wo.heap.size 5 1 o (4 * k) (((R.take k).flatMap be4).map u8V)) ∧ Below wo.heap.size wo wr) (fun _ i _ => 8 - (intOf i).toNat)
      case atStart => exact ⟨0, by omega, rfl, HOB, by go_grown⟩
      case round =>
        clear HOB
        obtain ⟨k, hk, rfl, HO, hb2⟩ := hrel
        have hsz2 := hb2.size
        by_cases hlt : k < 8
        · have c0 := (hb2.cell (p := ⟨B, off + k, none⟩) hB).trans (HC.out k _ (getD_of (d := 0) (by rw [HRl.out]; exact hlt)))
          obtain ⟨x, hx⟩ : ∃ x, x = R.getD k 0 := ⟨_, rfl⟩
          rw [← hx] at c0
          have HX := Lib.hid (show (R.take (k + 1)).flatMap be4 = (R.take k).flatMap be4 ++ be4 x by
            rw [List.take_succ_eq_append_getElem (by rw [HRl.out]; exact hlt), List.flatMap_append, hx]
            simp [HRl.out, hlt])
          clear hx
          have HK := Lib.hid hlt
          have hlt2 : (k : Int) < 8 := by omega
          clear hk hlt
          go_wp2
          go_region_held3 (fun w' => w'.cell? ⟨B, off + k, none⟩ = some (.int .u32 x))
            (first | exact c0 | exact z0 | go_keep)
            ((refine step_appNg (w0 := wr.drew) 4 rfl (.tmp 29) (.tmp 53) _ rfl wo.heap.size 5 Tryz.underlying22 info_u8 rfl (by omega) (by omega) _ (4 * k) _ rfl (by exact HO.out) rfl (by simp [Value.oneCell']) rfl (by have := HK.out; omega) (by exact hsz2) ?_; intro v9 w9 hown9 hg9; have hb9 : Below wo.heap.size wr w9 := (Below.refl wo.heap.size wr).drew.grown hg9 (by exact hsz2) (fun k hk => (HO.out.lt k hk).1); have z0 := (hb9.cell (p := ⟨B, off + k, none⟩) hB).trans c0))
          go_wp2
          have hk := HK.out
          refine ⟨⟨k + 1, by omega, by go_num, ?_, hb2.trans hb9⟩, by simp [intOf]; omega⟩
          rw [HX.out, List.map_append]
          have E : ([.int .u8 (x / 16777216 % 256), .int .u8 (x / 65536 % 256), .int .u8 (x / 256 % 256), .int .u8 (x % 256)] : List Value) = (be4 x).map u8V := by simp only [be4, List.map, u8V, ← byteOf_mod]
          rw [← E]
          exact hown9
        · obtain rfl : k = 8 := by omega
          have ho := HO.out
          rw [List.take_of_length_le (by rw [HRl.out]; omega), ← HSR.out] at ho
          obtain ⟨g9, cap9, rfl, _, _⟩ := ho.form (by omega)
          have hconv := conv_back (by rw [sumOf_len]) ho
          clear ho HO
          go_wp2
          go_ret
          exact ⟨rfl, hb.trans (hb2.mono hb.size)⟩
end Go.Proofs.YtcomdkmglihdbaaGreatDoor

-- The reference's figures: spec.l1Hex, spec.HashSum.
namespace Go.Proofs.YtcomdkmglihdbaaGreatDoor
open Go.RowKit
set_option linter.unusedSimpArgs false
set_option linter.unusedVariables false

theorem bsize (l : List UInt8) : (⟨l.toArray⟩ : ByteArray).size = l.length := by simp [ByteArray.size]
theorem figs_at (i : Nat) (h : i < (⟨#[48, 49, 50, 51, 52, 53, 54, 55, 56, 57, 97, 98, 99, 100, 101, 102]⟩ : ByteArray).size) : (⟨#[48, 49, 50, 51, 52, 53, 54, 55, 56, 57, 97, 98, 99, 100, 101, 102]⟩ : ByteArray)[i] = fig i := by
  have h16 : i < 16 := h
  obtain rfl | rfl | rfl | rfl | rfl | rfl | rfl | rfl | rfl | rfl | rfl | rfl | rfl | rfl | rfl | rfl : i = 0 ∨ i = 1 ∨ i = 2 ∨ i = 3 ∨ i = 4 ∨ i = 5 ∨ i = 6 ∨ i = 7 ∨ i = 8 ∨ i = 9 ∨ i = 10 ∨ i = 11 ∨ i = 12 ∨ i = 13 ∨ i = 14 ∨ i = 15 := by omega
  all_goals rfl

set_option maxHeartbeats 2000000 in
theorem l1Hex_any (s : ByteArray) (w : World) (hs : s.size ≤ 16777216) (hpos : 0 < s.size) :
    Calls Tryz.prog 24 #[.string s] w fun e w' => e = .returned (.string ⟨(hexOf s.data.toList).toArray⟩) ∧ Below w.heap.size w w' := by
  have HOB := Lib.hid (World.ownsRow_made (base := w.heap.size) (e := 5) (size := 1) w #[] 0 (Nat.le_refl _) (Nat.zero_le _) rfl)
  have hlen : s.data.toList.length = s.size := by simp
  have HL := Lib.hid hlen; clear hlen
  go_enter Tryz.func24, Tryz.ntmps24
  go_wp2
  go_loopw [3, 4] (fun o i wr => ∃ k : Nat, k ≤ s.size ∧ i = .int .i64 k ∧ Hid (wr.ownsRow w.heap.size 5 1 o (2 * k) ((hexOf (s.data.toList.take k)).map u8V)) ∧ Below w.heap.size w wr) (fun _ i _ => s.size - (intOf i).toNat)
  case atStart => exact ⟨0, by omega, rfl, HOB, by go_grown⟩
  case round =>
    clear HOB
    obtain ⟨k, hk, rfl, HO, hb⟩ := hrel
    have hsz := hb.size
    by_cases hlt : k < s.size
    · have HT := Lib.hid (show hexOf (s.data.toList.take (k + 1)) = hexOf (s.data.toList.take k) ++ hex2 s[k] by
        rw [List.take_succ_eq_append_getElem (by rw [HL.out]; exact hlt), hexOf_snoc]; rfl)
      have n1 : 0 ≤ (s[k].toNat : Int) / 16 := by omega
      have n2 : (s[k].toNat : Int) / 16 < 16 := by have := UInt8.toNat_lt s[k]; omega
      have n3 : 0 ≤ (s[k].toNat : Int) % 16 := by omega
      have n4 : (s[k].toNat : Int) % 16 < 16 := by omega
      have t1 : ((s[k].toNat : Int)).tmod 16 = (s[k].toNat : Int) % 16 := Int.tmod_eq_emod_of_nonneg (by omega)
      have HK := Lib.hid hlt
      have hxl := UInt8.toNat_lt s[k]
      have w1 : IntKind.u8.wrap ((s[k].toNat : Int) / 16) = (s[k].toNat : Int) / 16 := by simp [IntKind.wrap, IntKind.bits, IntKind.signed]; omega
      have w2 : IntKind.u8.wrap ((s[k].toNat : Int) % 16) = (s[k].toNat : Int) % 16 := by simp [IntKind.wrap, IntKind.bits, IntKind.signed]; omega
      clear hxl hk
      go_wp2
      go_region_held3 (fun _ => True) (first | trivial | go_keep) ((refine step_appNg (w0 := wr.drew) 2 rfl (.tmp 12) (.tmp 23) _ rfl w.heap.size 5 Tryz.underlying22 info_u8 rfl (by omega) (by omega) _ (2 * k) _ rfl (by exact HO.out) rfl (by simp [Value.oneCell']) rfl (by have := HK.out; omega) (by exact hsz) ?_; intro v9 w9 hown9 hg9))
      all_goals
        have hb9 : Below w.heap.size wr w9 := (Below.refl w.heap.size wr).drew.grown hg9 (by exact hsz) (fun k hk => (HO.out.lt k hk).1)
        go_wp2
        have x1 : (IntKind.u8.wrap ((s[k].toNat : Int) / 16)).toNat = s[k].toNat / 16 := by rw [w1]; omega
        have x2 : ((s[k].toNat : Int) % 16).toNat = s[k].toNat % 16 := by omega
        simp only [figs_at] at hown9
        have h9 : w9.ownsRow w.heap.size 5 1 v9 (2 * k + 2) ((hexOf (s.data.toList.take k)).map u8V ++ [.int .u8 ((fig (IntKind.u8.wrap ((s[k].toNat : Int) / 16)).toNat).toNat : Int), .int .u8 ((fig ((s[k].toNat : Int) % 16).toNat).toNat : Int)]) := hown9
        rw [x1, x2] at h9
        have hk := HK.out
        refine ⟨⟨k + 1, by omega, by go_num, ?_, hb.trans hb9⟩, by simp [intOf]; omega⟩
        rw [HT.out, List.map_append]
        exact h9
    · obtain rfl : k = s.size := by omega
      have ho := HO.out
      rw [List.take_of_length_le (by rw [HL.out]; omega)] at ho
      obtain ⟨g9, cap9, rfl, _, _⟩ := ho.form (by omega)
      have hconv := conv_back (by rw [hexOf_len, HL.out]) ho
      clear ho HO
      go_wp2
      go_ret
      exact ⟨rfl, hb⟩

end Go.Proofs.YtcomdkmglihdbaaGreatDoor

-- The program's sum: impl.newHasher, (*impl.hasher).sum, impl.hashOf, impl.hashFigures, impl.HashSum.
namespace Go.Proofs.YtcomdkmglihdbaaGreatDoor
open Go.RowKit
set_option linter.unusedSimpArgs false
set_option linter.unusedVariables false

set_option maxRecDepth 100000 in
theorem newHasher_any (w : World) :
    Calls Tryz.prog 53 #[] w fun e w' => e = .returned (.pointer (some ⟨w.heap.size, 0, none⟩)) ∧ w' = w.alloc (.cells (hcells h0W (List.replicate 64 0) 0 0) 137) := by
  go_enter Tryz.func53, Tryz.ntmps53
  go_wp2
  go_ret
  exact ⟨rfl, rfl⟩

/-- A block of bytes. -/
def bArr (l : List UInt8) : Array Value := (l.map u8V).toArray
theorem bArr_set (l : List UInt8) (k : Nat) (x : UInt8) : (bArr l).setIfInBounds k (u8V x) = bArr (l.set k x) := by
  unfold bArr
  rw [List.setIfInBounds_toArray, List.map_set]
theorem bArr_get {l : List UInt8} {k : Nat} {x : UInt8} (h : l[k]? = some x) : (bArr l)[k]? = some (u8V x) := by
  unfold bArr
  rw [List.getElem?_toArray, List.getElem?_map, h]; rfl
theorem bArr_size (l : List UInt8) : (bArr l).size = l.length := by simp [bArr]
theorem bArr_some {w : World} {g k : Nat} {t : TypeId} {l : List UInt8} (h : Blk w g t (bArr l)) (hk : k < l.length) : w.cell? ⟨g, k, none⟩ = some (u8V (l.getD k 0)) := (h.cell k).trans (bArr_get (getD_of hk))
theorem be8_at (n : Nat) {k : Nat} (h : k < 8) : (be8 n).take (k + 1) ++ List.replicate (8 - (k + 1)) 0 = ((be8 n).take k ++ List.replicate (8 - k) 0).set k (byteOf (((8 * n : Nat) : Int) / 2 ^ (56 - 8 * k))) := by
  have hl : ((be8 n).take k).length = k := by rw [List.length_take, be8_len]; omega
  rw [List.set_append_right _ _ (by rw [hl]; exact Nat.le_refl _), hl, Nat.sub_self, show 8 - k = (8 - (k + 1)) + 1 by omega, List.replicate_succ, List.set_cons_zero,
    List.take_succ_eq_append_getElem (by rw [be8_len]; exact h), List.append_assoc]
  congr 1
  simp [be8]

theorem grown_sr_new {w wr : World} {r : Option Nat} {g : Nat} (h : w.grownBy wr r) (hg : w.heap.size ≤ g) (cs : Array Value) : w.grownBy (wr.setRow g cs) r := by
  obtain ⟨h1, h2, h3, h4, h5⟩ := h
  refine ⟨h1, h2, h3, by unfold World.setRow; simpa using h4, fun k hk hr => ?_⟩
  unfold World.setRow
  show (wr.heap.modify g _)[k]? = _
  rw [Array.getElem?_modify, if_neg (by omega)]
  exact h5 k hk hr
theorem four_set (P : List UInt8) (m k : Nat) (a b c d : UInt8) (h : P.length = k) : ((((P ++ List.replicate (m + 4) 0).set k a).set (k + 1) b).set (k + 2) c).set (k + 3) d = P ++ [a, b, c, d] ++ List.replicate m 0 := by
  subst h
  rw [show List.replicate (m + 4) (0 : UInt8) = 0 :: 0 :: 0 :: 0 :: List.replicate m 0 from rfl]
  have e : ∀ (X : List UInt8) (i : Nat) (y : UInt8), (P ++ X).set (P.length + i) y = P ++ X.set i y := fun X i y => by
    rw [List.set_append_right _ _ (by omega), Nat.add_sub_cancel_left]
  have e0 := e (0 :: 0 :: 0 :: 0 :: List.replicate m 0) 0 a
  rw [Nat.add_zero] at e0
  rw [e0, e, e, e]
  simp
theorem flat4_len (R : List Int) : (R.flatMap be4).length = 4 * R.length := by
  induction R with
  | nil => rfl
  | cons x R ih => rw [List.flatMap_cons, List.length_append, ih]; simp [be4]; omega
theorem outs_step (R : List Int) {k : Nat} (hl : R.length = 8) (h : k < 8) :
    (((((R.take k).flatMap be4 ++ List.replicate (32 - 4 * k) 0).set (4 * k) (byteOf (R.getD k 0 / 16777216))).set (4 * k + 1) (byteOf (R.getD k 0 / 65536))).set (4 * k + 2) (byteOf (R.getD k 0 / 256))).set (4 * k + 3) (byteOf (R.getD k 0)) =
      (R.take (k + 1)).flatMap be4 ++ List.replicate (32 - 4 * (k + 1)) 0 := by
  have e : 32 - 4 * k = (32 - 4 * (k + 1)) + 4 := by omega
  rw [e, four_set _ _ _ _ _ _ _ (by rw [flat4_len, List.length_take, hl]; omega)]
  rw [List.take_succ_eq_append_getElem (by rw [hl]; exact h), List.flatMap_append]
  congr 2
  simp [be4, hl, h]
theorem agg_index (w : World) (a b c d e f g h : Int) {k : Nat} (hk : k < 8) :
    (Instr.index 135 (.agg #[.int .u32 a, .int .u32 b, .int .u32 c, .int .u32 d, .int .u32 e, .int .u32 f, .int .u32 g, .int .u32 h]) (.int .i64 (k : Int))).run Tryz.prog w = .ok (.int .u32 ([a, b, c, d, e, f, g, h].getD k 0)) w := by
  obtain rfl | rfl | rfl | rfl | rfl | rfl | rfl | rfl : k = 0 ∨ k = 1 ∨ k = 2 ∨ k = 3 ∨ k = 4 ∨ k = 5 ∨ k = 6 ∨ k = 7 := by omega
  all_goals kernel_rfl

theorem zeros_snoc (l : List UInt8) (k : Nat) : l ++ [128] ++ List.replicate k 0 ++ [0] = l ++ [128] ++ List.replicate (k + 1) 0 := by
  rw [List.append_assoc, ← List.replicate_succ']

set_option maxRecDepth 100000 in
set_option maxHeartbeats 4000000 in
theorem sum_any (p : Nat) (l : List UInt8) (ws : List Int) (blk : List UInt8) (used : Nat) (w : World) (hk : Kww w) (hp : Blk w p 137 (hcells ws blk used l.length)) (ht : TookB l ws blk used) (hl : l.length ≤ 34359738368) :
    Calls Tryz.prog 55 #[.pointer (some ⟨p, 0, none⟩)] w fun e w' => e = .returned (.agg ((sumOf l).map u8V).toArray) ∧ w.grownBy w' (some p) := by
  have hwl : ws.length = 8 := by rw [ht.words]; rfl
  have c73 := (hp.cell 73).trans (hcells_taken hwl ht.len)
  obtain ⟨n, hn⟩ : ∃ n, n = l.length := ⟨_, rfl⟩
  rw [← hn] at hp c73 hl
  have HN := Lib.hid hn; clear hn
  have hpl := hp.lt
  have w1 : IntKind.u64.wrap ((n : Int) * 8) = n * 8 := by simp [IntKind.wrap, IntKind.bits, IntKind.signed]; omega
  have w2 : ((n : Int) * 8) % 18446744073709551616 = n * 8 := by omega
  have HP := Lib.hid hp; have HT := Lib.hid ht; have HK := Lib.hid hk
  have HKP := Lib.hid (hk.apart hp (by rw [hcells_size hwl ht.len]; decide))
  clear hp ht hk hwl
  go_enter Tryz.func55, Tryz.ntmps55
  go_wp2_with fail
  obtain ⟨W1, hW1⟩ : ∃ W1, W1 = w.alloc (.cells #[.int .u8 0, .int .u8 0, .int .u8 0, .int .u8 0, .int .u8 0, .int .u8 0, .int .u8 0, .int .u8 0, .int .u8 0, .int .u8 0, .int .u8 0, .int .u8 0, .int .u8 0, .int .u8 0, .int .u8 0, .int .u8 0, .int .u8 0, .int .u8 0, .int .u8 0, .int .u8 0, .int .u8 0, .int .u8 0, .int .u8 0, .int .u8 0, .int .u8 0, .int .u8 0, .int .u8 0, .int .u8 0, .int .u8 0, .int .u8 0, .int .u8 0, .int .u8 0] 63) := ⟨_, rfl⟩
  obtain ⟨rb, hrb⟩ : ∃ r, r = w.heap.size := ⟨_, rfl⟩
  have hR1 : Hid (Blk W1 rb 63 #[.int .u8 0, .int .u8 0, .int .u8 0, .int .u8 0, .int .u8 0, .int .u8 0, .int .u8 0, .int .u8 0, .int .u8 0, .int .u8 0, .int .u8 0, .int .u8 0, .int .u8 0, .int .u8 0, .int .u8 0, .int .u8 0, .int .u8 0, .int .u8 0, .int .u8 0, .int .u8 0, .int .u8 0, .int .u8 0, .int .u8 0, .int .u8 0, .int .u8 0, .int .u8 0, .int .u8 0, .int .u8 0, .int .u8 0, .int .u8 0, .int .u8 0, .int .u8 0]) := by rw [hW1, hrb]; exact Blk.new _ _ _
  have hP1 : Hid (Blk W1 p 137 (hcells ws blk used n)) := by rw [hW1]; exact HP.out.alloc _
  have hG1 : Hid (w.grownBy W1 (some p)) := by rw [hW1]; exact World.grownBy_alloc _ _ _
  have hrp : rb ≠ p := by omega
  rw [← hW1, ← hrb]
  have HRP := Lib.hid hrp
  have hRW := Lib.hid (show w.heap.size ≤ rb by omega)
  have hrl : rb < W1.heap.size := hR1.out.lt
  have HK1 := Lib.hid (HK.out.of_block (hG1.out.block _ HK.out.lt (fun e => HKP.out (by injection e with e; exact e.symm))))
  clear hW1 hrb hrp HP c73 w1 w2
  refine (take_any p l ws blk used n ⟨#[128]⟩ W1 HK1.out hP1.out HT.out (by omega) (by show (n : Int) + 1 ≤ _; omega)).mono ?_; rintro e w2 ⟨rfl, ⟨ws2, blk2, used2, ht2, hp2⟩, hg2⟩
  have e2 : l ++ (⟨#[128]⟩ : ByteArray).data.toList = l ++ [128] ++ List.replicate 0 0 := by simp
  have HT2 : Hid (TookB (l ++ [128] ++ List.replicate 0 0) ws2 blk2 used2) := by rw [← e2]; exact ht2
  have HP2 : Hid (Blk w2 p 137 (hcells ws2 blk2 used2 ((n + 1 + 0 : Nat) : Int))) := hp2
  have HG2 := Lib.hid hg2
  clear ht2 hp2 hg2 e2 HT hP1
  go_wp2
  go_loopg [] (zerosFor n + 1) (fun gk wr => ∃ (k : Nat) (ws : List Int) (blk : List UInt8) (used : Nat), gk = zerosFor n + 1 - k ∧ k ≤ zerosFor n ∧ Hid (TookB (l ++ [128] ++ List.replicate k 0) ws blk used) ∧ Hid (Blk wr p 137 (hcells ws blk used ((n + 1 + k : Nat) : Int))) ∧ Hid (W1.grownBy wr (some p)))
  case atStart => exact ⟨0, ws2, blk2, used2, rfl, by omega, HT2, HP2, HG2⟩
  case round =>
    clear HT2 HP2 HG2
    obtain ⟨k, ws, blk, used, hgk, hk, HT, HP, HG⟩ := hrel
    have hgk := Lib.hid hgk
    have hwl : ws.length = 8 := by rw [HT.out.words]; rfl
    have c72 := (HP.out.cell 72).trans (hcells_used hwl HT.out.len)
    have hus : used = (n + 1 + k) % 64 := by
      have := HT.out.used
      rw [List.length_append, List.length_append, List.length_replicate, ← HN.out] at this
      exact this
    have hkw := Lib.hid (HK1.out.of_block (HG.out.block _ HK1.out.lt (fun e => HKP.out (by injection e with e; exact e.symm))))
    have HWL := Lib.hid hwl
    by_cases hlt : k < zerosFor n
    · have hb : ((used : Int) != 56) = true := by have := zerosFor_least n k hlt; simp; omega
      have HLT := Lib.hid hlt
      have hz := zerosFor_lt n
      clear hus hwl hlt hk
      go_wp2_with fail
      refine (take_any p (l ++ [128] ++ List.replicate k 0) ws blk used ((n + 1 + k : Nat) : Int) ⟨#[0]⟩ wr hkw.out HP.out HT.out (by omega) (by have := HLT.out; show ((n + 1 + k : Nat) : Int) + 1 ≤ _; omega)).mono ?_; rintro e w3 ⟨rfl, ⟨ws3, blk3, used3, ht3, hp3⟩, hg3⟩
      have HT3 : Hid (TookB (l ++ [128] ++ List.replicate (k + 1) 0) ws3 blk3 used3) := by rw [← zeros_snoc]; exact ht3
      have HP3 : Hid (Blk w3 p 137 (hcells ws3 blk3 used3 ((n + 1 + (k + 1) : Nat) : Int))) := hp3
      have HG3 := Lib.hid (World.grownBy.trans HG.out hg3)
      clear ht3 hp3 hg3 hz
      go_wp2
      go_roundg (zerosFor n + 1 - (k + 1))
      case rel => exact ⟨k + 1, ws3, blk3, used3, rfl, by have := HLT.out; omega, HT3, HP3, HG3⟩
      case measure => have := HLT.out; have := hgk.out; omega
    · have hkz : k = zerosFor n := by omega
      have hb : ((used : Int) != 56) = false := by have := zerosFor_mod n; rw [hkz] at hus; simp; omega
      rw [hkz] at HT HP
      clear hus hwl hlt hk hkz c72
      obtain ⟨wz, rfl⟩ : ∃ wz : World, wz = wr := ⟨_, rfl⟩
      have HPZ := HP
      have c72 := (HP.out.cell 72).trans (hcells_used HWL.out HT.out.len)
      obtain ⟨gt, hgt⟩ : ∃ g, g = wz.heap.size := ⟨_, rfl⟩
      have HB0 : Hid (Blk (wz.alloc (.cells #[.int .u8 0, .int .u8 0, .int .u8 0, .int .u8 0, .int .u8 0, .int .u8 0, .int .u8 0, .int .u8 0] 138)) gt 138 (bArr ((be8 n).take 0 ++ List.replicate (8 - 0) 0))) := by rw [hgt]; exact Blk.new _ _ _
      have hgt2 : wz.heap.size ≤ gt := by omega
      have hpz := HP.out.lt
      have hrz : rb < wz.heap.size := Nat.lt_of_lt_of_le hrl HG.out.size
      go_wp2
      rw [← hgt]
      have HGT := Lib.hid hgt
      clear hgt c72 hb
      go_loopw [23] (fun i wr => ∃ k : Nat, k ≤ 8 ∧ i = .int .i64 k ∧ Hid (Blk wr gt 138 (bArr ((be8 n).take k ++ List.replicate (8 - k) 0))) ∧ Below wz.heap.size wz wr) (fun i _ => 8 - (intOf i).toNat)
      case atStart => exact ⟨0, by omega, rfl, HB0, by go_grown⟩
      case round =>
        clear HB0
        obtain ⟨k, hk, rfl, HB, hbz⟩ := hrel
        by_cases hlt : k < 8
        · have hl8 : ((be8 n).take k ++ List.replicate (8 - k) (0 : UInt8)).length = 8 := by rw [List.length_append, List.length_take, be8_len, List.length_replicate]; omega
          obtain ⟨z, hz⟩ : ∃ z, z = ((be8 n).take k ++ List.replicate (8 - k) (0 : UInt8)).getD k 0 := ⟨_, rfl⟩
          have cz := bArr_some HB.out (k := k) (by rw [hl8]; exact hlt)
          rw [← hz] at cz
          have fz := HB.out.frozen k
          have HV := Lib.hid (show (Value.int .u8 ((n : Int) * 8 / 2 ^ (56 - 8 * k) % 256)) = u8V (byteOf (((8 * n : Nat) : Int) / 2 ^ (56 - 8 * k))) by
            rw [u8V, ← byteOf_mod]
            congr 3
            omega)
          have HLT := Lib.hid hlt
          have k8 : (k : Int) < 8 := by omega
          clear hl8 hz hlt hk
          go_wp2
          have hk := HLT.out
          refine ⟨⟨k + 1, by omega, by go_num, ?_, ?_⟩, ?_⟩
          · have := HB.out.set_ k (u8V (byteOf (((8 * n : Nat) : Int) / 2 ^ (56 - 8 * k))))
            rw [bArr_set, ← be8_at n hk, ← HV.out] at this
            exact Lib.hid this
          · exact hbz.setCell hgt2 _
          · simp [intOf]; omega
        · obtain rfl : k = 8 := by omega
          have hfull : (be8 n).take 8 ++ List.replicate (8 - 8) (0 : UInt8) = be8 n := by rw [List.take_of_length_le (by rw [be8_len]; exact Nat.le_refl _)]; simp
          rw [hfull] at HB
          have hconv : (convert 22 9 (.slice (some ⟨gt, 0, none⟩) 8 8)).run Tryz.prog wr = .ok (.string ⟨(be8 n).toArray⟩) wr := by
            have := run_convert_bytes_back (P := Tryz.prog) wr 22 9 5 ⟨gt, 0, none⟩ 8 (be8 n) Tryz.underlying22 Tryz.underlying5 Tryz.underlying9 (fun j hj => by
              rw [add_at, HB.out.cell]
              exact bArr_get (List.getElem?_eq_getElem hj))
            rwa [be8_len] at this
          have hPr := Lib.hid (HP.out.below hbz hpz)
          have hgr : Hid (W1.grownBy wr (some p)) := Lib.hid (World.grownBy.trans HG.out (below_gr hbz _))
          have hkr := Lib.hid (HK1.out.of_block (hgr.out.block _ HK1.out.lt (fun e => HKP.out (by injection e with e; exact e.symm))))
          have hpad : l ++ [128] ++ List.replicate (zerosFor n) 0 ++ be8 n = padded l := by rw [HN.out]; unfold padded; simp
          have HPAD := Lib.hid hpad
          have hz := zerosFor_lt n
          clear hfull hpad hbz HP HG hk hlt
          go_wp2_with fail
          refine (take_any p _ ws blk used ((n + 1 + zerosFor n : Nat) : Int) ⟨(be8 n).toArray⟩ wr hkr.out hPr.out HT.out (by omega) (by rw [bsize, be8_len]; omega)).mono ?_; rintro e w5 ⟨rfl, ⟨ws5, blk5, used5, ht5, hp5⟩, hg5⟩
          have ht6 : TookB (padded l) ws5 blk5 used5 := by rw [← HPAD.out]; exact ht5
          obtain ⟨R, hR⟩ : ∃ R : W8, R = sumTo (padded l) ((padded l).length / 64) := ⟨_, rfl⟩
          have hw5 : ws5 = R.row := by rw [hR]; exact ht6.words
          rw [hw5] at hp5
          have HSUM := Lib.hid (show sumOf l = R.row.flatMap be4 by rw [hR]; rfl)
          have hg15 : Hid (W1.grownBy w5 (some p)) := Lib.hid (World.grownBy.trans hgr.out hg5)
          have hw15 : Hid (w.grownBy w5 (some p)) := Lib.hid (World.grownBy.trans hG1.out hg15.out)
          have hRB5 : Hid (Blk w5 rb 63 #[.int .u8 0, .int .u8 0, .int .u8 0, .int .u8 0, .int .u8 0, .int .u8 0, .int .u8 0, .int .u8 0, .int .u8 0, .int .u8 0, .int .u8 0, .int .u8 0, .int .u8 0, .int .u8 0, .int .u8 0, .int .u8 0, .int .u8 0, .int .u8 0, .int .u8 0, .int .u8 0, .int .u8 0, .int .u8 0, .int .u8 0, .int .u8 0, .int .u8 0, .int .u8 0, .int .u8 0, .int .u8 0, .int .u8 0, .int .u8 0, .int .u8 0, .int .u8 0]) := Lib.hid ((hg15.out.block rb hrl (fun e => HRP.out (by injection e))).trans hR1.out)
          obtain ⟨sa, sb, sc, sd, se, sf, sg, sh⟩ := R
          have hr : w5.rangeAt p 0 [.int .u32 sa, .int .u32 sb, .int .u32 sc, .int .u32 sd, .int .u32 se, .int .u32 sf, .int .u32 sg, .int .u32 sh] := fun j v hv => by
            have hv' : ([sa, sb, sc, sd, se, sf, sg, sh].map (Value.int .u32))[j]? = some v := hv
            rw [List.getElem?_map] at hv'
            obtain ⟨x, hx, rfl⟩ := Option.map_eq_some_iff.1 hv'
            rw [Nat.zero_add]
            exact (hp5.cell j).trans (hcells_w hx)
          have HRR := Lib.hid hr
          have hi8 : (Tryz.prog.info? 135).map (·.size) = some 8 := by kernel_rfl
          have HI8 := Lib.hid hi8
          have hp5l := hp5.lt
          clear hr hi8 ht5 ht6 hp5 hg5 hR hw5 hconv hz hPr hgr hkr HB
          obtain ⟨go, hgo⟩ : ∃ g, g = w5.heap.size := ⟨_, rfl⟩
          have hgo2 : w5.heap.size ≤ go := by omega
          obtain ⟨w6, hw6⟩ : ∃ w6, w6 = w5.alloc (.cells #[.int .u8 0, .int .u8 0, .int .u8 0, .int .u8 0, .int .u8 0, .int .u8 0, .int .u8 0, .int .u8 0, .int .u8 0, .int .u8 0, .int .u8 0, .int .u8 0, .int .u8 0, .int .u8 0, .int .u8 0, .int .u8 0, .int .u8 0, .int .u8 0, .int .u8 0, .int .u8 0, .int .u8 0, .int .u8 0, .int .u8 0, .int .u8 0, .int .u8 0, .int .u8 0, .int .u8 0, .int .u8 0, .int .u8 0, .int .u8 0, .int .u8 0, .int .u8 0] 63) := ⟨_, rfl⟩
          have hB6 : Hid (Blk w6 go 63 (bArr (([] : List Int).flatMap be4 ++ List.replicate (32 - 4 * 0) 0))) := by rw [hw6, hgo]; exact Blk.new _ _ _
          have b56 : Below w5.heap.size w5 w6 := by rw [hw6]; go_grown
          have HR6 : Hid (w6.rangeAt p 0 [.int .u32 sa, .int .u32 sb, .int .u32 sc, .int .u32 sd, .int .u32 se, .int .u32 sf, .int .u32 sg, .int .u32 sh]) := Lib.hid (fun j v hv => (b56.cell (p := ⟨p, 0 + j, none⟩) hp5l).trans (HRR.out j v hv))
          have HW6 := Lib.hid hw6; have HGO := Lib.hid hgo
          clear hw6 hgo
          go_wp2_with (refine wpList_load_mid rfl 135 (.tmp 41) rfl p 0 rfl [.int .u32 sa, .int .u32 sb, .int .u32 sc, .int .u32 sd, .int .u32 se, .int .u32 sf, .int .u32 sg, .int .u32 sh] _ (by first | exact HR6.out | (rw [← HW6.out]; exact HR6.out)) Tryz.underlying135 rfl HI8.out ?_)
          rw [← HW6.out, ← HGO.out]
          obtain ⟨RL, hRL⟩ : ∃ R : List Int, R = [sa, sb, sc, sd, se, sf, sg, sh] := ⟨_, rfl⟩
          have hRl : RL.length = 8 := by rw [hRL]; rfl
          have HRl := Lib.hid hRl
          have HIX : Hid (∀ (k : Nat), k < 8 → ∀ W : World, (Instr.index 135 (.agg #[.int .u32 sa, .int .u32 sb, .int .u32 sc, .int .u32 sd, .int .u32 se, .int .u32 sf, .int .u32 sg, .int .u32 sh]) (.int .i64 (k : Int))).run Tryz.prog W = .ok (.int .u32 (RL.getD k 0)) W) := fun k hk W => by rw [hRL]; exact agg_index W _ _ _ _ _ _ _ _ hk
          have HS2 := Lib.hid (show sumOf l = RL.flatMap be4 by rw [HSUM.out, hRL]; rfl)
          clear hRl hRL HSUM
          go_loopw [43] (fun i wr => ∃ k : Nat, k ≤ 8 ∧ i = .int .i64 k ∧ Hid (Blk wr go 63 (bArr ((RL.take k).flatMap be4 ++ List.replicate (32 - 4 * k) 0))) ∧ Below w5.heap.size w5 wr) (fun i _ => 8 - (intOf i).toNat)
          case atStart => exact ⟨0, by omega, rfl, hB6, b56⟩
          case round =>
            clear hB6 b56 HR6 HRR HW6
            obtain ⟨k, hk, rfl, HB, hb5⟩ := hrel
            by_cases hlt : k < 8
            · have hl8 : ((RL.take k).flatMap be4 ++ List.replicate (32 - 4 * k) (0 : UInt8)).length = 32 := by rw [List.length_append, flat4_len, List.length_take, HRl.out, List.length_replicate]; omega
              have hix := HIX.out k hlt
              obtain ⟨x, hx⟩ : ∃ x, x = RL.getD k 0 := ⟨_, rfl⟩
              rw [← hx] at hix
              have HST := Lib.hid (outs_step RL HRl.out hlt)
              rw [← hx] at HST
              obtain ⟨L, hL⟩ : ∃ L, L = (RL.take k).flatMap be4 ++ List.replicate (32 - 4 * k) (0 : UInt8) := ⟨_, rfl⟩
              rw [← hL] at HB HST hl8
              clear hL hx
              have d0 := bArr_some HB.out (k := 4 * k) (by omega)
              have d1 := bArr_some HB.out (k := 4 * k + 1) (by omega)
              have d2 := bArr_some HB.out (k := 4 * k + 2) (by omega)
              have d3 := bArr_some HB.out (k := 4 * k + 3) (by omega)
              have f0 := HB.out.frozen (4 * k)
              have f1 := HB.out.frozen (4 * k + 1)
              have f2 := HB.out.frozen (4 * k + 2)
              have f3 := HB.out.frozen (4 * k + 3)
              have HB4 : Hid (∀ W : World, Blk W go 63 (bArr L) → Blk ((((W.setCell ⟨go, 4 * k, none⟩ (.int .u8 (x / 16777216 % 256))).setCell ⟨go, 4 * k + 1, none⟩ (.int .u8 (x / 65536 % 256))).setCell ⟨go, 4 * k + 2, none⟩ (.int .u8 (x / 256 % 256))).setCell ⟨go, 4 * k + 3, none⟩ (.int .u8 (x % 256))) go 63 (bArr ((RL.take (k + 1)).flatMap be4 ++ List.replicate (32 - 4 * (k + 1)) 0))) := fun W h => by
                have := (((h.set_ (4 * k) (u8V (byteOf (x / 16777216)))).set_ (4 * k + 1) (u8V (byteOf (x / 65536)))).set_ (4 * k + 2) (u8V (byteOf (x / 256)))).set_ (4 * k + 3) (u8V (byteOf x))
                rw [bArr_set, bArr_set, bArr_set, bArr_set, HST.out] at this
                simp only [u8V, ← byteOf_mod] at this
                exact this
              have HLT := Lib.hid hlt
              have k8 : (k : Int) < 8 := by omega
              clear hl8 hlt hk HST
              go_wp2
              have hk := HLT.out
              refine ⟨⟨k + 1, by omega, by go_num, Lib.hid (HB4.out _ HB.out), (((hb5.setCell hgo2 _).setCell hgo2 _).setCell hgo2 _).setCell hgo2 _⟩, by simp [intOf]; omega⟩
            · obtain rfl : k = 8 := by omega
              have hfull : (RL.take 8).flatMap be4 ++ List.replicate (32 - 4 * 8) (0 : UInt8) = sumOf l := by rw [List.take_of_length_le (by rw [HRl.out]; exact Nat.le_refl _), HS2.out]; simp
              rw [hfull] at HB
              have hi32 : (Tryz.prog.info? 63).map (·.size) = some (bArr (sumOf l)).size := by rw [bArr_size, sumOf_len]; kernel_rfl
              have HI32 := Lib.hid hi32
              have HSZ := Lib.hid (show (bArr (sumOf l)).size = 32 by rw [bArr_size, sumOf_len])
              have hall : (bArr (sumOf l)).all (·.oneCell') = true := by
                rw [Array.all_eq_true_iff_forall_mem]
                intro v hv
                unfold bArr at hv
                simp at hv
                obtain ⟨b, _, rfl⟩ := hv
                rfl
              have HALL := Lib.hid hall
              have hRBr : Hid (Blk wr rb 63 #[.int .u8 0, .int .u8 0, .int .u8 0, .int .u8 0, .int .u8 0, .int .u8 0, .int .u8 0, .int .u8 0, .int .u8 0, .int .u8 0, .int .u8 0, .int .u8 0, .int .u8 0, .int .u8 0, .int .u8 0, .int .u8 0, .int .u8 0, .int .u8 0, .int .u8 0, .int .u8 0, .int .u8 0, .int .u8 0, .int .u8 0, .int .u8 0, .int .u8 0, .int .u8 0, .int .u8 0, .int .u8 0, .int .u8 0, .int .u8 0, .int .u8 0, .int .u8 0]) := Lib.hid (hRB5.out.below hb5 (Nat.lt_of_lt_of_le hrl hg15.out.size))
              have hnrb : ¬ rb = go := by have := hg15.out.size; omega
              clear hfull hi32 hall hk hlt
              go_wp2_with (first
                | (refine wpList_load_row rfl 63 (.tmp 6) rfl go rfl _ _ _ _ HB.out Tryz.underlying63 rfl HI32.out ?_)
                | (refine wpList_store_row rfl 63 (.tmp 2) (.tmp 74) rfl rb (bArr (sumOf l)) rfl rfl _ _ hRBr.out HI32.out (by rw [HSZ.out]; rfl) HALL.out ?_))
              have hE := Blk.setRow_ hRBr.out (bArr (sumOf l))
              refine bodyPost_ret (v := .agg (bArr (sumOf l))) (results_cell_row rfl _ _ rb _ _ _ _ rfl hE Tryz.underlying63 rfl HI32.out) rfl ⟨rfl, ?_⟩
              exact grown_sr_new (World.grownBy.trans hw15.out (below_gr hb5 _)) hRW.out _
end Go.Proofs.YtcomdkmglihdbaaGreatDoor

-- The program's sums of texts: impl.hashOf, impl.hashFigures, impl.HashSum.
namespace Go.Proofs.YtcomdkmglihdbaaGreatDoor
open Go.RowKit
set_option linter.unusedSimpArgs false
set_option linter.unusedVariables false

/-- What is at a place of an array by value. -/
theorem run_index_row {P : Program} (w : World) (t e : TypeId) (n : Nat) (cs : Array Value) (k : Nat) (v : Value) (ht : P.underlying t = some (.array n e)) (he : ∀ w, (Go.sizeOf e).run P w = .ok 1 w) (ha : ∀ w, (Go.isAgg e).run P w = .ok false w) (hk : k < n) (hv : cs[k]? = some v) :
    (Instr.index t (.agg cs) (.int .i64 (k : Int))).run P w = .ok v w := by
  simp [Instr.index, asIntOf, run_underlying ht, he, part, ha, hk, hv]
theorem u8row_index (w : World) (l : List UInt8) (hl : l.length = 32) {k : Nat} (hk : k < 32) :
    (Instr.index 63 (.agg (bArr l)) (.int .i64 (k : Int))).run Tryz.prog w = .ok (.int .u8 ((l.getD k 0).toNat : Int)) w :=
  run_index_row w 63 5 32 (bArr l) k _ Tryz.underlying63 (fun w => by kernel_rfl) (fun w => by kernel_rfl) hk (bArr_get (getD_of (by omega)))

theorem and15 (n : Nat) (h : n < 256) : bits .and .u8 (n : Int) 15 = (n : Int) % 16 := by
  have : ∀ m : Fin 256, bits .and .u8 ((m.val : Nat) : Int) 15 = ((m.val : Nat) : Int) % 16 := by decide +kernel
  exact this ⟨n, h⟩

set_option maxRecDepth 100000 in
set_option maxHeartbeats 2000000 in
theorem hashFigures_any (l : List UInt8) (w : World) (hl : l.length = 32) :
    Calls Tryz.prog 40 #[.agg (bArr l)] w fun e w' => e = .returned (.string ⟨(hexOf l).toArray⟩) ∧ Below w.heap.size w w' := by
  have hmk : ∀ W : World, (Instr.makeSlice 22 (.int .i64 0) (.int .i64 64)).run Tryz.prog W = .ok (.slice (some ⟨W.heap.size, 0, none⟩) 0 64) (W.alloc (.cells (madeCells (Value.int .u8 0).cells (64 * 1)) 5)) := fun W => run_make_cap (P := Tryz.prog) 22 5 _ 1 1 Tryz.underlying22 info_u8 .i64 64 (by omega) (by omega) W
  obtain ⟨zs, hzs⟩ : ∃ z, z = madeCells (Value.int .u8 0).cells (64 * 1) := ⟨_, rfl⟩
  rw [← hzs] at hmk
  obtain ⟨C, hC⟩ : ∃ C, C = bArr l := ⟨_, rfl⟩
  have hcs : C.size = 32 := by rw [hC, bArr_size, hl]
  obtain ⟨w1, hw1⟩ : ∃ w1, w1 = w.alloc (.cells C 63) := ⟨_, rfl⟩
  have hB1 : Hid (Blk w1 w.heap.size 63 C) := by rw [hw1]; exact Blk.new _ _ _
  have b1 : Below w.heap.size w w1 := by rw [hw1]; go_grown
  have hO : (w1.alloc (.cells zs 5)).ownsRow w1.heap.size 5 1 (.slice (some ⟨w1.heap.size, 0, none⟩) 0 64) 0 [] := World.ownsRow_made w1 _ 64 (Nat.le_refl _) (by unfold maxLen; omega) (by rw [hzs]; simp [size_madeCells])
  have HO := Lib.hid hO
  have HB2 := Lib.hid (hB1.out.alloc (.cells zs 5))
  have HL := Lib.hid hl
  have HIX : Hid (∀ (k : Nat), k < 32 → ∀ W : World, (Instr.index 63 (.agg C) (.int .i64 (k : Int))).run Tryz.prog W = .ok (.int .u8 ((l.getD k 0).toNat : Int)) W) := fun k hk W => by rw [hC]; exact u8row_index W l hl hk
  have hi32 : (Tryz.prog.info? 63).map (·.size) = some C.size := by rw [hcs]; kernel_rfl
  have HI32 := Lib.hid hi32
  have HW1 := Lib.hid hw1
  rw [← hC]
  have hszc : w.heap.size < w1.heap.size := hB1.out.lt
  clear hzs hO hl hi32 hw1 hC
  go_enter Tryz.func40, Tryz.ntmps40
  go_upto_region 2 with (fail)
  rw [← HW1.out]
  have hsz1 : w.heap.size + 1 = w1.heap.size := by rw [HW1.out]; simp
  rw [hsz1]
  have HSZ1 := Lib.hid hsz1
  clear hsz1 hmk
  go_wp2_with (refine wpList_load_row rfl 63 (.tmp 1) rfl w.heap.size rfl _ _ _ _ HB2.out Tryz.underlying63 rfl HI32.out ?_)
  go_loopw [3, 8] (fun o i wr => ∃ k : Nat, k ≤ 32 ∧ i = .int .i64 k ∧ Hid (wr.ownsRow w1.heap.size 5 1 o (2 * k) ((hexOf (l.take k)).map u8V)) ∧ Below w1.heap.size w1 wr) (fun _ i _ => 32 - (intOf i).toNat)
  case atStart => exact ⟨0, by omega, rfl, HO, by go_grown⟩
  case round =>
    clear HO HB2
    obtain ⟨k, hk, rfl, HO, hb⟩ := hrel
    have hsz := hb.size
    by_cases hlt : k < 32
    · have HT := Lib.hid (show hexOf (l.take (k + 1)) = hexOf (l.take k) ++ hex2 (l.getD k 0) by
        rw [List.take_succ_eq_append_getElem (by rw [HL.out]; exact hlt), hexOf_snoc]
        congr 2
        simp [HL.out, hlt])
      have hix := HIX.out k hlt
      obtain ⟨b0, hb0⟩ : ∃ b, b = l.getD k 0 := ⟨_, rfl⟩
      rw [← hb0] at hix HT
      clear hb0
      obtain ⟨N, hN⟩ : ∃ N, N = b0.toNat := ⟨_, rfl⟩
      have hN2 : N < 256 := by rw [hN]; exact UInt8.toNat_lt b0
      rw [← hN] at hix
      have HN := Lib.hid hN
      clear hN
      obtain ⟨X, hX⟩ : ∃ X : Int, X = N := ⟨_, rfl⟩
      obtain ⟨Y, hY⟩ : ∃ Y : Int, Y = X / 16 := ⟨_, rfl⟩
      obtain ⟨Z, hZ⟩ : ∃ Z : Int, Z = X % 16 := ⟨_, rfl⟩
      have y0 : 0 ≤ Y := by omega
      have y1 : Y < 16 := by omega
      have z0 : 0 ≤ Z := by omega
      have z1 : Z < 16 := by omega
      have a1 : X / 16 = Y := hY.symm
      have a2 : bits .and .u8 X 15 = Z := by rw [hZ, hX]; exact and15 N hN2
      have HYN := Lib.hid (show Y.toNat = N / 16 by omega)
      have HZN := Lib.hid (show Z.toNat = N % 16 by omega)
      rw [← hX] at hix
      have HK := Lib.hid hlt
      have k32 : (k : Int) < 32 := by omega
      clear hX hY hZ hN2 hlt hk
      go_wp2
      have Y1 : (IntKind.u8.wrap Y) = Y := by simp [IntKind.wrap, IntKind.bits, IntKind.signed]; omega
      go_region_held3 (fun _ => True) (first | trivial | go_keep) ((refine step_appNg (w0 := wr.drew) 2 rfl (.tmp 11) (.tmp 18) _ rfl w1.heap.size 5 Tryz.underlying22 info_u8 rfl (by omega) (by omega) _ (2 * k) _ rfl (by exact HO.out) rfl (by simp [Value.oneCell']) rfl (by have := HK.out; omega) (by exact hsz) ?_; intro v9 w9 hown9 hg9))
      all_goals
        have hb9 : Below w1.heap.size wr w9 := (Below.refl w1.heap.size wr).drew.grown hg9 (by exact hsz) (fun k hk => (HO.out.lt k hk).1)
        clear hix
        go_wp2
        have hk := HK.out
        refine ⟨⟨k + 1, by omega, by go_num, ?_, hb.trans hb9⟩, by simp [intOf]; omega⟩
        simp only [figs_at, HYN.out, HZN.out] at hown9
        rw [HT.out, List.map_append, hex2, ← HN.out]
        exact hown9
    · obtain rfl : k = 32 := by omega
      have ho := HO.out
      rw [List.take_of_length_le (by rw [HL.out]; exact Nat.le_refl _)] at ho
      obtain ⟨g9, cap9, rfl, _, _⟩ := ho.form (by omega)
      have hconv := conv_back (by rw [hexOf_len, HL.out]) ho
      clear ho HO
      go_wp2
      go_ret
      exact ⟨rfl, b1.trans (hb.mono (by omega))⟩

/-- What is summed of texts, one behind the other. -/
theorem flat_take_succ {ls : List (List UInt8)} {k : Nat} {x : List UInt8} (h : ls[k]? = some x) : (ls.take (k + 1)).flatten = (ls.take k).flatten ++ x := by
  rw [List.take_add_one, h]; simp
theorem flat_take_le (ls : List (List UInt8)) (k : Nat) : ((ls.take k).flatten).length ≤ ls.flatten.length := by
  have : ls.flatten = (ls.take k).flatten ++ (ls.drop k).flatten := by rw [← List.flatten_append, List.take_append_drop]
  rw [this, List.length_append]
  omega

set_option maxRecDepth 100000 in
set_option maxHeartbeats 2000000 in
theorem hashOf_any (v : Value) (ls : List (List UInt8)) (w : World) (hk : Kww w) (hv : Sl w 1 v (strs ls)) (hl : ls.flatten.length ≤ 34359738368) :
    Calls Tryz.prog 39 #[v] w fun e w' => e = .returned (.agg (bArr (sumOf ls.flatten))) ∧ Below w.heap.size w w' := by
  obtain ⟨A, n, c, rfl, hA⟩ := hv
  have hln : ls.length = n := by have := hA.len; rwa [strs_len] at this
  have hmx := hA.max
  have hcp := hA.cap
  unfold maxLen at hmx
  have HA := Lib.hid hA
  have HLN := Lib.hid hln
  obtain ⟨w1, hw1⟩ : ∃ w1, w1 = w.alloc (.cells #[.int .u8 0, .int .u8 0, .int .u8 0, .int .u8 0, .int .u8 0, .int .u8 0, .int .u8 0, .int .u8 0, .int .u8 0, .int .u8 0, .int .u8 0, .int .u8 0, .int .u8 0, .int .u8 0, .int .u8 0, .int .u8 0, .int .u8 0, .int .u8 0, .int .u8 0, .int .u8 0, .int .u8 0, .int .u8 0, .int .u8 0, .int .u8 0, .int .u8 0, .int .u8 0, .int .u8 0, .int .u8 0, .int .u8 0, .int .u8 0, .int .u8 0, .int .u8 0] 63) := ⟨_, rfl⟩
  have hR1 : Hid (Blk w1 w.heap.size 63 #[.int .u8 0, .int .u8 0, .int .u8 0, .int .u8 0, .int .u8 0, .int .u8 0, .int .u8 0, .int .u8 0, .int .u8 0, .int .u8 0, .int .u8 0, .int .u8 0, .int .u8 0, .int .u8 0, .int .u8 0, .int .u8 0, .int .u8 0, .int .u8 0, .int .u8 0, .int .u8 0, .int .u8 0, .int .u8 0, .int .u8 0, .int .u8 0, .int .u8 0, .int .u8 0, .int .u8 0, .int .u8 0, .int .u8 0, .int .u8 0, .int .u8 0, .int .u8 0]) := by rw [hw1]; exact Blk.new _ _ _
  have b1 : Below w.heap.size w w1 := by rw [hw1]; go_grown
  have hs1 : w.heap.size < w1.heap.size := hR1.out.lt
  have HW1 := Lib.hid hw1
  have HK := Lib.hid hk; have HLL := Lib.hid hl
  clear hA hln hw1 hk hl
  go_enter Tryz.func39, Tryz.ntmps39
  go_wp2_with fail
  rw [← HW1.out]
  refine (newHasher_any w1).mono ?_; rintro e w2 ⟨rfl, hw2⟩
  have b2 : Below w1.heap.size w1 w2 := by rw [hw2]; go_grown
  have HB2 : Hid (Blk w2 w1.heap.size 137 (hcells h0W (List.replicate 64 0) 0 ((([] : List UInt8).length : Nat) : Int))) := by rw [hw2]; exact Blk.new _ _ _
  have hR2 : Hid (Blk w2 w.heap.size 63 #[.int .u8 0, .int .u8 0, .int .u8 0, .int .u8 0, .int .u8 0, .int .u8 0, .int .u8 0, .int .u8 0, .int .u8 0, .int .u8 0, .int .u8 0, .int .u8 0, .int .u8 0, .int .u8 0, .int .u8 0, .int .u8 0, .int .u8 0, .int .u8 0, .int .u8 0, .int .u8 0, .int .u8 0, .int .u8 0, .int .u8 0, .int .u8 0, .int .u8 0, .int .u8 0, .int .u8 0, .int .u8 0, .int .u8 0, .int .u8 0, .int .u8 0, .int .u8 0]) := Lib.hid (hR1.out.below b2 hs1)
  have b02 : Below w.heap.size w w2 := b1.trans (b2.mono (by omega))
  obtain ⟨hp, hhp⟩ : ∃ h, h = w1.heap.size := ⟨_, rfl⟩
  rw [← hhp] at HB2 b2 ⊢
  have hpl := HB2.out.lt
  have HHP := Lib.hid (show w.heap.size < hp by omega)
  clear hw2 b2 hhp hs1 hR1 b1 HW1
  go_wp2
  go_loopw [9] (fun i wr => ∃ (k : Nat) (ws : List Int) (blk : List UInt8) (used : Nat), k ≤ n ∧ i = .int .i64 k ∧ Hid (TookB (ls.take k).flatten ws blk used) ∧ Hid (Blk wr hp 137 (hcells ws blk used (((ls.take k).flatten.length : Nat) : Int))) ∧ Hid (Blk wr w.heap.size 63 #[.int .u8 0, .int .u8 0, .int .u8 0, .int .u8 0, .int .u8 0, .int .u8 0, .int .u8 0, .int .u8 0, .int .u8 0, .int .u8 0, .int .u8 0, .int .u8 0, .int .u8 0, .int .u8 0, .int .u8 0, .int .u8 0, .int .u8 0, .int .u8 0, .int .u8 0, .int .u8 0, .int .u8 0, .int .u8 0, .int .u8 0, .int .u8 0, .int .u8 0, .int .u8 0, .int .u8 0, .int .u8 0, .int .u8 0, .int .u8 0, .int .u8 0, .int .u8 0]) ∧ Below w.heap.size w wr) (fun i _ => n - (intOf i).toNat)
  case atStart => exact ⟨0, _, _, _, by omega, rfl, Lib.hid (by simpa using TookB.start (List.replicate 64 0) rfl), HB2, hR2, b02⟩
  case round =>
    clear HB2 hR2 b02 hpl
    obtain ⟨k, ws, blk, used, hk, rfl, HT, HB, HR, hb⟩ := hrel
    by_cases hlt : k < n
    · obtain ⟨b, off, x, rfl, hbl, hx, hcell⟩ := row_get (fun l : List UInt8 => Value.string ⟨l.toArray⟩) (show SlA w 1 A n c (ls.map fun l => [Value.string ⟨l.toArray⟩]) from HA.out) hlt
      have c0 := (hb.cell (p := ⟨b, off + k, none⟩) hbl).trans hcell
      have HX := Lib.hid hx
      have hkw := Lib.hid (HK.out.below hb (Nat.le_refl _))
      have HF := Lib.hid (flat_take_succ hx)
      have HLE := Lib.hid (flat_take_le ls (k + 1))
      have HLT := Lib.hid hlt
      have kn : (k : Int) < n := by omega
      obtain ⟨t, ht⟩ : ∃ t : ByteArray, t = ⟨x.toArray⟩ := ⟨_, rfl⟩
      have htl : t.data.toList = x := by rw [ht]
      have hts : t.size = x.length := by rw [ht, bsize]
      rw [← ht] at c0
      have HTL := Lib.hid htl; have HTS := Lib.hid hts
      clear hx hcell hlt hk ht htl hts
      go_wp2_with fail
      refine (take_any hp _ ws blk used _ t wr hkw.out HB.out HT.out (by omega) (by have h1 := HLE.out; rw [HF.out, List.length_append] at h1; have h2 := HLL.out; have h3 := HTS.out; omega)).mono ?_; rintro e w3 ⟨rfl, ⟨ws3, blk3, used3, ht3, hp3⟩, hg3⟩
      have HT3 : Hid (TookB (ls.take (k + 1)).flatten ws3 blk3 used3) := by rw [HF.out, ← HTL.out]; exact ht3
      have HB3 : Hid (Blk w3 hp 137 (hcells ws3 blk3 used3 (((ls.take (k + 1)).flatten.length : Nat) : Int))) := by
        rw [HF.out, List.length_append, ← HTS.out]; exact hp3
      have HR3 : Hid (Blk w3 w.heap.size 63 #[.int .u8 0, .int .u8 0, .int .u8 0, .int .u8 0, .int .u8 0, .int .u8 0, .int .u8 0, .int .u8 0, .int .u8 0, .int .u8 0, .int .u8 0, .int .u8 0, .int .u8 0, .int .u8 0, .int .u8 0, .int .u8 0, .int .u8 0, .int .u8 0, .int .u8 0, .int .u8 0, .int .u8 0, .int .u8 0, .int .u8 0, .int .u8 0, .int .u8 0, .int .u8 0, .int .u8 0, .int .u8 0, .int .u8 0, .int .u8 0, .int .u8 0, .int .u8 0]) := Lib.hid ((hg3.block _ HR.out.lt (fun e => by have := HHP.out; injection e with e; omega)).trans HR.out)
      have hb3 : Below w.heap.size w w3 := hb.grown hg3 hb.size (fun k hk => by have := HHP.out; injection hk with hk; omega)
      clear ht3 hp3 hg3 c0
      go_wp2
      have hk := HLT.out
      exact ⟨⟨k + 1, ws3, blk3, used3, by omega, by go_num, HT3, HB3, HR3, hb3⟩, by simp [intOf]; omega⟩
    · obtain rfl : k = n := by omega
      have hall : ls.take k = ls := List.take_of_length_le (by rw [HLN.out]; exact Nat.le_refl _)
      rw [hall] at HT HB
      have hkw := Lib.hid (HK.out.below hb (Nat.le_refl _))
      clear hall hk hlt
      go_wp2_with fail
      refine (sum_any hp _ ws blk used wr hkw.out HB.out HT.out HLL.out).mono ?_; rintro e w3 ⟨rfl, hg3⟩
      have HR3 : Hid (Blk w3 w.heap.size 63 #[.int .u8 0, .int .u8 0, .int .u8 0, .int .u8 0, .int .u8 0, .int .u8 0, .int .u8 0, .int .u8 0, .int .u8 0, .int .u8 0, .int .u8 0, .int .u8 0, .int .u8 0, .int .u8 0, .int .u8 0, .int .u8 0, .int .u8 0, .int .u8 0, .int .u8 0, .int .u8 0, .int .u8 0, .int .u8 0, .int .u8 0, .int .u8 0, .int .u8 0, .int .u8 0, .int .u8 0, .int .u8 0, .int .u8 0, .int .u8 0, .int .u8 0, .int .u8 0]) := Lib.hid ((hg3.block _ HR.out.lt (fun e => by have := HHP.out; injection e with e; omega)).trans HR.out)
      have hb3 : Below w.heap.size w w3 := hb.grown hg3 hb.size (fun k hk => by have := HHP.out; injection hk with hk; omega)
      obtain ⟨C, hC⟩ : ∃ C, C = bArr (sumOf ls.flatten) := ⟨_, rfl⟩
      have hcs : C.size = 32 := by rw [hC, bArr_size, sumOf_len]
      have hi32 : (Tryz.prog.info? 63).map (·.size) = some C.size := by rw [hcs]; kernel_rfl
      have hall : C.all (·.oneCell') = true := by
        rw [hC, Array.all_eq_true_iff_forall_mem]
        intro v hv
        unfold bArr at hv
        simp at hv
        obtain ⟨b, _, rfl⟩ := hv
        rfl
      have e1 : (sumOf ls.flatten |>.map u8V).toArray = C := hC.symm
      rw [e1]
      have HC := Lib.hid hC; have HI32 := Lib.hid hi32; have HALL := Lib.hid hall; have HCS := Lib.hid hcs
      clear hC hcs hi32 hall e1 hg3
      go_wp2_with (refine wpList_store_row rfl 63 (.tmp 2) (.tmp 18) rfl w.heap.size C rfl rfl _ _ HR3.out HI32.out (by rw [HCS.out]; rfl) HALL.out ?_)
      have hE := Blk.setRow_ HR3.out C
      refine bodyPost_ret (v := .agg C) (results_cell_row rfl _ _ w.heap.size _ _ _ _ rfl hE Tryz.underlying63 rfl HI32.out) rfl ⟨by rw [HC.out], below_setRow hb3 (Nat.le_refl _) _⟩

end Go.Proofs.YtcomdkmglihdbaaGreatDoor
