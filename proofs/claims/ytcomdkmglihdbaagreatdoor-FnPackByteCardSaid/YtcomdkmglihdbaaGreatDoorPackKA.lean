/- Joined texts: PackI3 PackH PackI4 PackK. -/
import Derived.Test.YtcomdkmglihdbaaGreatDoorPackPA
import Derived.Test.YtcomdkmglihdbaaGreatDoorPackSA
import Derived.Test.YtcomdkmglihdbaaGreatDoorLinesI
import Derived.Test.YtcomdkmglihdbaaGreatDoorHashNA
import Derived.StillTailTactics
import Derived.Deep.LoopGhost
import Derived.Deep.CutBlock
import Derived.Test.YtcomdkmglihdbaaGreatDoorPackJ
-- The program's packs' texts: PackWrite of a pack that is whole, over a contract of HashMac.
namespace Go.Proofs.YtcomdkmglihdbaaGreatDoor
open Go.RowKit
set_option linter.unusedSimpArgs false
set_option linter.unusedVariables false

/-- What HashMac is to do. -/
def MacC : Prop := ∀ (key text : List UInt8) (w : World), Kww w → key.length ≤ 8388608 → text.length ≤ 8388608 →
    Calls Tryz.prog 18 #[.string ⟨key.toArray⟩, .string ⟨text.toArray⟩] w fun e w' => e = .returned (.string ⟨(macT key text).toArray⟩) ∧ Below w.heap.size w w'
theorem mac_eq (hmac : MacC) (key : List UInt8) (s : ByteArray) (l : List UInt8) (w : World) (hkw : Kww w) (hk : key.length ≤ 8388608) (hl : l.length ≤ 8388608) (h : s = ⟨l.toArray⟩) :
    Calls Tryz.prog 18 #[.string ⟨key.toArray⟩, .string s] w fun e w' => e = .returned (.string ⟨(macT key l).toArray⟩) ∧ Below w.heap.size w w' := by
  rw [h]; exact hmac key l w hkw hk hl
theorem wholeTB_yes {most : Nat} {l : List UInt8} (h : wholeT most l) : wholeTB most l = true := wholeTB_iff.2 h

set_option maxRecDepth 100000 in
set_option maxHeartbeats 4000000 in
theorem PackWrite_yes (hmac : MacC) (key : List UInt8) (p : Pk) (w : World) (hpw : Pow w) (hkw : Kww w) (hk : key.length ≤ 8388608) (hw : p.whole) :
    Calls Tryz.prog 6 #[.string ⟨key.toArray⟩, .agg #[.int .i64 p.e, .string ⟨p.r.toArray⟩, .string ⟨p.c.toArray⟩]] w fun e w' => e = .returned (.string ⟨(p.text key).toArray⟩) ∧ Below w.heap.size w w' := by
  have HLB := Lib.hid (body_len p hw)
  obtain ⟨TT, hTT⟩ : ∃ T, T = p.text key := ⟨_, rfl⟩
  rw [← hTT]
  have HTT := Lib.hid (show TT = [112, 97, 99, 107, 32] ++ Lib.itoa p.e ++ [32] ++ Lib.itoa (cnt10 p.r) ++ [32] ++ Lib.itoa (cnt10 p.c) ++ [10] ++ p.r ++ p.c ++ [116, 97, 103, 32] ++ macT key p.body ++ [10] by rw [hTT, pack_head]; simp [Pk.text, Pk.tail])
  have HBD := Lib.hid (pack_head p)
  obtain ⟨⟨e1, e2⟩, ⟨r1, r2⟩, ⟨c1, c2⟩⟩ := hw
  have HR := Lib.hid (wholeTB_yes ⟨r1, r2⟩); have HC := Lib.hid (wholeTB_yes ⟨c1, c2⟩)
  obtain ⟨BD, hBD⟩ : ∃ BD, BD = p.body := ⟨_, rfl⟩
  rw [← hBD] at HTT HLB HBD
  obtain ⟨e, r, c⟩ := p
  simp only at e1 e2 r1 r2 c1 c2 HR HC HTT HBD ⊢
  have h1 := cnt10_le r
  have h2 := cnt10_le c
  have hn0 : (Lib.countByte r 10) = cnt10 r := rfl
  have hm0 : (Lib.countByte c 10) = cnt10 c := rfl
  have HCN := Lib.hid (fun W => Go.Proofs.Tryz.strings_Count_one ⟨r.toArray⟩ 10 W); have HCM := Lib.hid (fun W => Go.Proofs.Tryz.strings_Count_one ⟨c.toArray⟩ 10 W)
  rw [bstr, hn0] at HCN
  rw [bstr, hm0] at HCM
  obtain ⟨n, hn⟩ : ∃ n, n = cnt10 r := ⟨_, rfl⟩
  obtain ⟨m, hm⟩ : ∃ m, m = cnt10 c := ⟨_, rfl⟩
  rw [← hn] at HCN h1 HTT HBD
  rw [← hm] at HCM h2 HTT HBD
  have i1 := itoa_len e (by omega) (by omega)
  have i2 := itoa_len n (by omega) (by omega)
  have i3 := itoa_len m (by omega) (by omega)
  have HD1 := Lib.hid (fun w hp => itoa_any e w hp (by omega) (by omega)); have HD2 := Lib.hid (fun w hp => itoa_any (n : Int) w hp (by omega) (by omega)); have HD3 := Lib.hid (fun w hp => itoa_any (m : Int) w hp (by omega) (by omega))
  obtain ⟨E, hE⟩ : ∃ E, E = Lib.itoa e := ⟨_, rfl⟩
  obtain ⟨F, hF⟩ : ∃ F, F = Lib.itoa (n : Int) := ⟨_, rfl⟩
  obtain ⟨G, hG⟩ : ∃ G, G = Lib.itoa (m : Int) := ⟨_, rfl⟩
  rw [← hE] at HD1 i1 HTT HBD
  rw [← hF] at HD2 i2 HTT HBD
  rw [← hG] at HD3 i3 HTT HBD
  have d1 : ¬ 9223372036854775807 < 5 + E.length := by omega
  have d2 : ¬ 9223372036854775807 < 5 + E.length + 1 := by omega
  have d3 : ¬ 9223372036854775807 < 5 + E.length + 1 + F.length := by omega
  have d4 : ¬ 9223372036854775807 < 5 + E.length + 1 + F.length + 1 := by omega
  have d5 : ¬ 9223372036854775807 < 5 + E.length + 1 + F.length + 1 + G.length := by omega
  have d6 : ¬ 9223372036854775807 < 5 + E.length + 1 + F.length + 1 + G.length + 1 := by omega
  have d7 : ¬ 9223372036854775807 < 5 + E.length + 1 + F.length + 1 + G.length + 1 + r.length := by omega
  have d8 : ¬ 9223372036854775807 < 5 + E.length + 1 + F.length + 1 + G.length + 1 + r.length + c.length := by omega
  have d9 : ¬ 9223372036854775807 < 5 + E.length + 1 + F.length + 1 + G.length + 1 + r.length + c.length + 4 := by omega
  have d10 : ¬ 9223372036854775807 < 5 + E.length + 1 + F.length + 1 + G.length + 1 + r.length + c.length + 4 + (macT key BD).length := by rw [macT_len]; omega
  have d11 : ¬ 9223372036854775807 < 5 + E.length + 1 + F.length + 1 + G.length + 1 + r.length + c.length + 4 + (macT key BD).length + 1 := by rw [macT_len]; omega
  have l1 : ¬ e < 1 := by omega
  have l2 : ¬ (99 : Int) < e := by omega
  have HRM := Lib.hid (fun W => packLines_any r 900 W (by omega)); have HCM2 := Lib.hid (fun W => packLines_any c 2600 W (by omega))
  obtain ⟨W1, hW1⟩ : ∃ W1, W1 = w.alloc (.cells #[.int .i64 e, .string ⟨r.toArray⟩, .string ⟨c.toArray⟩] 24) := ⟨_, rfl⟩
  have b1 : Below w.heap.size w W1 := by rw [hW1]; go_grown
  have B1 : Blk W1 w.heap.size 24 #[.int .i64 e, .string ⟨r.toArray⟩, .string ⟨c.toArray⟩] := by rw [hW1]; exact Blk.new _ _ _
  have hl1 : w.heap.size < W1.heap.size := B1.lt
  have HW1 := Lib.hid hW1; have HB := Lib.hid b1; have HBK := Lib.hid B1; have HPW := Lib.hid (hpw.below b1); have HKW := Lib.hid (hkw.below b1 (Nat.le_refl _))
  have y0 := (show _ = some (Value.int .i64 e) from B1.cell 0); have y1 := (show _ = some (Value.string ⟨r.toArray⟩) from B1.cell 1); have y2 := (show _ = some (Value.string ⟨c.toArray⟩) from B1.cell 2)
  clear hn hm hE hF hG hW1 b1 B1 i1 i2 i3 h1 h2 e1 e2 r1 r2 c1 c2 hn0 hm0 hBD hTT hpw hkw
  go_enter Tryz.func6, Tryz.ntmps6
  go_wp2_with fail
  rw [← HW1.out]
  refine (HRM.out _).mono ?_; rintro e4 w4 ⟨rfl, rfl⟩
  rw [HR.out]
  go_wp2_with fail
  refine (HCM2.out _).mono ?_; rintro e4 w4 ⟨rfl, rfl⟩
  rw [HC.out]
  go_wp2_with fail
  clear y0 y1 y2
  refine wp_region_fixed (fun w' => Below w4.heap.size w4 w') (by kernel_rfl) (by kernel_rfl) (Below.refl _ _).drew ?_
  iterate 3
    apply wpFx_step
    case h =>
      intro w9 hw
      have H9 := Lib.hid hw
      have K1 := HBK.out.below hw hl1
      have x0 := (show _ = some (Value.int .i64 e) from K1.cell 0); have x1 := (show _ = some (Value.string ⟨r.toArray⟩) from K1.cell 1); have x2 := (show _ = some (Value.string ⟨c.toArray⟩) from K1.cell 2)
      clear hw K1
      go_wp2_with ((go_at_call 16; refine (HD1.out _ (HPW.out.below H9.out)).mono ?_; rintro e w4 ⟨rfl, hbb⟩; replace H9 := Lib.hid (below_then H9.out hbb); clear hbb))
      exact ⟨rfl, rfl, H9.out⟩
  iterate 6
    apply wpFx_step
    case h =>
      intro w9 hw
      have H9 := Lib.hid hw
      have K1 := HBK.out.below hw hl1
      have x0 := (show _ = some (Value.int .i64 e) from K1.cell 0); have x1 := (show _ = some (Value.string ⟨r.toArray⟩) from K1.cell 1); have x2 := (show _ = some (Value.string ⟨c.toArray⟩) from K1.cell 2)
      clear hw K1
      go_wp2_with (first | (go_at_call 17; refine (HCN.out _).mono ?_; rintro e w4 ⟨rfl, rfl⟩) | (go_at_call 16; refine (HD2.out _ (HPW.out.below H9.out)).mono ?_; rintro e w4 ⟨rfl, hbb⟩; replace H9 := Lib.hid (below_then H9.out hbb); clear hbb))
      exact ⟨rfl, rfl, H9.out⟩
  iterate 6
    apply wpFx_step
    case h =>
      intro w9 hw
      have H9 := Lib.hid hw
      have K1 := HBK.out.below hw hl1
      have x0 := (show _ = some (Value.int .i64 e) from K1.cell 0); have x1 := (show _ = some (Value.string ⟨r.toArray⟩) from K1.cell 1); have x2 := (show _ = some (Value.string ⟨c.toArray⟩) from K1.cell 2)
      clear hw K1
      go_wp2_with (first | (go_at_call 17; refine (HCM.out _).mono ?_; rintro e w4 ⟨rfl, rfl⟩) | (go_at_call 16; refine (HD3.out _ (HPW.out.below H9.out)).mono ?_; rintro e w4 ⟨rfl, hbb⟩; replace H9 := Lib.hid (below_then H9.out hbb); clear hbb))
      exact ⟨rfl, rfl, H9.out⟩
  iterate 3
    apply wpFx_step
    case h =>
      intro w9 hw
      have H9 := Lib.hid hw
      have K1 := HBK.out.below hw hl1
      have x0 := (show _ = some (Value.int .i64 e) from K1.cell 0); have x1 := (show _ = some (Value.string ⟨r.toArray⟩) from K1.cell 1); have x2 := (show _ = some (Value.string ⟨c.toArray⟩) from K1.cell 2)
      clear hw K1
      go_wp2_with (fail)
      exact ⟨rfl, rfl, H9.out⟩
  refine wpFx_end (fun w9 hw => ?_)
  have HB9 := Lib.hid (below_then HB.out hw); have HK9 := Lib.hid (HKW.out.below hw (Nat.le_refl _))
  have K1 := HBK.out.below hw hl1
  have x0 := (show _ = some (Value.int .i64 e) from K1.cell 0); have x1 := (show _ = some (Value.string ⟨r.toArray⟩) from K1.cell 1); have x2 := (show _ = some (Value.string ⟨c.toArray⟩) from K1.cell 2)
  clear hw K1
  go_wp2_with fail
  refine (mac_eq hmac key _ BD _ HK9.out hk HLB.out (by rw [← HBD.out]; apply ByteArray.ext; simp)).mono ?_; rintro e4 w10 ⟨rfl, b10⟩
  have HB10 := Lib.hid (below_then HB9.out b10)
  clear b10 x0 x1 x2
  go_wp2
  go_ret
  exact ⟨by rw [HTT.out]; congr 2 <;> (apply ByteArray.ext; simp), HB10.out⟩
end Go.Proofs.YtcomdkmglihdbaaGreatDoor

-- The program's tag of a text by a key: impl.HashMac, as MacC asks it.
namespace Go.Proofs.YtcomdkmglihdbaaGreatDoor
open Go.RowKit
set_option linter.unusedSimpArgs false
set_option linter.unusedVariables false

/-- 'string(arr[:])' of an array of bytes that is known whole. -/
theorem conv_arr {w : World} {g n : Nat} {t : TypeId} {l : List UInt8} (h : Blk w g t (bArr l)) (hn : l.length = n) :
    (convert 22 9 (.slice (some ⟨g, 0, none⟩) n n)).run Tryz.prog w = .ok (.string ⟨l.toArray⟩) w := by
  subst hn
  exact run_convert_bytes_back (P := Tryz.prog) w 22 9 5 ⟨g, 0, none⟩ l.length l Tryz.underlying22 Tryz.underlying5 Tryz.underlying9 (fun j hj => by
    rw [add_at, h.cell]
    exact bArr_get (List.getElem?_eq_getElem hj))
theorem strs_new (w : World) (ls : List (List UInt8)) (t : TypeId) {n : Nat} (hn : ls.length = n) (hm : n ≤ maxLen) :
    Sl (w.alloc (.cells (ls.map fun l => Value.string ⟨l.toArray⟩).toArray t)) 1 (.slice (some ⟨w.heap.size, 0, none⟩) n n) (strs ls) :=
  ⟨_, _, _, rfl, SlA.of_block (Blk.new _ _ _) (by rw [strs_len, hn]) (Nat.le_refl _) hm (fun k r hr j v hv => by
    unfold strs at hr
    rw [List.getElem?_map] at hr
    obtain ⟨x, hx, rfl⟩ := Option.map_eq_some_iff.1 hr
    have hj : j = 0 := by have := (List.getElem?_eq_some_iff.1 hv).1; simpa using this
    subst hj
    rw [List.getElem?_toArray]
    simp only [Nat.mul_one, Nat.add_zero, List.getElem?_map, hx]
    simpa using hv)⟩
theorem wpList_copy_strN {P : Program} {ops : Array Oper} {rest : List Oper} {o : Oper} {a : Act} {w : World} {Q : Exit → Act → World → Prop}
    (hgd : o.guard = none) (d x : Operand) (dT sT : TypeId) (hop : o.op = Op.call { callee := Callee.builtin Builtin.copy, args := #[d, x], argTypes := #[dT, sT] })
    (elem : TypeId) (hu : P.underlying dT = some (.slice elem)) (hs : (P.info? elem).map (·.size) = some 1)
    (g off dLen dCap m : Nat) (hd : a.eval d = .slice (some ⟨g, off, none⟩) dLen dCap) (s : ByteArray) (hx : a.eval x = .string s) (cur : Array Value) (t : TypeId) (hg : w.heap[g]? = some (.cells cur t (0, 0)))
    (hm : Nat.min s.size dLen = m) (hfit : off + m ≤ cur.size)
    (hK : ∀ w', w' = w.setRow g (cur.toList.take off ++ (s.data.toList.take m).map u8V ++ cur.toList.drop (off + m)).toArray → wpList P ops Q rest (a.put o.dst (.int .i64 (m : Int))) w') :
    wpList P ops Q (o :: rest) a w :=
  wpList_plain hgd fun K hK2 => by
    have hrun := run_copy_strN (P := P) w dT sT o.type elem g off dLen dCap m s cur t hu hs hg hm hfit
    unfold Oper.wp
    simp [execOp, hop, resolve, invoke, builtin, hd, hx, hrun, Result.andThen]
    exact hK2 _ _ (hK _ (by simp [List.map_take, List.append_assoc]))
theorem pad0_copy (k : List UInt8) (h : k.length ≤ 64) :
    ((bArr (List.replicate 64 0)).toList.take 0 ++ (k.take k.length).map u8V ++ (bArr (List.replicate 64 0)).toList.drop (0 + k.length)).toArray = bArr (pad0 k) := by
  unfold bArr
  congr 1
  simp only [List.toList_toArray, List.take_zero, List.nil_append, Nat.zero_add, List.take_length]
  rw [← List.map_drop, ← List.map_append]
  congr 1
  apply List.ext_getElem?
  intro i
  unfold pad0
  by_cases hi : i < k.length
  · rw [List.getElem?_append_left hi, List.getElem?_map, List.getElem?_range (by omega)]
    simp [hi]
  · rw [List.getElem?_append_right (by omega), List.getElem?_drop]
    by_cases h64 : i < 64
    · rw [List.getElem?_replicate, if_pos (by omega), List.getElem?_map, List.getElem?_range h64]
      simp [List.getElem?_eq_none (show k.length ≤ i by omega)]
    · rw [List.getElem?_replicate, if_neg (by omega), List.getElem?_eq_none (by simp; omega)]
theorem Blk.setRow_far {w : World} {g p : Nat} {t : TypeId} {cs : Array Value} (h : Blk w g t cs) (hne : p ≠ g) (cs' : Array Value) : Blk (w.setRow p cs') g t cs := by
  unfold Blk World.setRow
  show (w.heap.modify p _)[g]? = _
  rw [Array.getElem?_modify, if_neg hne]
  exact h
theorem sumOf_cells (l : List UInt8) : (bArr (sumOf l)).size = 32 ∧ (bArr (sumOf l)).all (·.oneCell') = true := by
  refine ⟨by rw [bArr_size, sumOf_len], ?_⟩
  rw [Array.all_eq_true_iff_forall_mem]
  intro v hv
  unfold bArr at hv
  simp at hv
  obtain ⟨b, _, rfl⟩ := hv
  rfl

set_option maxRecDepth 100000 in
set_option maxHeartbeats 4000000 in
theorem HashMac_any : MacC := by
  intro key text w hk0 hkl htl
  obtain ⟨K, hK⟩ : ∃ K, K = keyOf key := ⟨_, rfl⟩
  have hKl : K.length ≤ 8388608 := by
    rw [hK]; unfold keyOf; split
    · rw [sumOf_len]; omega
    · exact hkl
  have hK64 : K.length ≤ 64 := by
    rw [hK]; unfold keyOf; split
    · rw [sumOf_len]; omega
    · omega
  have HM := Lib.hid (show macT key text = hexOf (sumOf (padK K 0x5c ++ sumOf (padK K 0x36 ++ text))) by rw [hK]; rfl)
  have HK2 := Lib.hid hK
  have HK64 := Lib.hid hK64
  have HKW := Lib.hid hk0
  clear hK hK64 hk0 hKl
  by_cases hlong : 64 < key.length
  case' pos =>
    have hKs := Lib.hid (show K = sumOf key by rw [HK2.out]; unfold keyOf; rw [if_pos hlong])
    have hli : (64 : Int) < key.length := by omega
    obtain ⟨w1, hw1⟩ : ∃ w1, w1 = w.alloc (.cells #[.string ⟨key.toArray⟩] 9) := ⟨_, rfl⟩
    have b1 : Below w.heap.size w w1 := by rw [hw1]; go_grown
    have hS1 : Hid (Sl w1 1 (.slice (some ⟨w.heap.size, 0, none⟩) 1 1) (strs [key])) := by rw [hw1]; exact Lib.hid (strs_new w [key] _ rfl (by unfold maxLen; omega))
    have HW1 := Lib.hid hw1; have HB1 := Lib.hid b1
    have hcs := (sumOf_cells key).1
    obtain ⟨C, hC⟩ : ∃ C, C = bArr (sumOf key) := ⟨_, rfl⟩
    have HC := Lib.hid hC
    have HCS := Lib.hid (show C.size = 32 by rw [hC]; exact (sumOf_cells key).1)
    have HALL := Lib.hid (show C.all (·.oneCell') = true by rw [hC]; exact (sumOf_cells key).2)
    have HI32 := Lib.hid (show (Tryz.prog.info? 63).map (·.size) = some C.size by rw [HCS.out]; kernel_rfl)
    clear hw1 b1 hcs hC
    go_enter Tryz.func18, Tryz.ntmps18
    go_wp2_with fail
    rw [← HW1.out]
    refine (hashOf_any _ [key] w1 (HKW.out.below HB1.out (Nat.le_refl _)) hS1.out (by simp; omega)).mono ?_; rintro e w2 ⟨rfl, b2⟩
    have HB2 := Lib.hid (below_then HB1.out b2)
    have e1 : bArr (sumOf [key].flatten) = C := by rw [HC.out]; simp
    rw [e1]
    clear e1 b2
    go_upto_region 5 with (refine wpList_store_row rfl 63 (.tmp 5) (.tmp 15) rfl w2.heap.size C rfl rfl _ _ (Blk.new _ _ _) HI32.out (by rw [HCS.out]; rfl) HALL.out ?_; generalize hw0 : World.setRow _ _ _ = w0; have HB0 := Lib.hid (show Below w.heap.size w w0 by rw [← hw0]; exact below_setRow (HB2.out.alloc HB2.out.size _) HB2.out.size _); have hcv : (convert 22 9 (.slice (some ⟨w2.heap.size, 0, none⟩) 32 32)).run Tryz.prog w0 = .ok (.string ⟨K.toArray⟩) w0 := (by rw [hKs.out]; refine conv_arr (t := 63) ?_ (sumOf_len key); rw [← hw0, ← HC.out]; exact Blk.setRow_ (Blk.new _ _ _) _); clear hw0)
    clear hcv hlong hli
  case' neg =>
    have hKs := Lib.hid (show key = K by rw [HK2.out]; unfold keyOf; rw [if_neg hlong])
    have hli : ¬ (64 : Int) < key.length := by omega
    obtain ⟨w0, hw0⟩ : ∃ w0, w0 = w := ⟨_, rfl⟩
    have HB0 := Lib.hid (show Below w.heap.size w w0 by rw [hw0]; exact Below.refl _ _)
    have HW0 := Lib.hid hw0
    clear hw0
    go_enter Tryz.func18, Tryz.ntmps18
    go_upto_region 5 with (fail)
    rw [hKs.out, ← HW0.out]
    clear HW0 hlong hli
  all_goals
    have hI1 : (Tryz.prog.info? 5).map (·.size) = some 1 := by kernel_rfl
    have HI1 := Lib.hid hI1
    have HMM := Lib.hid (show Nat.min (⟨K.toArray⟩ : ByteArray).size 64 = K.length by rw [bsize]; exact Nat.min_eq_left HK64.out)
    have HFIT := Lib.hid (show 0 + K.length ≤ (bArr (List.replicate 64 (0 : UInt8))).size by rw [bArr_size, List.length_replicate]; have := HK64.out; omega)
    obtain ⟨W1, hW1⟩ : ∃ W1, W1 = w0.alloc (.cells #[.int .u8 0, .int .u8 0, .int .u8 0, .int .u8 0, .int .u8 0, .int .u8 0, .int .u8 0, .int .u8 0, .int .u8 0, .int .u8 0, .int .u8 0, .int .u8 0, .int .u8 0, .int .u8 0, .int .u8 0, .int .u8 0, .int .u8 0, .int .u8 0, .int .u8 0, .int .u8 0, .int .u8 0, .int .u8 0, .int .u8 0, .int .u8 0, .int .u8 0, .int .u8 0, .int .u8 0, .int .u8 0, .int .u8 0, .int .u8 0, .int .u8 0, .int .u8 0, .int .u8 0, .int .u8 0, .int .u8 0, .int .u8 0, .int .u8 0, .int .u8 0, .int .u8 0, .int .u8 0, .int .u8 0, .int .u8 0, .int .u8 0, .int .u8 0, .int .u8 0, .int .u8 0, .int .u8 0, .int .u8 0, .int .u8 0, .int .u8 0, .int .u8 0, .int .u8 0, .int .u8 0, .int .u8 0, .int .u8 0, .int .u8 0, .int .u8 0, .int .u8 0, .int .u8 0, .int .u8 0, .int .u8 0, .int .u8 0, .int .u8 0, .int .u8 0] 65) := ⟨_, rfl⟩
    obtain ⟨W2, hW2⟩ : ∃ W2, W2 = W1.alloc (.cells #[.int .u8 0, .int .u8 0, .int .u8 0, .int .u8 0, .int .u8 0, .int .u8 0, .int .u8 0, .int .u8 0, .int .u8 0, .int .u8 0, .int .u8 0, .int .u8 0, .int .u8 0, .int .u8 0, .int .u8 0, .int .u8 0, .int .u8 0, .int .u8 0, .int .u8 0, .int .u8 0, .int .u8 0, .int .u8 0, .int .u8 0, .int .u8 0, .int .u8 0, .int .u8 0, .int .u8 0, .int .u8 0, .int .u8 0, .int .u8 0, .int .u8 0, .int .u8 0, .int .u8 0, .int .u8 0, .int .u8 0, .int .u8 0, .int .u8 0, .int .u8 0, .int .u8 0, .int .u8 0, .int .u8 0, .int .u8 0, .int .u8 0, .int .u8 0, .int .u8 0, .int .u8 0, .int .u8 0, .int .u8 0, .int .u8 0, .int .u8 0, .int .u8 0, .int .u8 0, .int .u8 0, .int .u8 0, .int .u8 0, .int .u8 0, .int .u8 0, .int .u8 0, .int .u8 0, .int .u8 0, .int .u8 0, .int .u8 0, .int .u8 0, .int .u8 0] 65) := ⟨_, rfl⟩
    have hs1 : w0.heap.size + 1 = W1.heap.size := by rw [hW1]; simp
    rw [← hW1, ← hW2, hs1]
    obtain ⟨g6, hg6⟩ : ∃ g, g = w0.heap.size := ⟨_, rfl⟩
    obtain ⟨g7, hg7⟩ : ∃ g, g = W1.heap.size := ⟨_, rfl⟩
    have hB6 : Hid (Blk W2 g6 65 (bArr (List.replicate 64 0))) := by rw [hW2, hW1, hg6]; exact Lib.hid ((Blk.new _ _ _).alloc _)
    have hB7 : Hid (Blk W2 g7 65 (bArr (List.replicate 64 0))) := by rw [hW2, hg7]; exact Lib.hid (Blk.new _ _ _)
    have hne : g6 ≠ g7 := by omega
    have HGE := Lib.hid (show w.heap.size ≤ g6 ∧ w.heap.size ≤ g7 by have := HB0.out.size; exact ⟨by omega, by omega⟩)
    have HB2 := Lib.hid (show Below w.heap.size w W2 by rw [hW2, hW1]; exact (HB0.out.alloc HB0.out.size _).alloc (by have := HB0.out.size; simp; omega) _)
    rw [← hg6, ← hg7]
    have HNE := Lib.hid hne
    clear hW1 hW2 hs1 hg6 hg7 hne hI1
    go_upto_region 6 with (refine wpList_copy_strN rfl (.tmp 18) (.tmp 19) _ _ rfl 5 Tryz.underlying22 HI1.out g6 0 64 64 K.length rfl ⟨K.toArray⟩ rfl _ _ hB6.out HMM.out HFIT.out ?_; intro w3 hq3; have hw3 := Lib.hid hq3; clear hq3)
    have hC6 : Hid (Blk w3 g6 65 (bArr (pad0 K))) := by rw [hw3.out, ← pad0_copy K HK64.out]; exact Lib.hid (Blk.setRow_ hB6.out _)
    have hC7 : Hid (Blk w3 g7 65 (bArr (List.replicate 64 0))) := by rw [hw3.out]; exact Lib.hid (hB7.out.setRow_far HNE.out _)
    have HB3 := Lib.hid (show Below w.heap.size w w3 by rw [hw3.out]; exact below_setRow HB2.out HGE.out.1 _)
    clear hw3
    go_wp2_with (refine wpList_copy_strN rfl (.tmp 21) (.tmp 22) _ _ rfl 5 Tryz.underlying22 HI1.out g7 0 64 64 K.length rfl ⟨K.toArray⟩ rfl _ _ hC7.out HMM.out HFIT.out ?_; intro w4 hq4; have hw4 := Lib.hid hq4; clear hq4)
    have hD7 : Hid (Blk w4 g7 65 (bArr (pad0 K))) := by rw [hw4.out, ← pad0_copy K HK64.out]; exact Lib.hid (Blk.setRow_ hC7.out _)
    have hD6 : Hid (Blk w4 g6 65 (bArr (pad0 K))) := by rw [hw4.out]; exact Lib.hid (hC6.out.setRow_far (Ne.symm HNE.out) _)
    have HB4 := Lib.hid (show Below w.heap.size w w4 by rw [hw4.out]; exact below_setRow HB3.out HGE.out.2 _)
    clear hw4
    go_loopw [24] (fun i wr => ∃ k : Nat, k ≤ 64 ∧ i = .int .i64 k ∧ Hid (Blk wr g6 65 (bArr (padTo K 0x36 k))) ∧ Hid (Blk wr g7 65 (bArr (padTo K 0x5c k))) ∧ Hid (Below w.heap.size w wr)) (fun i _ => 64 - (intOf i).toNat)
    case atStart => exact ⟨0, by omega, rfl, by rw [padTo_zero]; exact hD6, by rw [padTo_zero]; exact hD7, HB4⟩
    case round =>
      clear hD6 hD7 hC6 hC7 hB6 hB7 HB2 HB3 HB4
      obtain ⟨k, hk, rfl, H6, H7, HB⟩ := hrel
      by_cases hlt : k < 64
      · have c6 := (H6.out.cell k).trans (bArr_get (padTo_at K 0x36 hlt))
        have c7 := (H7.out.cell k).trans (bArr_get (padTo_at K 0x5c hlt))
        have f6 := H6.out.frozen k
        have f7 := H7.out.frozen k
        have HX6 := Lib.hid (padTo_next K 0x36 hlt)
        have HX7 := Lib.hid (padTo_next K 0x5c hlt)
        obtain ⟨x, hx⟩ : ∃ x, x = K.getD k 0 := ⟨_, rfl⟩
        rw [← hx] at c6 c7 HX6 HX7
        unfold u8V at c6 c7
        obtain ⟨X, hX⟩ : ∃ X : Int, X = (x.toNat : Int) := ⟨_, rfl⟩
        have a6 : bits .xor .u8 X 54 = ((x ^^^ 0x36).toNat : Int) := by rw [hX]; exact xor36 x
        have a7 : bits .xor .u8 X 92 = ((x ^^^ 0x5c).toNat : Int) := by rw [hX]; exact xor5c x
        rw [← hX] at c6 c7
        obtain ⟨Y6, hY6⟩ : ∃ Y : Int, Y = ((x ^^^ 0x36).toNat : Int) := ⟨_, rfl⟩
        obtain ⟨Y7, hY7⟩ : ∃ Y : Int, Y = ((x ^^^ 0x5c).toNat : Int) := ⟨_, rfl⟩
        rw [← hY6] at a6
        rw [← hY7] at a7
        have HY6 := Lib.hid hY6; have HY7 := Lib.hid hY7; have HLT := Lib.hid hlt
        have k64 : (k : Int) < 64 := by omega
        have hne := HNE.out
        clear hx hX hY6 hY7 hlt hk
        go_wp2
        have hk := HLT.out
        refine ⟨⟨k + 1, by omega, by go_num, ?_, ?_, Lib.hid ((HB.out.setCell HGE.out.1 _).setCell HGE.out.2 _)⟩, by simp [intOf]; omega⟩
        · have := (H6.out.set_ k (u8V (x ^^^ 0x36))).far (p := ⟨g7, k, none⟩) hne (.int .u8 Y7)
          rw [bArr_set, HX6.out] at this
          unfold u8V at this
          rw [← HY6.out] at this
          exact Lib.hid this
        · have := (H7.out.far (p := ⟨g6, k, none⟩) (Ne.symm hne) (.int .u8 Y6)).set_ k (u8V (x ^^^ 0x5c))
          rw [bArr_set, HX7.out] at this
          unfold u8V at this
          rw [← HY7.out] at this
          exact Lib.hid this
      · obtain rfl : k = 64 := by omega
        rw [padTo_all] at H6 H7
        obtain ⟨wz, rfl⟩ : ∃ wz : World, wz = wr := ⟨_, rfl⟩
        obtain ⟨P6, hP6⟩ : ∃ P, P = padK K 0x36 := ⟨_, rfl⟩
        obtain ⟨P7, hP7⟩ : ∃ P, P = padK K 0x5c := ⟨_, rfl⟩
        rw [← hP6] at H6 HM
        rw [← hP7] at H7 HM
        have hp6 : P6.length = 64 := by rw [hP6, padK_len]
        have hp7 : P7.length = 64 := by rw [hP7, padK_len]
        have hcv := conv_arr H6.out hp6
        have HP6 := Lib.hid hp6; have HP7 := Lib.hid hp7
        have hS1 : Hid (Sl (wz.alloc (.cells #[.string ⟨P6.toArray⟩, .string ⟨text.toArray⟩] 9)) 1 (.slice (some ⟨wz.heap.size, 0, none⟩) 2 2) (strs [P6, text])) := Lib.hid (strs_new wz [P6, text] _ rfl (by unfold maxLen; omega))
        have HBA := Lib.hid (HB.out.alloc HB.out.size (.cells #[.string ⟨P6.toArray⟩, .string ⟨text.toArray⟩] 9))
        have HTL := Lib.hid htl
        clear hP6 hP7 hp6 hp7 htl hk hlt
        go_wp2_with fail
        refine (hashOf_any _ [P6, text] _ (HKW.out.below HBA.out (Nat.le_refl _)) hS1.out (by have := HTL.out; have := HP6.out; simp; omega)).mono ?_; rintro e w5 ⟨rfl, b5⟩
        have HB5 := Lib.hid (below_then HBA.out b5)
        have H75 : Hid (Blk w5 g7 65 (bArr P7)) := Lib.hid ((H7.out.alloc _).below b5 (H7.out.alloc _).lt)
        have e1 : [P6, text].flatten = P6 ++ text := by simp
        rw [e1]
        obtain ⟨D, hD⟩ : ∃ D, D = sumOf (P6 ++ text) := ⟨_, rfl⟩
        rw [← hD]
        have HD := Lib.hid (show macT key text = hexOf (sumOf (P7 ++ D)) by rw [HM.out, hD])
        have hDl : D.length = 32 := by rw [hD, sumOf_len]
        have hc2 : (bArr D).size = 32 ∧ (bArr D).all (·.oneCell') = true := by rw [hD]; exact sumOf_cells _
        have HDL := Lib.hid hDl
        obtain ⟨C2, hC2⟩ : ∃ C, C = bArr D := ⟨_, rfl⟩
        rw [← hC2] at hc2 ⊢
        have HC2 := Lib.hid hC2
        have HCS2 := Lib.hid hc2.1; have HALL2 := Lib.hid hc2.2
        have HI322 := Lib.hid (show (Tryz.prog.info? 63).map (·.size) = some C2.size by rw [HCS2.out]; kernel_rfl)
        clear e1 hD hDl hc2 hC2 hcv b5
        go_wp2_with (refine wpList_store_row rfl 63 (.tmp 9) (.tmp 42) rfl w5.heap.size C2 rfl rfl _ _ (Blk.new _ _ _) HI322.out (by rw [HCS2.out]; rfl) HALL2.out ?_; generalize hw6 : World.setRow _ _ _ = w6; have HB6 := Lib.hid (show Below w.heap.size w w6 by rw [← hw6]; exact below_setRow (HB5.out.alloc HB5.out.size _) HB5.out.size _); have H9 : Hid (Blk w6 w5.heap.size 63 (bArr D)) := (by rw [← hw6, ← HC2.out]; exact Lib.hid (Blk.setRow_ (Blk.new _ _ _) _)); have H76 : Hid (Blk w6 g7 65 (bArr P7)) := (by rw [← hw6]; exact Lib.hid ((H75.out.alloc _).setRow_far (Nat.ne_of_gt H75.out.lt) _)); clear hw6)
        have hv1 := conv_arr H76.out.drew HP7.out
        have hv2 := conv_arr H9.out.drew HDL.out
        have hv3 := conv_arr H76.out HP7.out
        have hv4 := conv_arr H9.out HDL.out
        obtain ⟨g9, hg9⟩ : ∃ g, g = w5.heap.size := ⟨_, rfl⟩
        rw [← hg9] at hv2 hv4 ⊢
        clear hg9
        go_still_tail 4, (by kernel_rfl)
        change wpList _ _ _ _ _ w6.drew
        obtain ⟨wd, hwd⟩ : ∃ wd, wd = w6.drew := ⟨_, rfl⟩
        rw [← hwd]
        have HBD := Lib.hid (show Below w.heap.size w wd by rw [hwd]; exact HB6.out.drew)
        clear hwd hv1 hv2 hv3 hv4
        have hS2 : Hid (Sl (wd.alloc (.cells #[.string ⟨P7.toArray⟩, .string ⟨D.toArray⟩] 9)) 1 (.slice (some ⟨wd.heap.size, 0, none⟩) 2 2) (strs [P7, D])) := Lib.hid (strs_new wd [P7, D] _ rfl (by unfold maxLen; omega))
        have HBE := Lib.hid (HBD.out.alloc HBD.out.size (.cells #[.string ⟨P7.toArray⟩, .string ⟨D.toArray⟩] 9))
        go_wp2_with fail
        refine (hashOf_any _ [P7, D] _ (HKW.out.below HBE.out (Nat.le_refl _)) hS2.out (by have := HP7.out; have := HDL.out; simp; omega)).mono ?_; rintro e w7 ⟨rfl, b7⟩
        have HB7 := Lib.hid (below_then HBE.out b7)
        have e1 : [P7, D].flatten = P7 ++ D := by simp
        rw [e1]
        clear e1 b7
        go_wp2_with fail
        refine (hashFigures_any _ _ (sumOf_len _)).mono ?_; rintro e w8 ⟨rfl, b8⟩
        have HB8 := Lib.hid (below_then HB7.out b8)
        clear b8
        go_wp2
        go_ret
        exact ⟨by rw [HD.out]; rfl, HB8.out⟩
end Go.Proofs.YtcomdkmglihdbaaGreatDoor

-- The program's PackWrite of a pack that is not whole.
namespace Go.Proofs.YtcomdkmglihdbaaGreatDoor
open Go.RowKit
set_option linter.unusedSimpArgs false
set_option linter.unusedVariables false

set_option maxHeartbeats 2000000 in
theorem PackWrite_no (key : List UInt8) (p : Pk) (w : World) (hr : p.r.length ≤ 4194304) (hc : p.c.length ≤ 4194304) (hw : ¬ p.whole) :
    Calls Tryz.prog 6 #[.string ⟨key.toArray⟩, .agg #[.int .i64 p.e, .string ⟨p.r.toArray⟩, .string ⟨p.c.toArray⟩]] w fun e w' => e = .returned (.string ⟨#[]⟩) ∧ Below w.heap.size w w' := by
  obtain ⟨e, r, c⟩ := p
  simp only at hr hc ⊢
  have HRM := Lib.hid (fun W => packLines_any r 900 W (by omega)); have HCM2 := Lib.hid (fun W => packLines_any c 2600 W (by omega))
  by_cases he1 : e < 1
  · go_enter Tryz.func6, Tryz.ntmps6
    go_wp2
    go_ret
    exact ⟨rfl, by go_grown⟩
  by_cases he2 : 99 < e
  · go_enter Tryz.func6, Tryz.ntmps6
    go_wp2
    go_ret
    exact ⟨rfl, by go_grown⟩
  cases hrb : wholeTB 900 r with
  | false =>
    have HB := Lib.hid hrb
    clear hrb hw
    go_enter Tryz.func6, Tryz.ntmps6
    go_wp2_with fail
    refine (HRM.out _).mono ?_; rintro e4 w4 ⟨rfl, rfl⟩
    rw [HB.out]
    go_wp2
    go_ret
    exact ⟨rfl, by go_grown⟩
  | true =>
    have HB := Lib.hid hrb
    have HC := Lib.hid (show wholeTB 2600 c = false by
      rw [← Bool.not_eq_true, wholeTB_iff]
      exact fun h => hw ⟨⟨by show 1 ≤ e; omega, by show e ≤ 99; omega⟩, wholeTB_iff.1 hrb, h⟩)
    clear hrb hw
    go_enter Tryz.func6, Tryz.ntmps6
    go_wp2_with fail
    refine (HRM.out _).mono ?_; rintro e4 w4 ⟨rfl, rfl⟩
    rw [HB.out]
    go_wp2_with fail
    refine (HCM2.out _).mono ?_; rintro e4 w4 ⟨rfl, rfl⟩
    rw [HC.out]
    go_wp2
    go_ret
    exact ⟨rfl, by go_grown⟩
end Go.Proofs.YtcomdkmglihdbaaGreatDoor

-- The program's readPack: a pack whose text it is, or a fault.
namespace Go.Proofs.YtcomdkmglihdbaaGreatDoor
open Go.RowKit
set_option linter.unusedSimpArgs false
set_option linter.unusedVariables false

def RdPackPost (key text : List UInt8) (w : World) (e : Ending) (w' : World) : Prop :=
  Below w.heap.size w w' ∧ ((∃ p : Pk, isPack key text p ∧ e = .returned (.tuple #[.agg #[.int .i64 p.e, .string ⟨p.r.toArray⟩, .string ⟨p.c.toArray⟩], .nilIface])) ∨
    ((¬ ∃ p : Pk, isPack key text p) ∧ ∃ a : Addr, e = .returned (.tuple #[.agg #[.int .i64 0, .string ⟨#[]⟩, .string ⟨#[]⟩], .iface 68 (.pointer (some a))])))
theorem split_len {text : List UInt8} {p : Pk} (h : SplitTo text p) : p.r.length ≤ text.length ∧ p.c.length ≤ text.length := by
  obtain ⟨A, B, C, D, E, F, n, m, f0, f1, f2, f3, f4, f5⟩ := h
  have a := numAt_len f1
  have b := numAt_len f2
  have c := numAt_len f3
  have d := f4.1
  have e := f5.1
  rw [f0]
  rw [d, e] at c
  simp only [List.length_append, List.length_cons, List.length_nil] at a b c ⊢
  omega
theorem PackWrite_any (key : List UInt8) (p : Pk) (w : World) (hpw : Pow w) (hkw : Kww w) (hk : key.length ≤ 8388608) (hr : p.r.length ≤ 4194304) (hc : p.c.length ≤ 4194304) :
    Calls Tryz.prog 6 #[.string ⟨key.toArray⟩, .agg #[.int .i64 p.e, .string ⟨p.r.toArray⟩, .string ⟨p.c.toArray⟩]] w fun e w' => e = .returned (.string ⟨(p.written key).toArray⟩) ∧ Below w.heap.size w w' := by
  by_cases h : p.whole
  · rw [written_yes h]; exact PackWrite_yes HashMac_any key p w hpw hkw hk h
  · rw [written_no h]; exact PackWrite_no key p w hr hc h

set_option maxHeartbeats 4000000 in
theorem readPack_any (key text : List UInt8) (w : World) (hpw : Pow w) (hkw : Kww w) (hk : key.length ≤ 1048576) (ht : text.length ≤ 1048576) :
    Calls Tryz.prog 21 #[.string ⟨key.toArray⟩, .string ⟨text.toArray⟩] w (RdPackPost key text w) := by
  obtain ⟨W1, hW1⟩ : ∃ W, W = w.alloc (.cells #[.int .i64 0, .string ⟨#[]⟩, .string ⟨#[]⟩] 24) := ⟨_, rfl⟩
  have B1 : Hid (Blk W1 w.heap.size 24 #[.int .i64 0, .string ⟨#[]⟩, .string ⟨#[]⟩]) := by rw [hW1]; exact Lib.hid (Blk.new _ _ _)
  have b1 : Hid (Below w.heap.size w W1) := by rw [hW1]; exact Lib.hid (by go_grown)
  have HW1 := Lib.hid hW1; have HPW := Lib.hid hpw; have HKW := Lib.hid hkw
  clear hW1 hpw hkw
  go_enter Tryz.func21, Tryz.ntmps21
  go_wp2_with fail
  rw [← HW1.out]
  refine (splitPack_any text _ ht).mono ?_
  rintro e w2 ⟨b2, hsp⟩
  have HB2 := Lib.hid (below_then b1.out b2); have HK2 := Lib.hid (B1.out.below b2 B1.out.lt)
  have hl2 : w.heap.size < w2.heap.size := HK2.out.lt
  clear b2 b1 B1 HW1
  rcases hsp with ⟨p, hsp, rfl⟩ | ⟨hno, a, rfl⟩
  · have hll := split_len hsp
    have HSP := Lib.hid hsp
    obtain ⟨W3, hW3⟩ : ∃ W, W = w2.alloc (.cells #[.int .i64 p.e, .string ⟨p.r.toArray⟩, .string ⟨p.c.toArray⟩] 24) := ⟨_, rfl⟩
    have B3 : Hid (Blk W3 w2.heap.size 24 #[.int .i64 p.e, .string ⟨p.r.toArray⟩, .string ⟨p.c.toArray⟩]) := by rw [hW3]; exact Lib.hid (Blk.new _ _ _)
    have HB3 := Lib.hid (show Below w.heap.size w W3 by rw [hW3]; exact HB2.out.alloc HB2.out.size _)
    have HK3 := Lib.hid (show Blk W3 w.heap.size 24 #[.int .i64 0, .string ⟨#[]⟩, .string ⟨#[]⟩] by rw [hW3]; exact HK2.out.alloc _)
    have HW3 := Lib.hid hW3
    have HLL := Lib.hid hll
    clear hsp hll hW3
    go_wp2_with fail
    rw [← HW3.out]
    refine (PackWrite_any key p _ (HPW.out.below HB3.out) (HKW.out.below HB3.out (Nat.le_refl _)) (by omega) (by have := HLL.out; omega) (by have := HLL.out; omega)).mono ?_; rintro e w4 ⟨rfl, b4⟩
    have HB4 := Lib.hid (below_then HB3.out b4); have HK4 := Lib.hid (HK3.out.below b4 HK3.out.lt); have HP4 := Lib.hid (B3.out.below b4 B3.out.lt)
    have hl4 : w.heap.size < w4.heap.size := HK4.out.lt
    have hne1 : ¬ w.heap.size = w2.heap.size := by omega
    have hne2 : ¬ w2.heap.size = w.heap.size := by omega
    obtain ⟨T, hT⟩ : ∃ T, T = p.written key := ⟨_, rfl⟩
    rw [← hT]
    have HTT := Lib.hid hT
    clear hT b4 HW3 HB3 HK3 B3
    have x0 := (show _ = some (Value.int .i64 0) from HK4.out.cell 0); have x1 := (show _ = some (Value.string ⟨#[]⟩) from HK4.out.cell 1); have x2 := (show _ = some (Value.string ⟨#[]⟩) from HK4.out.cell 2); have f0 := HK4.out.frozen 0; have f1 := HK4.out.frozen 1; have f2 := HK4.out.frozen 2
    by_cases hTe : T = text
    · have HIS := Lib.hid (isPack_of (by rw [← HTT.out]; exact hTe) (split_ne HSP.out) : isPack key text p)
      have t1 : (T == text) = true := by simpa using hTe
      have t2 : (T != text) = false := by simpa using hTe
      have y0 := (show _ = some (Value.int .i64 p.e) from HP4.out.cell 0); have y1 := (show _ = some (Value.string ⟨p.r.toArray⟩) from HP4.out.cell 1); have y2 := (show _ = some (Value.string ⟨p.c.toArray⟩) from HP4.out.cell 2)
      clear hTe
      go_wp2
      refine bodyPost_ret (v := .tuple #[.agg #[.int .i64 p.e, .string ⟨p.r.toArray⟩, .string ⟨p.c.toArray⟩], .nilIface]) (by simp [results, Tryz.results21, go_sem, x0, x1, x2, hne1, hne2]) rfl ⟨?_, .inl ⟨p, HIS.out, rfl⟩⟩
      exact (((HB4.out.setCell (p := ⟨w.heap.size, 0, none⟩) (Nat.le_refl _) _).setCell (p := ⟨w.heap.size, 1, none⟩) (Nat.le_refl _) _).setCell (p := ⟨w.heap.size, 2, none⟩) (Nat.le_refl _) _)
    · have HNO := Lib.hid (show ¬ ∃ p, isPack key text p from fun ⟨q, h⟩ => hTe (by
        have hq := h.split.unique HSP.out
        rw [HTT.out, ← hq, written_yes h.1]
        exact h.2.symm))
      have t1 : (T == text) = false := by simpa using hTe
      have t2 : (T != text) = true := by simpa using hTe
      clear hTe
      go_wp2
      refine bodyPost_ret (v := .tuple #[.agg #[.int .i64 0, .string ⟨#[]⟩, .string ⟨#[]⟩], .iface 68 (.pointer (some ⟨w4.heap.size, 0, none⟩))]) (by simp [results, Tryz.results21, go_sem, x0, x1, x2, hl4, hne1, hne2]) rfl ⟨?_, .inr ⟨HNO.out, _, rfl⟩⟩
      ((repeat' (first | exact HB4.out | (refine Below.setCell ?_ ?_ _) | (refine Below.alloc ?_ ?_ _))) <;> (first | exact Nat.le_refl _ | (have := HB4.out.size; simp; omega)))
  · have HNO := Lib.hid (show ¬ ∃ p, isPack key text p from fun ⟨p, h⟩ => hno ⟨p, h.split⟩)
    have x0 := (show _ = some (Value.int .i64 0) from HK2.out.cell 0); have x1 := (show _ = some (Value.string ⟨#[]⟩) from HK2.out.cell 1); have x2 := (show _ = some (Value.string ⟨#[]⟩) from HK2.out.cell 2); have f0 := HK2.out.frozen 0; have f1 := HK2.out.frozen 1; have f2 := HK2.out.frozen 2
    have hne1 : ¬ w.heap.size = w2.heap.size := by omega
    have hne2 : ¬ w2.heap.size = w.heap.size := by omega
    clear hno
    go_wp2
    refine bodyPost_ret (v := .tuple #[.agg #[.int .i64 0, .string ⟨#[]⟩, .string ⟨#[]⟩], .iface 68 (.pointer (some a))]) (by simp [results, Tryz.results21, go_sem, x0, x1, x2, hl2, hne1, hne2]) rfl ⟨?_, .inr ⟨HNO.out, _, rfl⟩⟩
    ((repeat' (first | exact HB2.out | (refine Below.setCell ?_ ?_ _) | (refine Below.alloc ?_ ?_ _))) <;> (first | exact Nat.le_refl _ | (have := HB2.out.size; simp; omega)))
end Go.Proofs.YtcomdkmglihdbaaGreatDoor
