/- The program's hasher: (*impl.hasher).take. -/
import Derived.Test.YtlodcjpoamaemaaDoorHashM
import Derived.Lib.BufferWrite
namespace Go.Proofs.YtlodcjpoamaemaaDoor
open Go.RowKit
set_option linter.unusedSimpArgs false
set_option linter.unusedVariables false

/-- 'copy(dst, s)', s a string of which as much goes over as there is room for. -/
theorem run_copy_strN {P : Program} (w : World) (dT sT ty elem : TypeId) (g o dLen dCap m : Nat) (s : ByteArray) (cur : Array Value) (t : TypeId)
    (hu : P.underlying dT = some (.slice elem)) (hs : (P.info? elem).map (·.size) = some 1) (hg : w.heap[g]? = some (.cells cur t (0, 0))) (hm : Nat.min s.size dLen = m) (hfit : o + m ≤ cur.size) :
    (Builtin.copy_ #[dT, sT] ty #[.slice (some ⟨g, o, none⟩) dLen dCap, .string s]).run P w =
      .ok (goInt m) (w.setRow g (cur.toList.take o ++ (s.data.toList.take m).map u8V ++ cur.toList.drop (o + m)).toArray) := by
  have hms : m ≤ s.size := by rw [← hm]; exact Nat.min_le_left _ _
  have hlen : ((s.data.toList.take m).map u8V).length = m := by rw [List.length_map, List.length_take, Array.length_toList]; exact Nat.min_eq_left hms
  have hst := run_storeCells_at P g o t ((s.data.toList.take m).map u8V) 0 cur w hg (by rw [hlen]; simpa using hfit) (by
    intro v hv
    obtain ⟨x, _, rfl⟩ := List.mem_map.1 hv
    rfl)
  have htk : List.take m (List.map (fun b : UInt8 => Value.int IntKind.u8 (b.toNat : Int)) s.data.toList) = (s.data.toList.take m).map u8V := by
    rw [List.map_take]
    rfl
  rw [hlen] at hst
  simp only [Nat.add_zero] at hst
  cases hq : P.info? elem with
  | none => simp [hq] at hs
  | some i =>
    simp [Builtin.copy_, run_underlying hu, Builtin.lenOf, Builtin.firstCells, sizeOf, typeInfo, hq, hm]
    rw [htk, hst]
    simp [Result.andThen]

theorem step_copy_strN {P : Program} {ops : Array Oper} {o : Oper} {a : Act} {w : World} {K : Act → World → Prop} {Q : Exit → Act → World → Prop} {E : Prop}
    (hgd : o.guard = none) (d x : Operand) (dT sT : TypeId) (hop : o.op = Op.call { callee := Callee.builtin Builtin.copy, args := #[d, x], argTypes := #[dT, sT] })
    (elem : TypeId) (hu : P.underlying dT = some (.slice elem)) (hs : (P.info? elem).map (·.size) = some 1)
    (g off dLen dCap m : Nat) (hd : a.eval d = .slice (some ⟨g, off, none⟩) dLen dCap) (s : ByteArray) (hx : a.eval x = .string s) (cur : Array Value) (t : TypeId) (hg : w.heap[g]? = some (.cells cur t (0, 0)))
    (hm : Nat.min s.size dLen = m) (hfit : off + m ≤ cur.size)
    (hK : ∀ w', w' = w.setRow g (cur.toList.take off ++ (s.data.toList.take m).map u8V ++ cur.toList.drop (off + m)).toArray → K (a.put o.dst (.int .i64 (m : Int))) w') :
    if Region.wanted o (yielded ops a.tmps) = true then Oper.wp P o a w K Q else E := by
  have hw : Region.wanted o (yielded ops a.tmps) = true := by simp [Region.wanted, hgd]
  rw [if_pos hw]
  have hrun := run_copy_strN (P := P) w dT sT o.type elem g off dLen dCap m s cur t hu hs hg hm hfit
  unfold Oper.wp
  simp [execOp, hop, resolve, invoke, builtin, hd, hx, hrun, Result.andThen]
  exact hK _ (by simp [List.map_take, List.append_assoc])

theorem hcells_copy (ws : List Int) (blk m : List UInt8) (used : Nat) (u : Nat) (tk : Int) (hl : ws.length = 8) (hb : blk.length = 64) (hm : used + m.length ≤ 64) :
    ((hcells ws blk u tk).toList.take (8 + used) ++ m.map u8V ++ (hcells ws blk u tk).toList.drop (8 + used + m.length)).toArray = hcells ws (blk.take used ++ m ++ blk.drop (used + m.length)) u tk := by
  unfold hcells
  have e1 : (ws.map (Value.int .u32)).length = 8 := by rw [List.length_map, hl]
  have e2 : (blk.map u8V).length = 64 := by rw [List.length_map, hb]
  congr 1
  have t1 : (ws.map (Value.int .u32) ++ (blk.map u8V ++ [Value.int .i64 (u : Int), Value.int .u64 tk])).take (8 + used) = ws.map (Value.int .u32) ++ (blk.take used).map u8V := by
    rw [List.take_append, e1, List.take_of_length_le (by rw [e1]; omega), show 8 + used - 8 = used by omega, List.take_append_of_le_length (by rw [e2]; omega), List.map_take]
  have t2 : (ws.map (Value.int .u32) ++ (blk.map u8V ++ [Value.int .i64 (u : Int), Value.int .u64 tk])).drop (8 + used + m.length) = (blk.drop (used + m.length)).map u8V ++ [Value.int .i64 (u : Int), Value.int .u64 tk] := by
    rw [List.drop_append, e1, List.drop_eq_nil_of_le (by rw [e1]; omega), List.nil_append, show 8 + used + m.length - 8 = used + m.length by omega, List.drop_append_of_le_length (by rw [e2]; omega), List.map_drop]
  simp only [List.toList_toArray]
  rw [t1, t2]
  simp [List.map_append]

/-- A hasher that has taken a text. -/
structure TookB (l : List UInt8) (ws : List Int) (blk : List UInt8) (used : Nat) : Prop where
  len : blk.length = 64
  pre : blk.take (l.length % 64) = l.drop (64 * (l.length / 64))
  words : ws = (sumTo l (l.length / 64)).row
  used : used = l.length % 64
theorem TookB.start (blk : List UInt8) (h : blk.length = 64) : TookB [] h0W blk 0 := ⟨h, by simp, rfl, rfl⟩
theorem TookB.few {l m : List UInt8} {ws : List Int} {blk : List UInt8} {used : Nat} (h : TookB l ws blk used) (hm : used + m.length < 64) : TookB (l ++ m) ws (blk.take used ++ m ++ blk.drop (used + m.length)) (used + m.length) := by
  have hu := h.used
  have h1 : (l ++ m).length / 64 = l.length / 64 := by rw [List.length_append]; omega
  have h2 : (l ++ m).length % 64 = used + m.length := by rw [List.length_append]; omega
  have hlb := h.len
  refine ⟨?_, ?_, ?_, h2.symm⟩
  · rw [List.length_append, List.length_append, List.length_take, List.length_drop]; omega
  · rw [h2, h1, List.take_append_of_le_length (by rw [List.length_append, List.length_take]; omega), List.take_of_length_le (by rw [List.length_append, List.length_take]; omega),
      List.drop_append_of_le_length (by omega), hu, h.pre]
  · rw [h1, sumTo_append _ _ _ (by omega)]; exact h.words
theorem TookB.full {l m : List UInt8} {s : W8} {blk : List UInt8} {used : Nat} (h : TookB l s.row blk used) (hm : used + m.length = 64) (hs : s = sumTo l (l.length / 64)) :
    TookB (l ++ m) (blockW s (blk.take used ++ m ++ blk.drop (used + m.length))).row (blk.take used ++ m ++ blk.drop (used + m.length)) 0 := by
  have hu := h.used
  have hlb := h.len
  have h1 : (l ++ m).length / 64 = l.length / 64 + 1 := by rw [List.length_append]; omega
  have h2 : (l ++ m).length % 64 = 0 := by rw [List.length_append]; omega
  have h3 : (l ++ m).length = 64 * (l.length / 64) + 64 := by rw [List.length_append]; omega
  have hd : blk.drop (used + m.length) = [] := List.drop_eq_nil_of_le (by omega)
  refine ⟨?_, ?_, ?_, h2.symm⟩
  · rw [List.length_append, List.length_append, List.length_take, List.length_drop]; omega
  · rw [h2, h1, List.take_zero, List.drop_eq_nil_of_le (by rw [h3]; omega)]
  · rw [h1, sumTo, sumTo_append _ _ _ (by omega), ← hs]
    congr 2
    rw [hd, List.append_nil, List.drop_append_of_le_length (by omega), hu, h.pre, List.take_of_length_le]
    rw [List.length_append, List.length_drop]
    omega

theorem below_sr (w : World) (g : Nat) (cs : Array Value) : w.grownBy (w.setRow g cs) (some g) :=
  ⟨rfl, rfl, rfl, by unfold World.setRow; simp, fun k _ hk => by
    unfold World.setRow
    show (w.heap.modify g _)[k]? = _
    rw [Array.getElem?_modify, if_neg (fun e => hk (by rw [e]))]⟩
theorem ext_drop {t : ByteArray} {L X : List UInt8} {k m : Nat} (h1 : t.data.toList = X) (h2 : X = L.drop k) : t.extract m t.size = ⟨(L.drop (k + m)).toArray⟩ := by
  apply ByteArray.ext
  apply Array.toList_inj.1
  rw [Lib.extract_data, h1, h2, List.drop_drop, List.toList_toArray]
  exact List.take_of_length_le (by
    have : t.size = X.length := by rw [← h1, Array.length_toList]; rfl
    rw [this, h2, List.length_drop, List.length_drop]
    omega)
theorem take_next {L X : List UInt8} {k m : Nat} (h2 : X = L.drop k) : L.take (k + m) = L.take k ++ X.take m := by rw [h2, List.take_add]
def lenT : Value → Nat
  | .string s => s.size
  | _ => 0
/-- What taking a text leaves. -/
def TakePost (p : Nat) (l : List UInt8) (tk : Int) (w : World) (e : Ending) (w' : World) : Prop :=
  e = .returned (.tuple #[]) ∧ (∃ ws blk used, TookB l ws blk used ∧ Blk w' p 120 (hcells ws blk used tk)) ∧ w.grownBy w' (some p)

set_option maxRecDepth 100000 in
set_option maxHeartbeats 2000000 in
theorem take_any (p : Nat) (l : List UInt8) (ws : List Int) (blk : List UInt8) (used : Nat) (tk : Int) (s : ByteArray) (w : World) (hk : Kww w) (hp : Blk w p 120 (hcells ws blk used tk)) (ht : TookB l ws blk used) (h0 : 0 ≤ tk) (h1 : tk + s.size ≤ 1099511627776) :
    Calls Tryd.prog 59 #[.pointer (some ⟨p, 0, none⟩), .string s] w (TakePost p (l ++ s.data.toList) (tk + s.size) w) := by
  have hwl : ws.length = 8 := by rw [ht.words]; rfl
  have hbl := ht.len
  have c73 := (hp.cell 73).trans (hcells_taken hwl hbl)
  have f73 := hp.frozen 73
  obtain ⟨L, hL⟩ : ∃ L, L = s.data.toList := ⟨_, rfl⟩
  have hn : L.length = s.size := by rw [hL, Array.length_toList]; rfl
  obtain ⟨n, hnn⟩ : ∃ n, n = s.size := ⟨_, rfl⟩
  rw [← hnn] at hn h1
  have hnsz : (s.size : Int) = n := by rw [hnn]
  have HS := Lib.hid (show s = ⟨L.toArray⟩ by rw [hL])
  rw [← hL, hnsz]
  have HP0 : Hid (Blk (w.setCell ⟨p, 73, none⟩ (.int .u64 (tk + n))) p 120 (hcells ws blk used (tk + n))) := by
    have := hp.set_ 73 (.int .u64 (tk + n))
    rwa [hcells_settaken hwl hbl] at this
  have HG0 := Lib.hid (grown_set w p 73 (.int .u64 (tk + n)))
  have HKP := Lib.hid (hk.apart hp (by rw [hcells_size hwl hbl]; decide))
  have HKW := Lib.hid hk
  have HT := Lib.hid ht
  have HN := Lib.hid hn
  have hN0 : (0 : Int) ≤ n := by omega
  have w1 : IntKind.u64.wrap (n : Int) = n := by simp [IntKind.wrap, IntKind.bits, IntKind.signed]; omega
  have w2 : IntKind.u64.wrap (tk + (n : Int)) = tk + n := by simp [IntKind.wrap, IntKind.bits, IntKind.signed]; omega
  have w3 : (tk + (n : Int)) % 18446744073709551616 = tk + n := by omega
  have w4 : (n : Int) % 18446744073709551616 = n := by omega
  clear hk hp ht hL hnn hn hwl hbl
  go_enter Tryd.func59, Tryd.ntmps59
  go_wp2
  clear w1 w2 w3 w4 c73 f73 h0
  go_loopw [1] (fun t wr => ∃ (k : Nat) (ws : List Int) (blk : List UInt8) (used : Nat), k ≤ n ∧ t = .string ⟨(L.drop k).toArray⟩ ∧ Hid (TookB (l ++ L.take k) ws blk used) ∧ Hid (Blk wr p 120 (hcells ws blk used (tk + n))) ∧ Hid (w.grownBy wr (some p))) (fun t _ => lenT t)
  case atStart => exact ⟨0, ws, blk, used, by omega, by rw [HS.out]; rfl, by simpa using HT, HP0, HG0⟩
  case round =>
    clear HP0 HG0 HT
    obtain ⟨k, ws, blk, used, hk, rfl, HT, HP, HG⟩ := hrel
    obtain ⟨X, hX⟩ : ∃ X, X = L.drop k := ⟨_, rfl⟩
    have hXl : X.length = n - k := by rw [hX, List.length_drop, HN.out]
    obtain ⟨q, hq⟩ : ∃ q, q = n - k := ⟨_, rfl⟩
    rw [← hq] at hXl
    rw [← hX]
    obtain ⟨t, htt⟩ : ∃ t : ByteArray, t = ⟨X.toArray⟩ := ⟨_, rfl⟩
    have htl : t.data.toList = X := by rw [htt]
    have htq : (t.size : Int) = q := by rw [htt]; simp [ByteArray.size]; omega
    have htq2 : t.size = q := by omega
    rw [← htt]
    have HXD := Lib.hid hX; have HTL := Lib.hid htl; have HQ := Lib.hid hq; have HTQ := Lib.hid htq2; have HTT := Lib.hid htt
    clear hX htl hq htq2 htt
    by_cases hpos : 0 < q
    · have hu64 : used < 64 := by have := HT.out.used; omega
      have hwl : ws.length = 8 := by rw [HT.out.words]; rfl
      have hbl := HT.out.len
      obtain ⟨m, hm⟩ : ∃ m, m = min q (64 - used) := ⟨_, rfl⟩
      have hm1 : m ≤ q := by omega
      have hm2 : used + m ≤ 64 := by omega
      have hm3 : 0 < m := by omega
      have hm4 : m = q ∨ used + m = 64 := by omega
      have HMM := Lib.hid (show Nat.min t.size (64 - used) = m by rw [HTQ.out, hm])
      have c72 := (HP.out.cell 72).trans (hcells_used hwl hbl)
      have u0 : 0 ≤ (used : Int) := by omega
      have u1 : (used : Int) ≤ 64 := by omega
      have u2 : ¬ 64 = used := by omega
      have u3 : ¬ used = 64 := by omega
      have HFIT := Lib.hid (show 8 + used + m ≤ (hcells ws blk used (tk + n)).size by rw [hcells_size hwl hbl]; omega)
      have HWL := Lib.hid hwl; have HBL := Lib.hid hbl; have HM4 := Lib.hid hm4
      clear hm hwl hbl hm4
      have hi1 : (Tryd.prog.info? 5).map (·.size) = some 1 := by kernel_rfl
      have HI1 := Lib.hid hi1
      clear hi1
      go_wp2
      go_region_law ((refine step_copy_strN rfl (.tmp 25) (.tmp 26) _ _ rfl 5 Tryd.underlying77 HI1.out p (8 + used) (64 - used) (64 - used) m rfl t rfl _ _ HP.out HMM.out HFIT.out ?_; intro w9 hw9; have HW9 := Lib.hid hw9; clear hw9))
      obtain ⟨b2, hb2⟩ : ∃ b2, b2 = blk.take used ++ X.take m ++ blk.drop (used + m) := ⟨_, rfl⟩
      have hxm : (X.take m).length = m := by rw [List.length_take, hXl]; exact Nat.min_eq_left hm1
      have HP9 : Hid (Blk w9 p 120 (hcells ws b2 used (tk + n))) := by
        rw [HW9.out, hb2, HTL.out]
        have e := hcells_copy ws blk (X.take m) used used (tk + n) HWL.out HBL.out (by rw [hxm]; omega)
        rw [hxm] at e
        rw [← e]
        exact Blk.setRow_ (show Blk wr.drew p _ _ from HP.out) _
      have HG9 : Hid (w.grownBy w9 (some p)) := by
        rw [HW9.out]
        exact World.grownBy.trans HG.out ((show wr.grownBy wr.drew (some p) from ⟨rfl, rfl, rfl, Nat.le_refl _, fun _ _ _ => rfl⟩).trans (below_sr wr.drew p _))
      have HB2 := Lib.hid hb2; have HXM := Lib.hid hxm
      have HXL := Lib.hid hXl
      clear HW9 hb2 hxm c72 u0 u1 u2 u3 hXl
      have d72 := (HP9.out.cell 72).trans (hcells_used HWL.out (by rw [HB2.out, List.length_append, List.length_append, List.length_take, List.length_drop, HXM.out, HBL.out]; omega))
      have f72 := HP9.out.frozen 72
      by_cases hfull : used + m = 64
      · have hbt : ((used : Int) + m == 64) = true := by simp; omega
        have HF := Lib.hid hfull
        clear hfull
        have hb64 : b2.length = 64 := by rw [HB2.out, List.length_append, List.length_append, List.length_take, List.length_drop, HXM.out, HBL.out]; omega
        obtain ⟨S, hS⟩ : ∃ S, S = sumTo (l ++ L.take k) ((l ++ L.take k).length / 64) := ⟨_, rfl⟩
        have hws : ws = S.row := by rw [HT.out.words, hS]
        have HPA : Hid (Blk (w9.setCell ⟨p, 72, none⟩ (.int .i64 ((used : Int) + m))) p 120 (hcells S.row b2 (used + m) (tk + n))) := by
          have := HP9.out.set_ 72 (.int .i64 (((used + m : Nat)) : Int))
          rw [hcells_setused HWL.out hb64, hws] at this
          exact this
        have HTF : Hid (TookB (l ++ L.take (k + m)) (blockW S b2).row b2 0) := by
          have h3 := HT.out
          rw [hws] at h3
          have := h3.full (m := X.take m) (by rw [HXM.out]; exact HF.out) hS
          rw [HXM.out, ← HB2.out] at this
          rw [take_next HXD.out, ← List.append_assoc]
          exact this
        have HGA := Lib.hid (World.grownBy.trans HG9.out (grown_set w9 p 72 (.int .i64 ((used : Int) + m))))
        have HB64 := Lib.hid hb64
        have hkw := HKW.out.of_block (HGA.out.block _ HKW.out.lt (fun e => HKP.out (by injection e with e; exact e.symm)))
        have HKA := Lib.hid hkw
        clear hws hS hb64 hkw
        go_wp2_with fail
        refine (mix_any p S b2 (used + m) (tk + n) _ HB64.out HPA.out HKA.out).mono ?_; rintro e w10 ⟨rfl, hP10, hG10⟩
        have e72 := (hP10.cell 72).trans (hcells_used rfl HB64.out)
        have f72 := hP10.frozen 72
        have HPB : Hid (Blk (w10.setCell ⟨p, 72, none⟩ (.int .i64 0)) p 120 (hcells (blockW S b2).row b2 0 (tk + n))) := by
          have := hP10.set_ 72 (.int .i64 ((0 : Nat) : Int))
          rw [hcells_setused rfl HB64.out] at this
          exact this
        have HGB := Lib.hid ((HGA.out.trans hG10).trans (grown_set w10 p 72 (.int .i64 0)))
        clear hP10 hG10
        go_wp2
        have hq := HQ.out
        refine ⟨⟨k + m, _, _, _, by omega, by rw [ext_drop HTL.out HXD.out], HTF, HPB, HGB⟩, ?_⟩
        rw [ext_drop HTL.out HXD.out]
        simp only [lenT, HTQ.out, ByteArray.size]
        simp [HN.out]
        omega
      · have hbt : ((used : Int) + m == 64) = false := by simp; omega
        have HF := Lib.hid hfull
        clear hfull
        go_wp2
        have hq := HQ.out
        have hf := HF.out
        have hb64 : b2.length = 64 := by rw [HB2.out, List.length_append, List.length_append, List.length_take, List.length_drop, HXM.out, HBL.out]; omega
        refine ⟨⟨k + m, ws, b2, used + m, by omega, by rw [ext_drop HTL.out HXD.out], ?_, ?_, Lib.hid (World.grownBy.trans HG9.out (grown_set w9 p 72 _))⟩, ?_⟩
        · have := HT.out.few (m := X.take m) (by rw [HXM.out]; omega)
          rw [HXM.out, ← HB2.out] at this
          rw [take_next HXD.out, ← List.append_assoc]
          exact Lib.hid this
        · have := HP9.out.set_ 72 (.int .i64 (((used + m : Nat)) : Int))
          rw [hcells_setused HWL.out hb64] at this
          exact Lib.hid this
        · rw [ext_drop HTL.out HXD.out]
          simp only [lenT, HTQ.out, ByteArray.size]
          simp [HN.out]
          omega
    · have hq0 : q = 0 := by omega
      have hkn : k = n := by have := HQ.out; omega
      have htk : L.take k = L := List.take_of_length_le (by rw [HN.out, hkn]; exact Nat.le_refl _)
      rw [htk] at HT
      have hz : ¬ (0 : Int) < q := by omega
      clear hq0 hkn htk hpos
      go_wp2
      go_end0
      exact ⟨rfl, ⟨ws, blk, used, HT.out, HP.out⟩, HG.out⟩
end Go.Proofs.YtlodcjpoamaemaaDoor
