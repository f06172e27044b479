/- impl.PolicyRead reads the text of a policy that is ok: the policy, and no line is told. -/
import Derived.Test.YtdjgicapbpoigaaGreatDoorCurP
import Derived.Test.YtdjgicapbpoigaaGreatDoorRelA
import Derived.Defers
import Derived.Recover
namespace Go.Proofs.YtdjgicapbpoigaaGreatDoor
open Go.RowKit
set_option linter.unusedSimpArgs false
set_option linter.unusedVariables false

theorem catch_idle (p q : Value) (w : World) :
   CallsD Tryz.prog 39 #[p, q] .returning w fun e u' w' => e = .returned (.tuple #[]) ∧ u' = .returning ∧ w' = w := by
 refine callsD_of_wpS Tryz.func39 rfl fun c₀ cs hu => ?_
 apply wpS_seq
 apply wpS_region
 simp [wpOpsS, go_sem, recoverD, hu, Tryz.ntmps39, Exit.thenS]
 apply wpS_seq
 apply wpS_region
 simp [wpOpsS, go_sem, recoverD, hu, Tryz.ntmps39, Exit.thenS]
 refine wpS_cond (t := false) (by simp [Act.eval, Array.replicate]) ?_
 simp only [Bool.false_eq_true, if_false]
 refine wpS_of_wp (wp_skip ?_)
 cases c₀
 simp_all [bodyPostS, results, Tryz.results39]
abbrev TPolC : TypeId := 35
abbrev TStr : TypeId := 9

theorem own_kind {w w' : World} {base n size : Nat} {e : TypeId} {v : Value} {xs : List Value} (h : w.ownsRow base e size v n xs) (hk : ∀ j cs, Blk w j e cs → Blk w' j e cs) : w'.ownsRow base e size v n xs := by
 refine ⟨h.1, ?_⟩
 rcases h.2 with hn | ⟨g, cap, cur, rfl, hb, hg, rest⟩
 · exact .inl hn
 · exact .inr ⟨g, cap, cur, rfl, hb, hk g cur hg, rest⟩
structure KeepP (pb B : Nat) (w w' : World) : Prop where
 os : w'.os = w.os
 tape : w'.tape = w.tape
 output : w'.output = w.output
 size : w.heap.size ≤ w'.heap.size
 low : ∀ j, j < B → j ≠ pb → w'.heap[j]? = w.heap[j]?
 tests : ∀ j cs, Blk w j TTest cs → Blk w' j TTest cs
theorem KeepP.below {pb B : Nat} {w w' : World} (hb : Below w.heap.size w w') (hB : B ≤ w.heap.size) : KeepP pb B w w' :=
 ⟨hb.os, hb.tape, hb.output, hb.size, fun j hj _ => hb.block j (by omega), fun j cs h => h.below hb h.lt⟩
theorem KeepP.app {pb B n : Nat} {w w' : World} {rv : Value} {xs : List Value} (ho : w.ownsRow B TRulC 4 rv n xs) (hg : w.grownBy w' rv.ownBlock) (hB : B ≤ w.heap.size) : KeepP pb B w w' :=
 ⟨hg.os, hg.tape, hg.output, hg.size, fun j hj _ => hg.block j (by omega) (fun e => by have := (ho.lt j e.symm).1; omega), fun j cs h => h.grown hg (fun e => own_blk_ne ho h (by decide) e.symm)⟩
theorem KeepP.set {pb B i : Nat} {w : World} {v : Value} {cs : Array Value} (hp : Blk w pb TPolC cs) : KeepP pb B w (w.setCell ⟨pb, i, none⟩ v) :=
 ⟨rfl, rfl, rfl, by simp, fun j _ hj => Below.heap_setCell w ⟨pb, i, none⟩ v j hj, fun j cs h => h.far (show j ≠ pb by intro e; subst e; have := h.symm.trans hp; injection this with e1; injection e1 with e2 e3; exact absurd e3 (by decide)) _⟩
theorem cur_tests {w w' : World} {g : Nat} {line : Int} {t : List UInt8} {cs0 : Array Value} (h : Cur w w' g line t) (hc : Blk w g TCur cs0) {e : TypeId} (he : e ≠ TCur) : ∀ j cs, Blk w j e cs → Blk w' j e cs :=
 fun j cs hb => hb.grown h.grown (fun e2 => by cases e2; have := hb.symm.trans hc; injection this with e1; injection e1 with e3 e4; exact he e4)
theorem KeepP.call {pb B g : Nat} {w w' : World} {line : Int} {t : List UInt8} {cs0 : Array Value} (h : Cur w w' g line t) (hc : Blk w g TCur cs0) (hB : B ≤ g) : KeepP pb B w w' :=
 ⟨h.grown.os, h.grown.tape, h.grown.output, h.grown.size, fun j hj _ => h.grown.block j (by have := hc.lt; omega) (by intro e; cases e; omega), cur_tests h hc (by decide)⟩
structure PB (w wr : World) (pb fb sb B : Nat) (ls : List (List UInt8)) (rs : List Rl) (css : List (List Value)) : Prop where
 fault : Blk wr fb 3 #[.int .i64 0]
 rows : Blk wr sb TStr (ls.map fun (l : List UInt8) => Value.string ⟨l.toArray⟩).toArray
 rules : RulesOwn wr B rs css
 below : Below w.heap.size w wr
 size : B ≤ wr.heap.size
 o1 : w.heap.size ≤ pb
 o2 : pb < fb
 o3 : fb < sb
 o4 : sb < B
theorem PB.keep {w wr w' : World} {pb fb sb B : Nat} {ls : List (List UInt8)} {rs : List Rl} {css : List (List Value)} (h : PB w wr pb fb sb B ls rs css) (hk : KeepP pb B wr w') : PB w w' pb fb sb B ls rs css :=
 ⟨(hk.low fb (by have := h.o3; have := h.o4; omega) (by have := h.o2; omega)).trans h.fault, (hk.low sb h.o4 (by have := h.o2; have := h.o3; omega)).trans h.rows, h.rules.imp fun tv n xs ho => own_kind ho hk.tests,
  ⟨hk.os.trans h.below.os, hk.tape.trans h.below.tape, hk.output.trans h.below.output, Nat.le_trans h.below.size hk.size, fun j hj => (hk.low j (by have := h.o1; have := h.o2; have := h.o3; have := h.o4; omega) (by have := h.o1; omega)).trans (h.below.block j hj)⟩,
  Nat.le_trans h.size hk.size, h.o1, h.o2, h.o3, h.o4⟩
def rcells (r : Rl) (tv : Value) : List Value := [.int .i64 r.verdict, .int .i64 r.low, .int .i64 r.high, tv]
theorem rcells_one {r : Rl} {tv : Value} {n : Nat} {xs : List Value} {w : World} {B : Nat} (h : w.ownsRow B TTest 4 tv n xs) : ∀ u ∈ rcells r tv, u.oneCell' = true := by
 intro u hu
 simp [rcells] at hu
 rcases hu with rfl | rfl | rfl | rfl
 · rfl
 · rfl
 · rfl
 · rcases h.2 with ⟨rfl, _⟩ | ⟨g, cap, cur, rfl, _⟩ <;> rfl
def ruT (pb cg k B : Nat) (rv : Value) (r : Rl) (xs : List Value) : Nat → World → Value → Prop
 | 0, _, u => u = .pointer (some ⟨pb, 0, none⟩)
 | 1, _, u => u = rv
 | 2, _, u => u = .pointer (some ⟨cg, 0, none⟩)
 | 3, w, u => ∃ tv, u = .agg #[.int .i64 r.verdict, .int .i64 r.low, .int .i64 r.high, tv] ∧ w.ownsRow B TTest 4 tv r.tests.length (tsR r.tests).flatten
 | 4, w, u => ∃ b tv, u = .slice (some ⟨b, 0, none⟩) 1 1 ∧ Blk w b TRulC (rcells r tv).toArray ∧ w.ownsRow B TTest 4 tv r.tests.length (tsR r.tests).flatten
 | 5, w, u => ∃ tv, w.ownsRow B TRulC 4 u (k + 1) (xs ++ rcells r tv) ∧ w.ownsRow B TTest 4 tv r.tests.length (tsR r.tests).flatten
 | 6, _, u => u = .pointer (some ⟨pb, 0, none⟩)
 | _, _, _ => True
def ruR (i : Nat) (w w' : World) : Prop := (∀ j cs, Blk w j TTest cs → Blk w' j TTest cs) ∧ (i ≠ 5 → ∀ j cs, Blk w j TRulC cs → Blk w' j TRulC cs)
theorem ruR.below {i : Nat} {w w' : World} (h : Below w.heap.size w w') : ruR i w w' := ⟨fun j cs hb => hb.below h hb.lt, fun _ j cs hb => hb.below h hb.lt⟩
theorem line_at {po : Pol} {k : Nat} {r : Rl} (h : po.rules[k]? = some r) : (linesOf po ++ [[]])[k]? = some (ruleLine r) := by
 have hk := (List.getElem?_eq_some_iff.1 h).1
 unfold linesOf
 rw [List.append_assoc, List.getElem?_append_left (by simpa using hk), List.getElem?_map, h]
 rfl
theorem line_else {po : Pol} : (linesOf po ++ [[]])[po.rules.length]? = some (elseLine po.els) := by
 unfold linesOf
 rw [List.append_assoc, List.getElem?_append_right (by simp)]
 simp
theorem line_tail {po : Pol} : (linesOf po ++ [[]])[po.rules.length + 1]? = some [] := by
 unfold linesOf
 rw [List.getElem?_append_right (by simp)]
 simp
theorem rows_cell {w : World} {sb k : Nat} {ls : List (List UInt8)} {l : List UInt8} (h : Blk w sb TStr (ls.map fun (l : List UInt8) => Value.string ⟨l.toArray⟩).toArray) (hl : ls[k]? = some l) : w.cell? ⟨sb, k, none⟩ = some (.string ⟨l.toArray⟩) := by
 rw [h.cell k]
 simp [hl]

set_option maxHeartbeats 8000000 in
theorem PolicyRead_yes (po : Pol) (w : World) (hok : polOkB po = true) (hm : ∃ m : Int, w.cell? ⟨1, 0, none⟩ = some (.int .i64 m)) :
   Calls Tryz.prog 21 #[.string ⟨(polText po).toArray⟩] w fun e w' => ∃ pv, e = .returned (.tuple #[pv, .int .i64 0]) ∧ PolIs w' po pv ∧ Below w.heap.size w w' := by
 have hsh := (polOkB_shape hok).1
 have hlen := (polOkB_shape hok).2
 have HSH := Lib.hid hsh
 obtain ⟨hr8, ⟨he1, he2⟩, hrs⟩ := polShapeB_words hsh
 have HRS := Lib.hid hrs
 obtain ⟨m, hm⟩ := hm
 have h0w : 1 < w.heap.size := World.block_lt_of_cell? w ⟨1, 0, none⟩ hm
 have hT := polText_lines po
 have hLS := split_lines (nl_lines hsh)
 rw [← hT] at hLS
 have hll : (linesOf po).length = po.rules.length + 1 := by simp [linesOf]
 have HLL := Lib.hid hll; have HLS := Lib.hid hLS
 have hidx : decide (0 ≤ Lib.indexByte (polText po) 10) = true := by
   rw [decide_eq_true_eq]
   exact index_has (by unfold polText; simp)
 have hsz : (polText po).length ≤ 900 := hlen
 obtain ⟨tx, htx⟩ : ∃ tx, tx = polText po := ⟨_, rfl⟩
 rw [← htx] at hidx hsz hLS HLS ⊢
 have HTX := Lib.hid htx
 have hszi : (tx.length : Int) ≤ 900 := by omega
 clear htx hT hLS hrs hlen hok hsh
 have hmf : ∀ (fn : Fn) (first cap : Array Value) (w : World), (Instr.makeFunc fn first cap).run Tryz.prog w = .ok (.func fn first cap) w := fun _ _ _ _ => rfl
 obtain ⟨W2, hW2⟩ : ∃ W, W = (w.alloc (.cells #[.slice none 0 0, .int .i64 0] TPolC)).alloc (.cells #[.int .i64 0] 3) := ⟨_, rfl⟩
 have bW : Hid (Below w.heap.size w W2) := by rw [hW2]; exact Lib.hid (by go_grown)
 have KP : Hid (Blk W2 w.heap.size TPolC #[.slice none 0 0, .int .i64 0]) := by rw [hW2]; exact Lib.hid ((Blk.new _ _ _).alloc _)
 have KF : Hid (Blk W2 (w.heap.size + 1) 3 #[.int .i64 0]) := by
   rw [hW2]
   have := Blk.new (w.alloc (.cells #[.slice none 0 0, .int .i64 0] TPolC)) 3 #[.int .i64 0]
   simpa using Lib.hid this
 have hm2 : W2.cell? ⟨1, 0, none⟩ = some (.int .i64 m) := (bW.out.cell (p := ⟨1, 0, none⟩) h0w).trans hm
 have HW2 := Lib.hid hW2
 clear hW2
 go_enter_defers Tryz.func21, Tryz.ntmps21
 go_wp2_with fail
 rw [← HW2.out]
 refine (Go.Proofs.Tryz.strings_Contains_one _ 10 _).mono ?_; rintro e w3 ⟨rfl, rfl⟩
 rw [show decide (0 ≤ Lib.indexByte (⟨tx.toArray⟩ : ByteArray).data.toList 10) = true from hidx]
 go_wp2_with fail
 refine (Go.Proofs.Tryz.strings_Split _ ⟨#[10]⟩ m _ (by show tx.toArray.size < _; simp; omega) hm2 (by decide)).mono ?_; rintro e w4 ⟨rfl, hw4⟩
 rw [HLS.out.1, HLS.out.2] at hw4
 rw [HLS.out.1, HLL.out]
 obtain ⟨N, hN⟩ : ∃ N, N = po.rules.length := ⟨_, rfl⟩
 rw [← hN] at hr8 ⊢
 have HN := Lib.hid hN
 obtain ⟨sb, hsb⟩ : ∃ sb, sb = w3.heap.size := ⟨_, rfl⟩
 have KS : Hid (Blk w4 sb TStr ((linesOf po ++ [[]]).map fun (l : List UInt8) => Value.string ⟨l.toArray⟩).toArray) := by
   rw [hw4, hsb, List.map_map]
   exact Lib.hid (Blk.new _ _ _)
 have b4 : Below w3.heap.size w3 w4 := by rw [hw4]; go_grown
 have KP4 := Lib.hid (KP.out.below b4 KP.out.lt); have KF4 := Lib.hid (KF.out.below b4 KF.out.lt); have B4 := Lib.hid (below_then bW.out b4)
 have hz4 : sb + 1 ≤ w4.heap.size := KS.out.lt
 have hfs : w.heap.size + 1 < sb := by rw [hsb]; exact KF.out.lt
 rw [← hsb]
 have HPB : Hid (PB w w4 w.heap.size (w.heap.size + 1) sb (sb + 1) (linesOf po ++ [[]]) (po.rules.take 0) []) := Lib.hid ⟨KF4.out, KS.out, by rw [List.take_zero]; exact RulesOwn.nil _ _, B4.out, hz4, Nat.le_refl _, Nat.lt_succ_self _, hfs, Nat.lt_succ_self _⟩
 have hlast : (N : Int) + 1 + 1 - 2 = N := by omega
 clear hN hw4 hsb b4 hm2 hm hidx KS KF KP KF4 B4 bW HW2 HLS
 go_wp2_with fail
 go_loopw [30] (fun i wr => ∃ (k : Nat) (rv : Value) (css : List (List Value)), k ≤ N ∧ i = .int .i64 k ∧ Hid (PB w wr w.heap.size (w.heap.size + 1) sb (sb + 1) (linesOf po ++ [[]]) (po.rules.take k) css) ∧ Hid (Blk wr w.heap.size TPolC #[rv, .int .i64 0]) ∧ Hid (wr.ownsRow (sb + 1) TRulC 4 rv k css.flatten)) (fun i _ => N - (intOf i).toNat)
 case atStart => exact ⟨0, _, [], by omega, rfl, HPB, KP4, Lib.hid (by have := World.ownsRow_nil w4 (sb + 1) TRulC 4; simpa using this)⟩
 case round =>
   obtain ⟨k, rv, css, hk, rfl, HP, HPO, HOW⟩ := hrel
   clear HPB KP4
   by_cases hlt : k < N
   · have hki : (k : Int) < N := by omega
     have hk8 : (k : Int) < 8 := by omega
     obtain ⟨r, hr⟩ : ∃ r, po.rules[k]? = some r := ⟨_, List.getElem?_eq_getElem (by rw [← HN.out]; exact hlt)⟩
     have HR := Lib.hid hr
     have c0 := rows_cell HP.out.rows (line_at hr)
     obtain ⟨cg, hcg⟩ : ∃ cg, cg = wr.heap.size := ⟨_, rfl⟩
     obtain ⟨W1, hW1⟩ : ∃ W, W = wr.alloc (.cells #[.string ⟨(ruleLine r).toArray⟩, .int .i64 ((k : Int) + 1)] TCur) := ⟨_, rfl⟩
     have b1 : Below wr.heap.size wr W1 := by rw [hW1]; go_grown
     have KC := Lib.hid (show Blk W1 cg TCur #[.string ⟨(ruleLine r).toArray⟩, .int .i64 ((k : Int) + 1)] by rw [hW1, hcg]; exact Blk.new _ _ _)
     have HP1 := Lib.hid (HP.out.keep (KeepP.below (pb := w.heap.size) b1 HP.out.size)); have HPO1 := Lib.hid (HPO.out.below b1 HPO.out.lt); have HOW1 := Lib.hid (own_below HOW.out b1)
     have hcgB : sb + 1 ≤ cg := by rw [hcg]; exact HP.out.size
     have HW1 := Lib.hid hW1
     have HCG := Lib.hid hcg
     have HRL := Lib.hid (show (ruleLine r).length ≤ 2000 by have := line_len (List.mem_of_getElem? hr); rw [← HTX.out] at this; omega)
     obtain ⟨A, c, rfl⟩ : ∃ A c, rv = .slice A k c := by
       rcases HOW.out.2 with ⟨rfl, h0⟩ | ⟨g', cap, cur, rfl, _⟩
       · exact ⟨none, 0, by rw [h0]⟩
       · exact ⟨_, _, rfl⟩
     clear hr b1 hcg hW1 HP HPO HOW
     go_wp2_with (rw [← HW1.out, ← HCG.out])
     refine (need_yes _ _).mono ?_; rintro e wn ⟨rfl, rfl⟩
     go_wp2_with fail
     clear c0
     refine wp_region_rel (ruT w.heap.size cg k (sb + 1) (.slice A k c) r css.flatten) (fun j => if j = 4 then some 5 else none) (fun L _ w' => PB w w' w.heap.size (w.heap.size + 1) sb (sb + 1) (linesOf po ++ [[]]) (po.rules.take k) css ∧ (L 7 = false → Blk w' w.heap.size TPolC #[.slice A k c, .int .i64 0]) ∧ (L 5 = false → w'.ownsRow (sb + 1) TRulC 4 (.slice A k c) k css.flatten) ∧ (L 3 = false → Blk w' cg TCur #[.string ⟨(ruleLine r).toArray⟩, .int .i64 ((k : Int) + 1)]) ∧ (L 7 = true → ∃ rv' tv, Blk w' w.heap.size TPolC #[rv', .int .i64 0] ∧ w'.ownsRow (sb + 1) TRulC 4 rv' (k + 1) (css.flatten ++ rcells r tv) ∧ w'.ownsRow (sb + 1) TTest 4 tv r.tests.length (tsR r.tests).flatten)) (fun i w w' => ruR i w w') (by kernel_rfl) (by kernel_rfl) ⟨HP1.out.keep (KeepP.below (Below.refl _ _).drew HP1.out.size), fun _ => HPO1.out, fun _ => HOW1.out, fun _ => KC.out, fun h => (by cases h)⟩ ?_ ?_
     · intro i j wa wb u hji hcj hwj hR hT
       match j, hji, hcj, hwj, hT with
       | 0, _, _, _, h => exact h
       | 1, _, _, _, h => exact h
       | 2, _, _, _, h => exact h
       | 3, _, _, _, h =>
         obtain ⟨tv, e, ho⟩ := h
         exact ⟨tv, e, own_kind ho hR.1⟩
       | 4, _, h2, _, h =>
         obtain ⟨b, tv, e, hb, ho⟩ := h
         exact ⟨b, tv, e, hR.2 (fun e5 => h2 (by rw [e5]; rfl)) _ _ hb, own_kind ho hR.1⟩
       | 5, h1, _, _, h =>
         obtain ⟨tv, ho, ht⟩ := h
         exact ⟨tv, own_kind ho (hR.2 (fun e5 => h1 e5.symm)), own_kind ht hR.1⟩
       | 6, _, _, _, h => exact h
       | (m + 7), _, _, _, h => exact trivial
     refine wpRel_step [] (by kernel_rfl) (fun L kk w9 vals hk' hw hun hcl hdl hT => ?_) ?_
     · have HW := Lib.hid hw; have HUN := Lib.hid hun; have HCL := Lib.hid hcl; have HDL := Lib.hid hdl
       clear hw hun hcl hdl hT
       simp only [fillR, Act.put, List.setIfInBounds_toArray, List.set_cons_succ, List.set_cons_zero]
       go_wp2
       exact ⟨_, rfl, rfl, ⟨HW.out.1, fun h => HW.out.2.1 ((putL_ne (by decide)).symm.trans h), fun h => HW.out.2.2.1 ((putL_ne (by decide)).symm.trans h), fun h => HW.out.2.2.2.1 ((putL_ne (by decide)).symm.trans h), fun h => HW.out.2.2.2.2 ((putL_ne (by decide)).symm.trans h)⟩, ruR.below (Below.refl _ _), fun _ => rfl⟩
     refine wpRel_step [45] (by kernel_rfl) (fun L kk w9 vals hk' hw hun hcl hdl hT => ?_) ?_
     · have t0 := hT 0 45 (by kernel_rfl) (.inl rfl)
       have HW := Lib.hid hw; have HUN := Lib.hid hun; have HCL := Lib.hid hcl; have HDL := Lib.hid hdl
       clear hw hun hcl hdl hT
       simp only [fillR, Act.put, List.setIfInBounds_toArray, List.set_cons_succ, List.set_cons_zero]
       rw [show vals 45 = Value.pointer (some ⟨w.heap.size, 0, none⟩) from t0]
       clear t0
       have y0 := (show _ = some (Value.slice A k c) from (HW.out.2.1 (HCL.out 7 (by kernel_rfl))).cell 0)
       go_wp2
       exact ⟨_, rfl, rfl, ⟨HW.out.1, fun h => HW.out.2.1 ((putL_ne (by decide)).symm.trans h), fun h => HW.out.2.2.1 ((putL_ne (by decide)).symm.trans h), fun h => HW.out.2.2.2.1 ((putL_ne (by decide)).symm.trans h), fun h => HW.out.2.2.2.2 ((putL_ne (by decide)).symm.trans h)⟩, ruR.below (Below.refl _ _), fun _ => rfl⟩
     refine wpRel_step [] (by kernel_rfl) (fun L kk w9 vals hk' hw hun hcl hdl hT => ?_) ?_
     · have HW := Lib.hid hw; have HUN := Lib.hid hun; have HCL := Lib.hid hcl; have HDL := Lib.hid hdl
       clear hw hun hcl hdl hT
       simp only [fillR, Act.put, List.setIfInBounds_toArray, List.set_cons_succ, List.set_cons_zero]
       go_wp2
       exact ⟨_, rfl, rfl, ⟨HW.out.1, fun h => HW.out.2.1 ((putL_ne (by decide)).symm.trans h), fun h => HW.out.2.2.1 ((putL_ne (by decide)).symm.trans h), fun h => HW.out.2.2.2.1 ((putL_ne (by decide)).symm.trans h), fun h => HW.out.2.2.2.2 ((putL_ne (by decide)).symm.trans h)⟩, ruR.below (Below.refl _ _), fun _ => rfl⟩
     refine wpRel_step [47] (by kernel_rfl) (fun L kk w9 vals hk' hw hun hcl hdl hT => ?_) ?_
     · have t0 := hT 2 47 (by kernel_rfl) (.inl rfl)
       have HW := Lib.hid hw; have HUN := Lib.hid hun; have HCL := Lib.hid hcl; have HDL := Lib.hid hdl
       clear hw hun hcl hdl hT
       simp only [fillR, Act.put, List.setIfInBounds_toArray, List.set_cons_succ, List.set_cons_zero]
       rw [show vals 47 = Value.pointer (some ⟨cg, 0, none⟩) from t0]
       clear t0
       have h5 : L 5 = false := HCL.out 5 (by kernel_rfl)
       have h7 : L 7 = false := HCL.out 7 (by kernel_rfl)
       have KC9 := Lib.hid (HW.out.2.2.2.1 HUN.out); have PO9 := Lib.hid (HW.out.2.1 h7); have OW9 := Lib.hid (HW.out.2.2.1 h5)
       go_wp2_with fail
       refine (rule_yes cg ((k : Int) + 1) r w9 KC9.out (HRS.out r (List.mem_of_getElem? HR.out)) HRL.out).mono ?_; rintro e w10 ⟨tv, rfl, hc10, ho10⟩
       have HC10 := Lib.hid hc10; have HO10 := Lib.hid (own_base ho10 HW.out.1.size)
       clear hc10 ho10
       go_wp2
       exact ⟨_, rfl, rfl, ⟨HW.out.1.keep (KeepP.call HC10.out KC9.out hcgB), fun _ => cur_tests HC10.out KC9.out (by decide) _ _ PO9.out, fun _ => own_kind OW9.out (cur_tests HC10.out KC9.out (by decide)), fun h => (by simp [putL] at h), fun h => (by rw [putL_ne (by decide), h7] at h; cases h)⟩, ⟨cur_tests HC10.out KC9.out (by decide), fun _ => cur_tests HC10.out KC9.out (by decide)⟩, fun _ => ⟨tv, rfl, HO10.out⟩⟩
     refine wpRel_step [48] (by kernel_rfl) (fun L kk w9 vals hk' hw hun hcl hdl hT => ?_) ?_
     · have t0 := hT 3 48 (by kernel_rfl) (.inl rfl)
       have HW := Lib.hid hw; have HUN := Lib.hid hun; have HCL := Lib.hid hcl; have HDL := Lib.hid hdl
       clear hw hun hcl hdl hT
       simp only [fillR, Act.put, List.setIfInBounds_toArray, List.set_cons_succ, List.set_cons_zero]
       obtain ⟨tv, e3, ho3⟩ := t0
       have HO3 := Lib.hid ho3
       rw [e3]
       clear e3 ho3
       have h3 : L 3 = true := HDL.out 3 (by kernel_rfl)
       have h5 : L 5 = false := HCL.out 5 (by kernel_rfl)
       have h7 : L 7 = false := HCL.out 7 (by kernel_rfl)
       have PO9 := Lib.hid (HW.out.2.1 h7); have OW9 := Lib.hid (HW.out.2.2.1 h5)
       have hb : Below w9.heap.size w9 (w9.alloc (.cells (rcells r tv).toArray TRulC)) := by go_grown
       go_wp2
       exact ⟨_, rfl, rfl, ⟨HW.out.1.keep (KeepP.below hb HW.out.1.size), fun _ => PO9.out.below hb PO9.out.lt, fun _ => OW9.out.alloc _, fun h => (by rw [putL_ne (by decide), h3] at h; cases h), fun h => (by rw [putL_ne (by decide), h7] at h; cases h)⟩, ruR.below hb, fun _ => ⟨w9.heap.size, tv, rfl, Blk.new _ _ _, HO3.out.alloc _⟩⟩
     refine wpRel_step [46, 49] (by kernel_rfl) (fun L kk w9 vals hk' hw hun hcl hdl hT => ?_) ?_
     · have t0 := hT 1 46 (by kernel_rfl) (.inl rfl)
       have t1 := hT 4 49 (by kernel_rfl) (.inr rfl)
       have HW := Lib.hid hw; have HUN := Lib.hid hun; have HCL := Lib.hid hcl; have HDL := Lib.hid hdl
       clear hw hun hcl hdl hT
       simp only [fillR, Act.put, List.setIfInBounds_toArray, List.set_cons_succ, List.set_cons_zero]
       obtain ⟨b4, tv, e4, hb4, ho4⟩ := t1
       have HB4 := Lib.hid hb4; have HO4 := Lib.hid ho4
       clear hb4 ho4
       rw [e4]
       rw [show vals 46 = Value.slice A k c from t0]
       clear t0
       have h3 : L 3 = true := HDL.out 3 (by kernel_rfl)
       have h7 : L 7 = false := HCL.out 7 (by kernel_rfl)
       have PO9 := Lib.hid (HW.out.2.1 h7); have OW9 := Lib.hid (HW.out.2.2.1 HUN.out)
       have hzz := HW.out.1.size
       obtain ⟨i0, hi0, hz0, hz1, hz2⟩ := info_parts info_RuleM
       go_wp2_with (at_builtin; go_must (refine wpList_append_own _ rfl (.tmp 46) (.tmp 49) _ rfl (sb + 1) TRulC i0 _ 4 48 Tryz.underlying33 hi0 hz0 hz1 hz2 rfl (by omega) (.slice A k c) k css.flatten rfl OW9.out ⟨b4, 0, none⟩ 1 1 (rcells r tv) rfl rfl (blk_flatC HB4.out) (rcells_one HO4.out) (by unfold maxLen; omega) (by omega) (by omega) ?_); intro v7 w7 hown7 hg7 _; have HO7 := Lib.hid hown7; have HG7 := Lib.hid hg7; clear hown7 hg7)
       have hkp : KeepP w.heap.size (sb + 1) w9 w7 := KeepP.app OW9.out HG7.out hzz
       exact ⟨_, rfl, rfl, ⟨HW.out.1.keep hkp, fun _ => PO9.out.grown HG7.out (fun e => own_blk_ne OW9.out PO9.out (by decide) e.symm), fun h => (by simp [putL] at h), fun h => (by rw [putL_ne (by decide), h3] at h; cases h), fun h => (by rw [putL_ne (by decide), h7] at h; cases h)⟩, ⟨hkp.tests, fun h => absurd rfl h⟩, fun _ => ⟨tv, HO7.out, own_kind HO4.out hkp.tests⟩⟩
     refine wpRel_step [] (by kernel_rfl) (fun L kk w9 vals hk' hw hun hcl hdl hT => ?_) ?_
     · have HW := Lib.hid hw; have HUN := Lib.hid hun; have HCL := Lib.hid hcl; have HDL := Lib.hid hdl
       clear hw hun hcl hdl hT
       simp only [fillR, Act.put, List.setIfInBounds_toArray, List.set_cons_succ, List.set_cons_zero]
       go_wp2
       exact ⟨_, rfl, rfl, ⟨HW.out.1, fun h => HW.out.2.1 ((putL_ne (by decide)).symm.trans h), fun h => HW.out.2.2.1 ((putL_ne (by decide)).symm.trans h), fun h => HW.out.2.2.2.1 ((putL_ne (by decide)).symm.trans h), fun h => HW.out.2.2.2.2 ((putL_ne (by decide)).symm.trans h)⟩, ruR.below (Below.refl _ _), fun _ => rfl⟩
     refine wpRel_step [51, 50] (by kernel_rfl) (fun L kk w9 vals hk' hw hun hcl hdl hT => ?_) ?_
     · have t0 := hT 6 51 (by kernel_rfl) (.inl rfl)
       have t1 := hT 5 50 (by kernel_rfl) (.inl rfl)
       have HW := Lib.hid hw; have HUN := Lib.hid hun; have HCL := Lib.hid hcl; have HDL := Lib.hid hdl
       clear hw hun hcl hdl hT
       simp only [fillR, Act.put, List.setIfInBounds_toArray, List.set_cons_succ, List.set_cons_zero]
       obtain ⟨tv, ho5, ht5⟩ := t1
       have HT5 := Lib.hid ho5; have HTT := Lib.hid ht5
       clear ho5 ht5
       obtain ⟨u5, hu5⟩ : ∃ u, u = vals 50 := ⟨_, rfl⟩
       rw [← hu5] at HT5 ⊢
       clear hu5
       obtain ⟨b5, c5, rfl, hb5, hb5'⟩ := HT5.out.form (by omega)
       rw [show vals 51 = Value.pointer (some ⟨w.heap.size, 0, none⟩) from t0]
       clear t0
       have h3 : L 3 = true := HDL.out 3 (by kernel_rfl)
       have h5 : L 5 = true := HDL.out 5 (by kernel_rfl)
       have PO9 := Lib.hid (HW.out.2.1 HUN.out)
       have y0 := (show _ = some (Value.slice A k c) from PO9.out.cell 0); have q0 := PO9.out.frozen 0
       have hkp : KeepP w.heap.size (sb + 1) w9 (w9.setCell ⟨w.heap.size, 0, none⟩ (.slice (some ⟨b5, 0, none⟩) (k + 1) c5)) := KeepP.set PO9.out
       have hrul : ∀ j cs, Blk w9 j TRulC cs → Blk (w9.setCell ⟨w.heap.size, 0, none⟩ (.slice (some ⟨b5, 0, none⟩) (k + 1) c5)) j TRulC cs := fun j cs h => h.far (show j ≠ w.heap.size by intro e; subst e; have := h.symm.trans PO9.out; injection this with e1; injection e1 with e2 e3; exact absurd e3 (by decide)) _
       have PO10 := Lib.hid (PO9.out.set_ 0 (.slice (some ⟨b5, 0, none⟩) (k + 1) c5))
       go_wp2
       exact ⟨undef, rfl, rfl, ⟨HW.out.1.keep hkp, fun h => (by simp [putL] at h), fun h => (by rw [putL_ne (by decide), h5] at h; cases h), fun h => (by rw [putL_ne (by decide), h3] at h; cases h), fun _ => ⟨_, tv, PO10.out, own_kind HT5.out hrul, own_kind HTT.out hkp.tests⟩⟩, ⟨hkp.tests, fun _ => hrul⟩, fun h => absurd rfl h⟩
     refine wpRel_end [45, 46, 47, 48, 49, 50, 51] (by kernel_rfl) (fun L w9 vals hl hw hT => ?_)
     obtain ⟨rv', tv, hp9, ho9, ht9⟩ := hw.2.2.2.2 (hl 7 (by decide))
     have HP9 := Lib.hid (show PB w w9 w.heap.size (w.heap.size + 1) sb (sb + 1) (linesOf po ++ [[]]) (po.rules.take (k + 1)) (css ++ [rcells r tv]) from
       { hw.1 with rules := by rw [List.take_add_one, HR.out]; exact hw.1.rules.snoc ⟨tv, rfl, ht9⟩ })
     have HPO9 := Lib.hid hp9; have HOW9 := Lib.hid (show w9.ownsRow (sb + 1) TRulC 4 rv' (k + 1) (css ++ [rcells r tv]).flatten by simpa using ho9)
     clear hl hw hT hp9 ho9 ht9
     simp only [fillR, Act.put, List.setIfInBounds_toArray, List.set_cons_succ, List.set_cons_zero]
     go_wp2
     exact ⟨⟨k + 1, rv', css ++ [rcells r tv], by omega, by go_num, HP9, HPO9, HOW9⟩, by simp [intOf]; omega⟩
   · obtain rfl : k = N := by omega
     have hki : ¬ (k : Int) < k := by omega
     have c0 := rows_cell HP.out.rows (show (linesOf po ++ [[]])[k]? = some (elseLine po.els) by rw [HN.out]; exact line_else)
     have c1 := rows_cell HP.out.rows (show (linesOf po ++ [[]])[k + 1]? = some [] by rw [HN.out]; exact line_tail)
     obtain ⟨cg, hcg⟩ : ∃ cg, cg = wr.heap.size := ⟨_, rfl⟩
     obtain ⟨W1, hW1⟩ : ∃ W, W = wr.alloc (.cells #[.string ⟨(elseLine po.els).toArray⟩, .int .i64 ((k : Int) + 1)] TCur) := ⟨_, rfl⟩
     have b1 : Below wr.heap.size wr W1 := by rw [hW1]; go_grown
     have KC := Lib.hid (show Blk W1 cg TCur #[.string ⟨(elseLine po.els).toArray⟩, .int .i64 ((k : Int) + 1)] by rw [hW1, hcg]; exact Blk.new _ _ _)
     have HP1 := Lib.hid (HP.out.keep (KeepP.below (pb := w.heap.size) b1 HP.out.size)); have HPO1 := Lib.hid (HPO.out.below b1 HPO.out.lt); have HOW1 := Lib.hid (own_below HOW.out b1)
     have hcgB : sb + 1 ≤ cg := by rw [hcg]; exact HP.out.size
     have HW1 := Lib.hid hW1
     have HCG := Lib.hid hcg
     obtain ⟨A, c, rfl⟩ : ∃ A c, rv = .slice A k c := by
       rcases HOW.out.2 with ⟨rfl, h0⟩ | ⟨g', cap, cur, rfl, _⟩
       · exact ⟨none, 0, by rw [h0]⟩
       · exact ⟨_, _, rfl⟩
     clear b1 hcg hW1 HP HPO HOW c1
     go_wp2_with (rw [← HW1.out, ← HCG.out])
     clear c0
     refine (other_yes cg _ po.els W1 KC.out ⟨he1, he2⟩).mono ?_; rintro e w5 ⟨rfl, hc5⟩
     have HP5 := Lib.hid (HP1.out.keep (KeepP.call hc5 KC.out hcgB)); have HPO5 := Lib.hid (cur_tests hc5 KC.out (by decide) _ _ HPO1.out); have HOW5 := Lib.hid (own_kind HOW1.out (cur_tests hc5 KC.out (by decide)))
     clear hc5
     have y0 := (show w5.cell? ⟨w.heap.size, 0, none⟩ = some (Value.slice A k c) from HPO5.out.cell 0); have y1 := (show w5.cell? ⟨w.heap.size, 1, none⟩ = some (Value.int .i64 0) from HPO5.out.cell 1); have q1 := HPO5.out.frozen 1
     obtain ⟨W6, hW6⟩ : ∃ W, W = w5.setCell ⟨w.heap.size, 1, none⟩ (.int .i64 po.els) := ⟨_, rfl⟩
     have HP6 : Hid (PB w W6 w.heap.size (w.heap.size + 1) sb (sb + 1) (linesOf po ++ [[]]) (po.rules.take k) css) := by rw [hW6]; exact Lib.hid (HP5.out.keep (KeepP.set HPO5.out))
     have HPO6 : Hid (Blk W6 w.heap.size TPolC #[.slice A k c, .int .i64 po.els]) := by rw [hW6]; exact Lib.hid (HPO5.out.set_ 1 _)
     have HOW6 : Hid (W6.ownsRow (sb + 1) TRulC 4 (.slice A k c) k css.flatten) := by
       rw [hW6]
       exact Lib.hid (own_kind HOW5.out fun j cs h => h.far (show j ≠ w.heap.size by intro e; subst e; have := h.symm.trans HPO5.out; injection this with e1; injection e1 with e2 e3; exact absurd e3 (by decide)) _)
     have c1 := rows_cell HP6.out.rows (show (linesOf po ++ [[]])[k + 1]? = some [] by rw [HN.out]; exact line_tail)
     have c1w : (w5.setCell ⟨w.heap.size, 1, none⟩ (.int .i64 po.els)).cell? ⟨sb, k + 1, none⟩ = some (.string ⟨#[]⟩) := by rw [← hW6]; exact c1
     have c1v : w5.cell? ⟨sb, k + 1, none⟩ = some (.string ⟨#[]⟩) := rows_cell HP5.out.rows (show (linesOf po ++ [[]])[k + 1]? = some [] by rw [HN.out]; exact line_tail)
     have HW6 := Lib.hid hW6
     obtain ⟨W7, hW7⟩ : ∃ W, W = W6.alloc (.cells #[.string ⟨#[]⟩, .int .i64 ((k : Int) + 2)] TCur) := ⟨_, rfl⟩
     have b7 : Below W6.heap.size W6 W7 := by rw [hW7]; go_grown
     have hs6 : W6.heap.size = w5.heap.size := by rw [hW6]; simp
     have x7 : W7.cell? ⟨w5.heap.size, 0, none⟩ = some (.string ⟨#[]⟩) := by
       rw [← hs6, hW7]
       exact (Blk.new W6 TCur #[.string ⟨#[]⟩, .int .i64 ((k : Int) + 2)]).cell 0
     have HP7 := Lib.hid (HP6.out.keep (KeepP.below (pb := w.heap.size) b7 HP6.out.size)); have HPO7 := Lib.hid (HPO6.out.below b7 HPO6.out.lt); have HOW7 := Lib.hid (own_below HOW6.out b7)
     have HW7 := Lib.hid hW7
     clear hW6 hW7 b7 c1 hs6
     go_wp2_with (rw [← HW6.out, ← HW7.out])
     clear c1w c1v y0 y1 q1
     refine (doneC_any ⟨#[]⟩ w5.heap.size 0 W7 x7).mono ?_; rintro e w8 ⟨rfl, rfl⟩
     go_wp2_with fail
     refine (need_yes _ _).mono ?_; rintro e wn ⟨rfl, rfl⟩
     have y0 := (show W7.cell? ⟨w.heap.size, 0, none⟩ = some (Value.slice A k c) from HPO7.out.cell 0); have y1 := (show W7.cell? ⟨w.heap.size, 1, none⟩ = some (Value.int .i64 po.els) from HPO7.out.cell 1); have q0 := HPO7.out.frozen 0; have q1 := HPO7.out.frozen 1
     have y2 := (show W7.cell? ⟨w.heap.size + 1, 0, none⟩ = some (Value.int .i64 0) from HP7.out.fault.cell 0); have q2 := HP7.out.fault.frozen 0
     obtain ⟨W8, hW8⟩ : ∃ W, W = ((W7.setCell ⟨w.heap.size, 0, none⟩ (.slice A k c)).setCell ⟨w.heap.size, 1, none⟩ (.int .i64 po.els)).setCell ⟨w.heap.size + 1, 0, none⟩ (.int .i64 0) := ⟨_, rfl⟩

     have HFIN : Hid (PolIs W8 po (.agg #[.slice A k c, .int .i64 po.els]) ∧ Below w.heap.size w W8) := by
       have hother : ∀ (e : TypeId), e ≠ TPolC → e ≠ 3 → ∀ j cs, Blk W7 j e cs → Blk W8 j e cs := fun e he hei j cs h => by
         have h1 : j ≠ w.heap.size := by intro e2; subst e2; have := h.symm.trans HPO7.out; injection this with e3; injection e3 with e4 e5; exact he e5
         have h2 : j ≠ w.heap.size + 1 := by intro e2; subst e2; have := h.symm.trans HP7.out.fault; injection this with e3; injection e3 with e4 e5; exact hei e5
         rw [hW8]
         exact ((h.far (p := ⟨w.heap.size, 0, none⟩) h1 _).far (p := ⟨w.heap.size, 1, none⟩) h1 _).far (p := ⟨w.heap.size + 1, 0, none⟩) h2 _
       have ho := own_kind HOW7.out (hother TRulC (by decide) (by decide))
       have hr := HP7.out.rules.imp (w' := W8) (B' := sb + 1) fun tv n xs h => own_kind h (hother TTest (by decide) (by decide))
       rw [HN.out, List.take_length] at hr
       obtain ⟨A', n', c', e', hA'⟩ := SlA.of_own ho (hr.1.trans HN.out.symm) hr.are.rows
       obtain ⟨rfl, rfl, rfl⟩ : A = A' ∧ k = n' ∧ c = c' := by simpa using e'
       refine Lib.hid ⟨⟨_, css, rfl, ⟨_, _, _, rfl, hA'⟩, hr.are⟩, ?_⟩
       rw [hW8]
       exact ((HP7.out.below.setCell (p := ⟨w.heap.size, 0, none⟩) (Nat.le_refl _) _).setCell (p := ⟨w.heap.size, 1, none⟩) (Nat.le_refl _) _).setCell (p := ⟨w.heap.size + 1, 0, none⟩) (Nat.le_succ _) _
     have KP8 : Hid (Blk W8 w.heap.size TPolC #[.slice A k c, .int .i64 po.els]) := by rw [hW8]; exact Lib.hid (((HPO7.out.set_ 0 _).set_ 1 _).far (p := ⟨w.heap.size + 1, 0, none⟩) (show w.heap.size ≠ w.heap.size + 1 by omega) _)
     have KF8 : Hid (Blk W8 (w.heap.size + 1) 3 #[.int .i64 0]) := by rw [hW8]; exact Lib.hid (((HP7.out.fault.far (p := ⟨w.heap.size, 0, none⟩) (show w.heap.size + 1 ≠ w.heap.size by omega) _).far (p := ⟨w.heap.size, 1, none⟩) (show w.heap.size + 1 ≠ w.heap.size by omega) _).set_ 0 _)
     have HW8 := Lib.hid hW8
     clear hW8
     go_wp2
     refine leaves_cons (f := 39) (args := #[.pointer (some ⟨w.heap.size, 0, none⟩), .pointer (some ⟨w.heap.size + 1, 0, none⟩)]) (by simp) (by simp [go_sem]) ?_
     refine (catch_idle _ _ _).mono ?_
     rintro e u' w'' ⟨rfl, rfl, rfl⟩
     rw [← HW8.out]
     clear y0 y1 y2 q0 q1 q2 x7
     have y0 := (show W8.cell? ⟨w.heap.size, 0, none⟩ = some (Value.slice A k c) from KP8.out.cell 0); have y1 := (show W8.cell? ⟨w.heap.size, 1, none⟩ = some (Value.int .i64 po.els) from KP8.out.cell 1)
     have y2 := (show W8.cell? ⟨w.heap.size + 1, 0, none⟩ = some (Value.int .i64 0) from KF8.out.cell 0)
     simp [Leaves, settle, results, Tryz.results21, go_sem, y0, y1, y2]
     exact HFIN.out
end Go.Proofs.YtdjgicapbpoigaaGreatDoor
