/- How impl lays the points of a graph: blocksOf links a block for each point. -/
import Derived.Test.YtoibocaaeimplaaDoorBlk
import Derived.Deep.RegionHeld3
namespace Go.Proofs.YtoibocaaeimplaaDoor
open Go.RowKit
set_option linter.unusedSimpArgs false
set_option linter.unusedVariables false

theorem info_bkp : (Tryd.prog.info? 53).map (fun i => (i.zero, i.size, i.bytes)) = some (some (.pointer none), 1, 8) := by kernel_rfl
theorem wayV_more {hs : List Nat} {p : Pt} {k : Int} (x : Nat) (h : p.op ≠ 0 → k.toNat < hs.length) : wayV (hs ++ [x]) p k = wayV hs p k := by
  unfold wayV
  split
  · rfl
  · rename_i h0
    rw [List.getElem?_append_left (h h0)]
theorem Blks.snoc {w : World} {base x s : Nat} {g : List Pt} {hs ss : List Nat} {ys ns : List Bool} {p : Pt} {yf nf : Bool} (h : Blks w base g hs ss ys ns) (hg : graphOk g) (hx : x ∉ hs) (hb : base ≤ x) (hp : g[hs.length]? = some p)
    (hk : Blk w x 83 (bkCells p s (wayV hs p p.yes) (wayV hs p p.no) yf nf)) : Blks w base g (hs ++ [x]) (ss ++ [s]) (ys ++ [yf]) (ns ++ [nf]) := by
  refine ⟨by simp [h.sl], by simp [h.yl], by simp [h.nl], ?_, ?_, ?_⟩
  · rw [List.nodup_append]
    exact ⟨h.nd, by simp, fun a ha b hb e => by simp at hb; subst hb; subst e; exact hx ha⟩
  · intro y hy
    rcases List.mem_append.1 hy with h1 | h1
    · exact h.low y h1
    · simp at h1; omega
  · intro i y q hi hq
    have hw : ∀ m : Nat, m ≤ hs.length → g[m]? = some q → wayV (hs ++ [x]) q q.yes = wayV hs q q.yes ∧ wayV (hs ++ [x]) q q.no = wayV hs q q.no := by
      intro m hm hq'
      refine ⟨wayV_more x fun h0 => ?_, wayV_more x fun h0 => ?_⟩
      all_goals
        obtain ⟨a, b, e1, e2, h1, h2⟩ := look_ways hg hq' h0
        omega
    have hlen : i < hs.length + 1 := by have := (List.getElem?_eq_some_iff.1 hi).1; simpa using this
    by_cases e : i = hs.length
    · subst e
      rw [hp] at hq
      cases hq
      have e1 : y = x := by
        rw [List.getElem?_append_right (Nat.le_refl _)] at hi
        simp at hi
        exact hi.symm
      subst e1
      obtain ⟨a, b⟩ := hw hs.length (Nat.le_refl _) hp
      rw [a, b]
      have d1 : (ss ++ [s]).getD hs.length 0 = s := by rw [← h.sl]; simp [List.getD_eq_getElem?_getD]
      have d2 : (ys ++ [yf]).getD hs.length false = yf := by rw [← h.yl]; simp [List.getD_eq_getElem?_getD]
      have d3 : (ns ++ [nf]).getD hs.length false = nf := by rw [← h.nl]; simp [List.getD_eq_getElem?_getD]
      rw [d1, d2, d3]
      exact hk
    · have hi' : i < hs.length := by omega
      rw [List.getElem?_append_left hi'] at hi
      obtain ⟨a, b⟩ := hw i (by omega) hq
      rw [a, b]
      have d1 : (ss ++ [s]).getD i 0 = ss.getD i 0 := by rw [List.getD_eq_getElem?_getD, List.getD_eq_getElem?_getD, List.getElem?_append_left (by rw [h.sl]; exact hi')]
      have d2 : (ys ++ [yf]).getD i false = ys.getD i false := by rw [List.getD_eq_getElem?_getD, List.getD_eq_getElem?_getD, List.getElem?_append_left (by rw [h.yl]; exact hi')]
      have d3 : (ns ++ [nf]).getD i false = ns.getD i false := by rw [List.getD_eq_getElem?_getD, List.getD_eq_getElem?_getD, List.getElem?_append_left (by rw [h.nl]; exact hi')]
      rw [d1, d2, d3]
      exact h.at_ i y q hi hq

theorem set_two {p : Pt} {s : Nat} {a b y n : Value} {yf nf : Bool} : ((bkCells p s a b yf nf).setIfInBounds 8 y).setIfInBounds 9 n = bkCells p s y n yf nf := by simp [bkCells]
theorem set_two' {p : Pt} {s : Nat} {a b y n : Value} {yf nf : Bool} : ((bkCells p s a b yf nf).setIfInBounds 9 n).setIfInBounds 8 y = bkCells p s y n yf nf := by simp [bkCells]
theorem rep_snoc {α : Type} (k : Nat) (a : α) : List.replicate k a ++ [a] = List.replicate (k + 1) a := by rw [List.replicate_succ']

theorem blk_next2 (w : World) (o : Obj) (t : TypeId) (cs : Array Value) : Blk ((w.alloc o).alloc (.cells cs t)) (w.heap.size + 1) t cs := by
  have := Blk.new (w.alloc o) t cs
  rwa [show (w.alloc o).heap.size = w.heap.size + 1 by simp] at this
/-- The pointers so far. -/
def PtrTo (cur : Array Value) (hs : List Nat) : Prop := ∀ (j h : Nat), hs[j]? = some h → cur[j]? = some (ptrV h)
theorem PtrTo.snoc {cur : Array Value} {hs : List Nat} (h : PtrTo cur hs) {k : Nat} (hk : hs.length = k) (hlt : k < cur.size) (x : Nat) : PtrTo (cur.setIfInBounds k (ptrV x)) (hs ++ [x]) := by
  intro j y hj
  have hl : j < hs.length + 1 := by have := (List.getElem?_eq_some_iff.1 hj).1; simpa using this
  rw [Array.getElem?_setIfInBounds]
  by_cases e : k = j
  · subst e
    rw [if_pos rfl, if_pos hlt]
    rw [List.getElem?_append_right (by omega), hk] at hj
    simp at hj
    rw [hj]
  · rw [if_neg e]
    rw [List.getElem?_append_left (by omega)] at hj
    exact h j y hj
theorem PtrTo.row {cur : Array Value} {hs : List Nat} (h : PtrTo cur hs) (hl : cur.size = hs.length) : cur = pRow hs := by
  apply Array.ext_getElem?
  intro j
  rw [pRow_get]
  cases e : hs[j]? with
  | some x => rw [h j x e]; rfl
  | none =>
    have := List.getElem?_eq_none_iff.1 e
    rw [Array.getElem?_eq_none (by omega)]; rfl

set_option maxRecDepth 100000 in
set_option maxHeartbeats 8000000 in
theorem blocksOf_any (A : Option Addr) (n c : Nat) (g : List Pt) (w : World) (hA : SlA w 7 A n c (g.map Pt.cells)) (hg : graphOk g) :
    Calls Tryd.prog 29 #[.slice A n c] w fun e w' => ∃ hs : List Nat, e = .returned (.slice (some ⟨w.heap.size, 0, none⟩) n n) ∧ hs.length = n ∧ Blk w' w.heap.size 53 (pRow hs) ∧ Blks w' (w.heap.size + 1) g hs (List.replicate n 0) (List.replicate n false) (List.replicate n false) ∧ Below w.heap.size w w' := by
  have hl : g.length = n := by have := hA.len; simpa using this
  have hn120 : n ≤ 120 := by rw [← hl]; exact hg.1.2
  have hc := hA.cap
  have hm := hA.max
  unfold maxLen at hm
  have hmk := fun W => run_make_row' (P := Tryd.prog) 50 53 (.pointer none) 8 Tryd.underlying50 info_bkp rfl .i64 .i64 n (by omega) (by omega) W
  have HN := Lib.hid hl; have HG := Lib.hid hg; have HA := Lib.hid hA; clear hl hg hA
  go_enter Tryd.func29, Tryd.ntmps29
  go_wp2
  clear hmk
  go_loopw [11] (fun i wr => ∃ (k : Nat) (hs : List Nat) (cur : Array Value), k ≤ n ∧ i = .int .i64 k ∧ hs.length = k ∧ Blk wr w.heap.size 53 cur ∧ cur.size = n ∧ PtrTo cur hs ∧ Blks wr (w.heap.size + 1) g hs (List.replicate k 0) (List.replicate k false) (List.replicate k false) ∧ Below w.heap.size w wr) (fun i _ => n - (intOf i).toNat)
  case atStart =>
    refine ⟨0, [], _, Nat.zero_le _, rfl, rfl, Blk.new w _ _, by simp [size_madeCells], fun j h hj => by simp at hj, ⟨rfl, rfl, rfl, by simp, by simp, fun i h p hi => by simp at hi⟩, by go_grown⟩
  case round =>
    obtain ⟨k, hs, cur, hk, rfl, hsl, hB, hcs, hpt, hbk, hbw⟩ := hrel
    have hz := hbw.size
    have hBl := hB.lt
    by_cases hlt : k < n
    · have hki : (k : Int) < n := by omega
      obtain ⟨b, off, p, rfl, hab, hgp, hcell⟩ := pts_get HA.out hlt
      obtain ⟨c0, c1, c2, c3, c4, c5, c6⟩ := hcell wr _ hbw hab
      obtain ⟨x0, e0⟩ := hB.some_ (i := k) (by omega)
      have f0 := hB.frozen k
      have hpt2 := hpt.snoc hsl (by omega) (wr.heap.size + 1)
      obtain ⟨W0, hW0⟩ : ∃ W, W = wr.setCell ⟨w.heap.size, k, none⟩ (.pointer (some ⟨wr.heap.size + 1, 0, none⟩)) := ⟨_, rfl⟩
      have hz0 : W0.heap.size = wr.heap.size := by rw [hW0]; simp
      obtain ⟨W, hW⟩ : ∃ W, W = (W0.alloc (.cells #[.int .i64 p.verdict, .int .i64 p.field, .int .i64 p.mask, .int .i64 p.op, .int .i64 p.value, .int .i64 p.yes, .int .i64 p.no] 47)).alloc (.cells #[.int .i64 p.verdict, .int .i64 p.field, .int .i64 p.mask, .int .i64 p.op, .int .i64 p.value, .int .i64 p.yes, .int .i64 p.no, .int .i64 0, .pointer none, .pointer none, .bool false, .bool false] 83) := ⟨_, rfl⟩
      have P1 : Blk W wr.heap.size 47 #[.int .i64 p.verdict, .int .i64 p.field, .int .i64 p.mask, .int .i64 p.op, .int .i64 p.value, .int .i64 p.yes, .int .i64 p.no] := by
        rw [hW, ← hz0]; exact (Blk.new W0 _ _).alloc _
      have P2 : Blk W (wr.heap.size + 1) 83 (bkCells p 0 (.pointer none) (.pointer none) false false) := by
        rw [hW, ← hz0]; exact blk_next2 W0 _ _ _
      have P3 : Blk W w.heap.size 53 (cur.setIfInBounds k (ptrV (wr.heap.size + 1))) := by
        rw [hW, hW0]; exact ((hB.set_ k _).alloc _).alloc _
      have hll : hs.length ≤ g.length := by rw [HN.out]; omega
      have P5 : Blks W (w.heap.size + 1) g hs (List.replicate k 0) (List.replicate k false) (List.replicate k false) := by
        rw [hW, hW0]
        refine ⟨hbk.sl, hbk.yl, hbk.nl, hbk.nd, hbk.low, fun i x q hi hq => (((hbk.at_ i x q hi hq).far (p := ⟨w.heap.size, k, none⟩) ?_ _).alloc _).alloc _⟩
        have := hbk.low x (List.mem_of_getElem? hi)
        simp; omega
      have P6 : Below w.heap.size w W := by
        rw [hW, hW0]; exact ((hbw.setCell (p := ⟨w.heap.size, k, none⟩) (Nat.le_refl _) _).alloc (by simpa using hz) _).alloc (by simp; omega) _
      have hcs2 : (cur.setIfInBounds k (ptrV (wr.heap.size + 1))).size = n := by simpa using hcs
      have hx1 : wr.heap.size + 1 ∉ hs := fun h => by have := hbk.lt hll _ h; omega
      have HW := Lib.hid hW; have HW0 := Lib.hid hW0; have HP := Lib.hid hgp
      have hn1 : ¬ wr.heap.size = w.heap.size := by omega
      have hn2 : ¬ wr.heap.size + 1 = w.heap.size := by omega
      by_cases h0 : p.op = 0
      · have hd : (p.op == 0) = true := by simp [h0]
        have hy : wayV hs p p.yes = .pointer none ∧ wayV hs p p.no = .pointer none := by unfold wayV; rw [if_pos h0, if_pos h0]; exact ⟨rfl, rfl⟩
        have HX := Lib.hid (P5.snoc HG.out hx1 (by omega) (by rw [hsl]; exact HP.out) (by rw [hy.1, hy.2]; exact P2)); have HX3 := Lib.hid P3; have HX6 := Lib.hid P6; have HPT := Lib.hid hpt2; have HCS := Lib.hid hcs2
        clear hW hW0 hgp hbk P1 P2 P3 P5 P6 hpt hpt2 hcs2 hcell h0 hy  hz0
        go_wp2
        rw [← HW0.out, ← HW.out]
        refine ⟨⟨k + 1, hs ++ [wr.heap.size + 1], _, by omega, by go_num, by simp [hsl], HX3.out, HCS.out, HPT.out, ?_, HX6.out⟩, by simp [intOf]; omega⟩
        have := HX.out
        rwa [rep_snoc, rep_snoc] at this
      · have hd : (p.op == 0) = false := by simp [h0]
        obtain ⟨y, nn, hy, hnn, hyk, hnk⟩ := look_ways HG.out hgp h0
        obtain ⟨hyv, hyg⟩ : ∃ x, hs[y]? = some x := ⟨_, List.getElem?_eq_getElem (by omega)⟩
        obtain ⟨hnv, hng⟩ : ∃ x, hs[nn]? = some x := ⟨_, List.getElem?_eq_getElem (by omega)⟩
        have wy : wayV hs p p.yes = .pointer (some ⟨hyv, 0, none⟩) := by unfold wayV; rw [if_neg h0, hy, Int.toNat_natCast, hyg]; rfl
        have wn : wayV hs p p.no = .pointer (some ⟨hnv, 0, none⟩) := by unfold wayV; rw [if_neg h0, hnn, Int.toNat_natCast, hng]; rfl
        have d5 : W.cell? ⟨wr.heap.size, 5, none⟩ = some (.int .i64 (y : Int)) := by rw [← hy]; exact P1.cell 5
        have d6 : W.cell? ⟨wr.heap.size, 6, none⟩ = some (.int .i64 (nn : Int)) := by rw [← hnn]; exact P1.cell 6
        have dk : W.cell? ⟨w.heap.size, k, none⟩ = some (.pointer (some ⟨wr.heap.size + 1, 0, none⟩)) := by rw [P3.cell, Array.getElem?_setIfInBounds, if_pos rfl, if_pos (by omega)]; rfl
        have dy : W.cell? ⟨w.heap.size, y, none⟩ = some (.pointer (some ⟨hyv, 0, none⟩)) := by rw [P3.cell, Array.getElem?_setIfInBounds, if_neg (by omega)]; exact hpt y hyv hyg
        have dn : W.cell? ⟨w.heap.size, nn, none⟩ = some (.pointer (some ⟨hnv, 0, none⟩)) := by rw [P3.cell, Array.getElem?_setIfInBounds, if_neg (by omega)]; exact hpt nn hnv hng
        have e8 : W.cell? ⟨wr.heap.size + 1, 8, none⟩ = some (.pointer none) := P2.cell 8
        have e9 : W.cell? ⟨wr.heap.size + 1, 9, none⟩ = some (.pointer none) := P2.cell 9
        have f8 := P2.frozen 8
        have f9 := P2.frozen 9
        have hyi : (y : Int) < n := by omega
        have hni : (nn : Int) < n := by omega
        have X1 : Blk ((W.drew.setCell ⟨wr.heap.size + 1, 8, none⟩ (.pointer (some ⟨hyv, 0, none⟩))).setCell ⟨wr.heap.size + 1, 9, none⟩ (.pointer (some ⟨hnv, 0, none⟩))) (wr.heap.size + 1) 83 (bkCells p 0 (wayV hs p p.yes) (wayV hs p p.no) false false) := by
          rw [wy, wn, ← set_two]; exact (P2.drew.set_ 8 _).set_ 9 _
        have X2 : Blk ((W.drew.setCell ⟨wr.heap.size + 1, 9, none⟩ (.pointer (some ⟨hnv, 0, none⟩))).setCell ⟨wr.heap.size + 1, 8, none⟩ (.pointer (some ⟨hyv, 0, none⟩))) (wr.heap.size + 1) 83 (bkCells p 0 (wayV hs p p.yes) (wayV hs p p.no) false false) := by
          rw [wy, wn, ← set_two']; exact (P2.drew.set_ 9 _).set_ 8 _
        have HX1 := Lib.hid X1; have HX2 := Lib.hid X2; have HP3 := Lib.hid P3; have HP5 := Lib.hid P5; have HP6 := Lib.hid P6; have HPT := Lib.hid hpt2; have HCS := Lib.hid hcs2
        have hnk1 : ∀ x ∈ hs, x ≠ wr.heap.size + 1 := fun x hx e => hx1 (e ▸ hx)
        have HNK := Lib.hid hnk1; have HX0 := Lib.hid hx1
        clear hW hW0 hgp hbk P1 P2 P3 P5 P6 hpt hpt2 hcs2 hcell h0 hy hnn  hz0 X1 X2 hyg hng wy wn hnk1 hx1
        go_wp2
        rw [← HW0.out, ← HW.out]
        go_region_held3 (fun w' => w'.cell? ⟨w.heap.size, k, none⟩ = some (.pointer (some ⟨wr.heap.size + 1, 0, none⟩)) ∧ w'.cell? ⟨w.heap.size, y, none⟩ = some (.pointer (some ⟨hyv, 0, none⟩)) ∧ w'.cell? ⟨w.heap.size, nn, none⟩ = some (.pointer (some ⟨hnv, 0, none⟩)) ∧ w'.cell? ⟨wr.heap.size, 5, none⟩ = some (.int .i64 (y : Int)) ∧ w'.cell? ⟨wr.heap.size, 6, none⟩ = some (.int .i64 (nn : Int))) (go_keep) (fail)
        all_goals
          go_wp2
          refine ⟨⟨k + 1, hs ++ [wr.heap.size + 1], _, by omega, by go_num, by simp [hsl], (HP3.out.drew.far (p := ⟨wr.heap.size + 1, _, none⟩) (by simp; omega) _).far (p := ⟨wr.heap.size + 1, _, none⟩) (by simp; omega) _, HCS.out, HPT.out, ?_, (HP6.out.drew.setCell (p := ⟨wr.heap.size + 1, _, none⟩) (by simp; omega) _).setCell (p := ⟨wr.heap.size + 1, _, none⟩) (by simp; omega) _⟩, by simp [intOf]; omega⟩
          rw [← rep_snoc, ← rep_snoc]
          refine Blks.snoc ⟨HP5.out.sl, HP5.out.yl, HP5.out.nl, HP5.out.nd, HP5.out.low, fun i x q hi hq => (((HP5.out.at_ i x q hi hq).drew).far (p := ⟨wr.heap.size + 1, _, none⟩) (HNK.out x (List.mem_of_getElem? hi)) _).far (p := ⟨wr.heap.size + 1, _, none⟩) (HNK.out x (List.mem_of_getElem? hi)) _⟩ HG.out HX0.out (by omega) (by rw [hsl]; exact HP.out) ?_
          first | exact HX1.out | exact HX2.out
    · obtain rfl : k = n := by omega
      have HX := Lib.hid (hpt.row (by omega)); have HB := Lib.hid hB; have HK := Lib.hid hbk
      clear hpt hB hbk
      go_wp2
      go_ret
      exact ⟨hs, rfl, hsl, by rw [← HX.out]; exact HB.out, HK.out, hbw⟩
end Go.Proofs.YtoibocaaeimplaaDoor
