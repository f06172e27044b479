/- Joined texts: BookO BookV BookR BookX. -/
import Derived.Test.YtaieopdfkapgdaaDoorLawLine5
import Derived.Test.YtaieopdfkapgdaaDoorBookC
import Derived.Deep.DeepCutAuto
import Derived.Test.YtaieopdfkapgdaaDoorRelA
import Derived.Test.YtaieopdfkapgdaaDoorArgLine
-- Books in memory of their own: what lies where; spec.l15Copy, spec.l15Last.
namespace Go.Proofs.YtaieopdfkapgdaaDoor
open Go.RowKit
set_option linter.unusedSimpArgs false
set_option linter.unusedVariables false

theorem info_LineM : (Tryd.prog.info? 32).map (fun i => (i.zero, i.size, i.bytes)) = some (some (.agg #[.int .i64 0, .int .i64 0, .int .i64 0, .slice none 0 0, .int .i64 0, .string ⟨#[]⟩]), 6, 72) := info_Line
/-- The arguments' rows of some lines: each lies behind those ahead of it. -/
inductive ArgsUp (w : World) (lo : Nat) : Nat → List Ln → List Value → Prop
  | nil {hi : Nat} (h : lo ≤ hi) : ArgsUp w lo hi [] []
  | snoc {q hi : Nat} {b : List Ln} {avs : List Value} {ln : Ln} {av : Value} (h : ArgsUp w lo q b avs) (ho : w.ownsRow q 3 1 av ln.told.args.length (ints ln.told.args).flatten) (hb : ∀ g, av.ownBlock = some g → g < hi) (hq : q ≤ hi) : ArgsUp w lo hi (b ++ [ln]) (avs ++ [av])
theorem ArgsUp.le {w : World} {lo hi : Nat} {b : List Ln} {avs : List Value} (h : ArgsUp w lo hi b avs) : lo ≤ hi := by
  induction h with
  | nil h => exact h
  | snoc h ho hb hq ih => omega
theorem ArgsUp.len {w : World} {lo hi : Nat} {b : List Ln} {avs : List Value} (h : ArgsUp w lo hi b avs) : avs.length = b.length := by
  induction h with
  | nil h => rfl
  | snoc h ho hb hq ih => simp [ih]
theorem ArgsUp.imp {w w' : World} {lo hi : Nat} {b : List Ln} {avs : List Value} (h : ArgsUp w lo hi b avs) (hk : ∀ (q n : Nat) (av : Value) (xs : List Value), lo ≤ q → w.ownsRow q 3 1 av n xs → w'.ownsRow q 3 1 av n xs) : ArgsUp w' lo hi b avs := by
  induction h with
  | nil h => exact .nil h
  | snoc h ho hb hq ih => exact .snoc ih (hk _ _ _ _ h.le ho) hb hq
theorem ArgsUp.next {w w' : World} {lo hi : Nat} {b : List Ln} {avs : List Value} (h : ArgsUp w lo hi b avs) (hb : Below w.heap.size w w') : ArgsUp w' lo hi b avs := h.imp fun _ _ _ _ _ ho => own_below ho hb
theorem ArgsUp.up {w : World} {lo hi hi' : Nat} {b : List Ln} {avs : List Value} (h : ArgsUp w lo hi b avs) (hh : hi ≤ hi') : ArgsUp w lo hi' b avs := by
  cases h with
  | nil h => exact .nil (Nat.le_trans h hh)
  | snoc h ho hb hq => exact .snoc h ho (fun g hg => Nat.lt_of_lt_of_le (hb g hg) hh) (Nat.le_trans hq hh)
theorem ArgsUp.low {w : World} {lo lo' hi : Nat} {b : List Ln} {avs : List Value} (h : ArgsUp w lo hi b avs) (hh : lo' ≤ lo) : ArgsUp w lo' hi b avs := by
  induction h with
  | nil h => exact .nil (Nat.le_trans hh h)
  | snoc h ho hb hq ih => exact .snoc ih ho hb hq
theorem ArgsUp.get {w : World} {lo hi : Nat} {b : List Ln} {avs : List Value} (h : ArgsUp w lo hi b avs) : ∀ (i : Nat) (ln : Ln) (av : Value), b[i]? = some ln → avs[i]? = some av → w.ownsRow lo 3 1 av ln.told.args.length (ints ln.told.args).flatten ∧ ∀ g, av.ownBlock = some g → g < hi := by
  induction h with
  | nil h => intro i ln av h1; simp at h1
  | @snoc q hi b avs ln av h ho hb hq ih =>
    intro i ln' av' h1 h2
    by_cases hi' : i < b.length
    · rw [List.getElem?_append_left hi'] at h1
      rw [List.getElem?_append_left (by rw [h.len]; exact hi')] at h2
      exact ⟨(ih i ln' av' h1 h2).1, fun g hg => Nat.lt_of_lt_of_le ((ih i ln' av' h1 h2).2 g hg) hq⟩
    · have e : i = b.length := by have := (List.getElem?_eq_some_iff.1 h1).1; simp at this; omega
      subst e
      rw [List.getElem?_append_right (Nat.le_refl _)] at h1
      rw [List.getElem?_append_right (by rw [h.len]; exact Nat.le_refl _), h.len] at h2
      simp at h1 h2
      subst h1; subst h2
      exact ⟨own_base ho h.le, hb⟩
theorem ArgsUp.apart {w : World} {lo hi : Nat} {b : List Ln} {avs : List Value} (h : ArgsUp w lo hi b avs) : ∀ (i j : Nat) (u v : Value) (x y : Nat), i < j → avs[i]? = some u → avs[j]? = some v → u.ownBlock = some x → v.ownBlock = some y → x < y := by
  induction h with
  | nil h => intro i j u v x y _ h1; simp at h1
  | @snoc q hi b avs ln av h ho hb hq ih =>
    intro i j u v x y hij h1 h2 h3 h4
    have hjl : j < avs.length + 1 := by have := (List.getElem?_eq_some_iff.1 h2).1; simpa using this
    rw [List.getElem?_append_left (by omega)] at h1
    by_cases hj : j < avs.length
    · rw [List.getElem?_append_left hj] at h2
      exact ih i j u v x y hij h1 h2 h3 h4
    · rw [List.getElem?_append_right (by omega), show j - avs.length = 0 by omega] at h2
      simp at h2
      subst h2
      have hib : i < b.length := by rw [← h.len]; omega
      have h5 := (h.get i (b[i]'hib) u (List.getElem?_eq_getElem hib) h1).2 x h3
      have h6 := (ho.lt y h4).1
      omega
def lnRows (b : List Ln) (avs : List Value) : List (List Value) := (b.zip avs).map fun p => lnC p.1 p.2
theorem lnRows_len {b : List Ln} {avs : List Value} (h : avs.length = b.length) : (lnRows b avs).length = b.length := by simp [lnRows, h]
theorem lnRows_rows (b : List Ln) (avs : List Value) : ∀ r ∈ lnRows b avs, r.length = 6 := fun r hr => by
  obtain ⟨p, _, rfl⟩ := List.mem_map.1 hr
  rfl
theorem lnRows_snoc {b : List Ln} {avs : List Value} (h : avs.length = b.length) (ln : Ln) (av : Value) : lnRows (b ++ [ln]) (avs ++ [av]) = lnRows b avs ++ [lnC ln av] := by
  unfold lnRows
  rw [List.zip_append h.symm]
  simp
theorem lnRows_get {b : List Ln} {avs : List Value} {i : Nat} {r : List Value} (h : (lnRows b avs)[i]? = some r) : ∃ ln av, b[i]? = some ln ∧ avs[i]? = some av ∧ r = lnC ln av := by
  unfold lnRows at h
  rw [List.getElem?_map] at h
  obtain ⟨p, hp, rfl⟩ := Option.map_eq_some_iff.1 h
  obtain ⟨e1, e2⟩ := List.getElem?_zip_eq_some.1 hp
  exact ⟨p.1, p.2, e1, e2, rfl⟩
/-- A book in memory of its own. -/
def OwnBk (w : World) (lo hi : Nat) (v : Value) (b : List Ln) : Prop :=
  ∃ avs, ArgsUp w lo hi b avs ∧ w.ownsRow lo 32 6 v b.length (lnRows b avs).flatten ∧ ∀ g, v.ownBlock = some g → g < hi
theorem OwnBk.below {w w' : World} {lo hi : Nat} {v : Value} {b : List Ln} (h : OwnBk w lo hi v b) (hb : Below w.heap.size w w') : OwnBk w' lo hi v b := by
  obtain ⟨avs, h1, h2, h3⟩ := h; exact ⟨avs, h1.next hb, own_below h2 hb, h3⟩
theorem OwnBk.is {w : World} {lo hi : Nat} {v : Value} {b : List Ln} (h : OwnBk w lo hi v b) (hok : ∀ ln ∈ b, ln.told.ok) : BookIs w v b := by
  obtain ⟨avs, h1, h2, h3⟩ := h
  have hl := h1.len
  obtain ⟨A, n, c, rfl, hA⟩ := SlA.of_own h2 (lnRows_len hl) (lnRows_rows b avs)
  refine ⟨A, n, c, lnRows b avs, rfl, hA, lnRows_len hl, fun i ln cs e1 e2 => ?_⟩
  obtain ⟨ln', av, e3, e4, rfl⟩ := lnRows_get e2
  obtain rfl := Option.some.inj (e1.symm.trans e3)
  exact ⟨av, rfl, SlA.of_own (h1.get i ln av e1 e4).1 (ints_len _) (ints_rows _), hok ln (List.mem_of_getElem? e1)⟩
theorem own_emptyB {W : World} {g base : Nat} {t : TypeId} {size : Nat} (h : Blk W g t #[]) (hb : base ≤ g) : W.ownsRow base t size (.slice (some ⟨g, 0, none⟩) 0 0) 0 [] :=
  ⟨by simp, .inr ⟨g, 0, #[], rfl, hb, h, Nat.le_refl _, Nat.zero_le _, by simp, by simp⟩⟩
theorem own_gbB {w w' : World} {base n : Nat} {e : TypeId} {size : Nat} {v : Value} {xs : List Value} (h : w.ownsRow base e size v n xs) (hg : w.grownBy w' v.ownBlock) (hb : base ≤ w.heap.size) : Below base w w' :=
  (Below.refl base w).grown hg hb (fun k hk => (h.lt k hk).1)
/-- Rows of two kinds lie apart. -/
theorem own_kinds {w : World} {base n base' n' : Nat} {e e' : TypeId} {size size' : Nat} {v v' : Value} {xs xs' : List Value} (h : w.ownsRow base e size v n xs) (h' : w.ownsRow base' e' size' v' n' xs') (ht : e ≠ e') : v.ownBlock = none ∨ v.ownBlock ≠ v'.ownBlock := by
  rcases h.2 with ⟨rfl, _⟩ | ⟨g, cap, cur, rfl, _, hg, _⟩
  · exact .inl rfl
  · rcases h'.2 with ⟨rfl, _⟩ | ⟨g', cap', cur', rfl, _, hg', _⟩
    · exact .inr (by simp [Value.ownBlock])
    · refine .inr fun e2 => ?_
      simp only [Value.ownBlock] at e2
      cases e2
      have := hg.symm.trans hg'
      exact ht (by injection this with h1; injection h1 with h2 h3)
/-- 'append([]int{}, xs...)' of four: a new row of what is read. -/
theorem wpList_copyI {ops : Array Oper} {rest : List Oper} {o : Oper} {a : Act} {Q : Exit → Act → World → Prop} {W : World} (hgd : o.guard = none) (s x : Operand) (ho : o.op = .call { callee := .builtin .append, args := #[s, x], argTypes := #[26, 26] })
    (B : Nat) (hs : a.eval s = .slice (some ⟨B, 0, none⟩) 0 0) (hB : Blk W B 3 #[]) (v2 : Value) (xs : List Int) (hx : a.eval x = v2) (hO : Sl W 1 v2 (ints xs)) (hn : xs.length = 4)
    (h : ∀ v' w', w'.ownsRow B 3 1 v' 4 (ints xs).flatten → Below B W w' → wpList Tryd.prog ops Q rest (a.put o.dst v') w') : wpList Tryd.prog ops Q (o :: rest) a W := by
  obtain ⟨i0, hi0, hz0, hz1, hz2⟩ := info_parts info_int
  have hlt := hB.lt
  have hE := own_emptyB (base := B) (t := 3) (size := 1) hB (Nat.le_refl _)
  obtain ⟨A, n, c, rfl, hA⟩ := hO
  have h4 : n = 4 := by have := hA.len; rw [ints_len] at this; omega
  subst h4
  obtain ⟨g, off, rfl, hg, hel⟩ := hA.at_ (by omega)
  have hc : ∀ (j : Nat) (u : Value), ((ints xs).flatten)[j]? = some u → W.cell? ((⟨g, off, none⟩ : Addr).add j) = some u := fun j u hu => by
    rw [Addr.add_mid]
    rw [ints_flat, List.getElem?_map] at hu
    obtain ⟨z, hz, rfl⟩ := Option.map_eq_some_iff.1 hu
    have := hel j [.int .i64 z] (by rw [ints, List.getElem?_map, hz]; rfl) 0 _ rfl
    simpa using this
  exact wpList_append_own _ hgd s x _ ho B 3 i0 _ 1 8 Tryd.underlying26 hi0 hz0 hz1 hz2 rfl (by omega) _ 0 [] hs hE ⟨g, off, none⟩ 4 c (ints xs).flatten hx (by rw [ints_flat]; simpa using hn) hc (fun u hu => by rw [ints_flat] at hu; obtain ⟨z, _, rfl⟩ := List.mem_map.1 hu; rfl) (by unfold maxLen; omega) (by omega) (by omega) (fun v' w' hown hg' _ => h v' w' (by simpa using hown) (own_gbB hE hg' (by omega)))

/-- A book takes one line more. -/
theorem OwnBk.app {V w2 : World} {lo q hi n : Nat} {b : List Ln} (hn : b.length = n) {u v2 : Value} {ln : Ln} {av : Value} {avs : List Value} (ha : ArgsUp V lo q b avs) (ho : V.ownsRow lo 32 6 u n (lnRows b avs).flatten)
    (har : V.ownsRow q 3 1 av ln.told.args.length (ints ln.told.args).flatten) (ho2 : w2.ownsRow lo 32 6 v2 (n + 1) (lnRows b avs ++ [lnC ln av]).flatten) (hg : V.grownBy w2 u.ownBlock) (hh : V.heap.size ≤ hi) (hq : q ≤ hi) :
    ArgsUp w2 lo hi (b ++ [ln]) (avs ++ [av]) ∧ w2.ownsRow lo 32 6 v2 (n + 1) (lnRows (b ++ [ln]) (avs ++ [av])).flatten := by
  have hk : ∀ (q n : Nat) (av : Value) (xs : List Value), V.ownsRow q 3 1 av n xs → w2.ownsRow q 3 1 av n xs := fun q n av xs h => h.kept hg (own_kinds h ho (by decide))
  refine ⟨.snoc (ha.imp fun q n av xs _ h => hk q n av xs h) (hk _ _ _ _ har) (fun g e => Nat.lt_of_lt_of_le (har.lt g e).2 hh) hq, ?_⟩
  rw [lnRows_snoc ha.len]
  exact ho2

set_option maxRecDepth 100000 in
set_option maxHeartbeats 8000000 in
theorem l15Copy_any (v : Value) (b : List Ln) (w : World) (hb : BookIs w v b) (hn : b.length ≤ 100000) (h4 : ∀ ln ∈ b, ln.told.args.length = 4) :
    Calls Tryd.prog 44 #[v] w fun e w' => ∃ u, e = .returned u ∧ OwnBk w' w.heap.size w'.heap.size u b ∧ Below w.heap.size w w' := by
  obtain ⟨A, n, c, css, rfl, hA, hcl, hli⟩ := hb
  have hbn : b.length = n := by have := hA.len; omega
  have hcp := hA.cap
  have hmx := hA.max
  unfold maxLen at hmx
  have hn2 : n ≤ 100000 := by omega
  have HA := Lib.hid hA; have HLI := Lib.hid hli; have HCL := Lib.hid hcl; have HN := Lib.hid hbn; have H4 := Lib.hid h4
  obtain ⟨X, hX⟩ : ∃ X, X = w.alloc (.cells #[] 32) := ⟨_, rfl⟩
  have hbX : Below w.heap.size w X := by rw [hX]; go_grown
  have EX : Blk X w.heap.size 32 #[] := by rw [hX]; exact Blk.new _ _ _
  have HX := Lib.hid hX; have HBX := Lib.hid hbX; have HEX := Lib.hid EX
  have hzX : w.heap.size < X.heap.size := EX.lt
  clear hA hli hcl hbn h4 hX hbX EX hn
  go_enter Tryd.func44, Tryd.ntmps44
  go_wp2_with fail
  rw [← HX.out]
  go_loopw [3, 4] (fun u i wr => ∃ k : Nat, k ≤ n ∧ i = .int .i64 k ∧ Hid (∃ avs, ArgsUp wr w.heap.size wr.heap.size (b.take k) avs ∧ wr.ownsRow w.heap.size 32 6 u k (lnRows (b.take k) avs).flatten) ∧ Below w.heap.size w wr) (fun _ i _ => n - (intOf i).toNat)
  case atStart => exact ⟨0, by omega, rfl, Lib.hid ⟨[], .nil HBX.out.size, own_emptyB HEX.out (Nat.le_refl _)⟩, HBX.out⟩
  case round =>
    obtain ⟨k, hk, rfl, HO, hb⟩ := hrel
    have hdl : (b.take k).length = k := by rw [List.length_take, HN.out]; omega
    by_cases hlt : k < n
    · obtain ⟨g, off, ln, av, rfl, hg, hbk, hs, hok, x0, x1, x2, x3, x4, x5⟩ := book_get HA.out HCL.out HLI.out hlt
      have y0 := (hb.cell (p := ⟨g, off + k * 6, none⟩) hg).trans x0
      have y1 := (hb.cell (p := ⟨g, off + k * 6 + 1, none⟩) hg).trans x1
      have y2 := (hb.cell (p := ⟨g, off + k * 6 + 2, none⟩) hg).trans x2
      have y3 := (hb.cell (p := ⟨g, off + k * 6 + 3, none⟩) hg).trans x3
      have y4 := (hb.cell (p := ⟨g, off + k * 6 + 4, none⟩) hg).trans x4
      have y5 := (hb.cell (p := ⟨g, off + k * 6 + 5, none⟩) hg).trans x5
      have H44 := Lib.hid (H4.out ln (List.mem_of_getElem? hbk))
      have HTK := Lib.hid (show b.take (k + 1) = b.take k ++ [ln] by rw [List.take_add_one, hbk]; rfl)
      have HDL := Lib.hid hdl
      obtain ⟨avs, hup, hrow⟩ := HO.out
      obtain ⟨A9, n9, c9, rfl, hS9⟩ := SlA.of_own hrow ((lnRows_len hup.len).trans hdl) (lnRows_rows _ _)
      have HUP := Lib.hid hup; have HROW := Lib.hid hrow
      obtain ⟨⟨gt, ep, nm, xs, vd⟩, sm⟩ := ln
      simp only at y0 y1 y2 y3 y4 y5 hs hok
      have HS := Lib.hid (hs.below hb)
      obtain ⟨A2, n2, c2, rfl, hA2⟩ := hs
      have kn : (k : Int) < n := by omega
      have HLT := Lib.hid hlt
      have HWR := Lib.hid hb
      clear x0 x1 x2 x3 x4 x5 hbk hok hlt hk hA2 HO hup hrow hS9 hdl hb
      obtain ⟨W2, hW2⟩ : ∃ W2, W2 = (wr.alloc (.cells #[.int .i64 gt, .int .i64 ep, .int .i64 nm, .slice A2 n2 c2, .int .i64 vd, .string ⟨sm.toArray⟩] 32)).alloc (.cells #[] 3) := ⟨_, rfl⟩
      have hbW2 : Below wr.heap.size wr W2 := by rw [hW2]; go_grown
      have RB : Blk W2 wr.heap.size 32 #[.int .i64 gt, .int .i64 ep, .int .i64 nm, .slice A2 n2 c2, .int .i64 vd, .string ⟨sm.toArray⟩] := by rw [hW2]; exact (Blk.new wr _ _).alloc _
      have EB : Blk W2 (wr.heap.size + 1) 3 #[] := by
        rw [hW2]
        have := Blk.new (wr.alloc (.cells #[.int .i64 gt, .int .i64 ep, .int .i64 nm, .slice A2 n2 c2, .int .i64 vd, .string ⟨sm.toArray⟩] 32)) 3 #[]
        simpa using this
      have HW2 := Lib.hid hW2; have HRB := Lib.hid RB; have HEB := Lib.hid EB; have HBW2 := Lib.hid hbW2
      have HS2 := Lib.hid (HS.out.below hbW2)
      clear hW2 RB EB hbW2
      go_upto_region 7 with (at_builtin; rw [← HW2.out]; go_must (refine wpList_copyI rfl (.tmp 17) (.tmp 21) rfl (wr.heap.size + 1) rfl HEB.out (.slice A2 n2 c2) xs rfl HS2.out H44.out ?_); intro v5 W5 hown5 hb5; obtain ⟨A5, n5, c5, rfl, -⟩ := SlA.of_own hown5 ((ints_len xs).trans H44.out) (ints_rows _); have RB5 := HRB.out.below hb5 (Nat.lt_succ_self _); have rf53 := RB5.frozen 3; have r53 := (show _ = some (Value.slice A2 n2 c2) from RB5.cell 3); have HRB5 := Lib.hid RB5; have HOWN5 := Lib.hid hown5; have HB5 := Lib.hid hb5; clear hb5 hown5 RB5)
      obtain ⟨V, hV⟩ : ∃ V, V = W5.setCell ⟨wr.heap.size, 3, none⟩ (.slice A5 n5 c5) := ⟨_, rfl⟩
      have hbV : Below wr.heap.size wr V := by rw [hV]; exact (HBW2.out.trans (HB5.out.mono (Nat.le_succ _))).setCell (p := ⟨wr.heap.size, 3, none⟩) (Nat.le_refl _) _
      have RV : Blk V wr.heap.size 32 #[.int .i64 gt, .int .i64 ep, .int .i64 nm, .slice A5 n5 c5, .int .i64 vd, .string ⟨sm.toArray⟩] := by rw [hV]; exact HRB5.out.set_ 3 _
      have HOV := Lib.hid (own_below HROW.out hbV)
      have HTV : Hid (V.ownsRow wr.heap.size 3 1 (.slice A5 n5 c5) xs.length (ints xs).flatten) := by rw [hV, H44.out]; exact own_base (ownsRow_setCell_below HOWN5.out (by simp) _) (by omega)
      have HUV := Lib.hid (HUP.out.next hbV)
      have z0 := (show _ = some (Value.int .i64 gt) from RV.cell 0); have z1 := (show _ = some (Value.int .i64 ep) from RV.cell 1); have z2 := (show _ = some (Value.int .i64 nm) from RV.cell 2); have z3 := (show _ = some (Value.slice A5 n5 c5) from RV.cell 3); have z4 := (show _ = some (Value.int .i64 vd) from RV.cell 4); have z5 := (show _ = some (Value.string ⟨sm.toArray⟩) from RV.cell 5)
      have HBV := Lib.hid hbV
      have hzV : wr.heap.size ≤ V.heap.size := hbV.size
      have hz0 : w.heap.size ≤ V.heap.size := Nat.le_trans HWR.out.size hzV
      rw [← hV]
      clear hV hbV RV y0 y1 y2 y3 y4 y5 rf53 r53
      go_wp2_with (at_builtin; go_must (refine wpList_app1g rfl (.tmp 26) (.tmp 28) _ rfl w.heap.size 32 Tryd.underlying23 info_LineM rfl (by omega) (by omega) (.slice A9 n9 c9) k (lnRows (b.take k) avs) rfl HOV.out rfl (by simp [Value.oneCell']) rfl (by have := HLT.out; omega) hz0 ?_); intro v9 w9 hown9 hg9 _; obtain ⟨g9, cap9, rfl, hg9', hg9''⟩ := hown9.form (by omega))
      obtain ⟨q1, q2⟩ := OwnBk.app (ln := ⟨⟨gt, ep, nm, xs, vd⟩, sm⟩) HDL.out HUV.out HOV.out HTV.out hown9 hg9 hg9.size (Nat.le_trans hzV hg9.size)
      have hlt := HLT.out
      exact ⟨⟨k + 1, by omega, by go_num, Lib.hid ⟨_, by rw [HTK.out]; exact q1, by rw [HTK.out]; exact q2⟩, (HWR.out.trans (HBV.out.mono HWR.out.size)).trans (own_gbB HOV.out hg9 hz0)⟩, by simp [intOf]; omega⟩
    · obtain rfl : k = n := by omega
      have hall : b.take k = b := List.take_of_length_le (by rw [HN.out]; exact Nat.le_refl _)
      rw [hall] at HO
      obtain ⟨avs, hup, hrow⟩ := HO.out
      obtain ⟨A9, n9, c9, rfl, hS9⟩ := SlA.of_own hrow ((lnRows_len hup.len).trans HN.out) (lnRows_rows _ _)
      have HUP := Lib.hid hup; have HROW := Lib.hid (show wr.ownsRow w.heap.size 32 6 (.slice A9 n9 c9) b.length (lnRows b avs).flatten by rw [HN.out]; exact hrow); have HWR := Lib.hid hb
      clear hup hrow hS9 hall HO hb hdl
      go_wp2
      go_ret
      exact ⟨_, rfl, ⟨avs, HUP.out, HROW.out, fun g e => (HROW.out.lt g e).2⟩, HWR.out⟩
end Go.Proofs.YtaieopdfkapgdaaDoor

-- The reference's books: spec.l15Last, spec.BookAdd.
namespace Go.Proofs.YtaieopdfkapgdaaDoor
open Go.RowKit
set_option linter.unusedSimpArgs false
set_option linter.unusedVariables false

theorem lastOf_at : ∀ (b : List Ln) (last : List UInt8) (ln : Ln), b[b.length - 1]? = some ln → lastOf last b = ln.sum
  | [], last, ln, h => by simp at h
  | [x], last, ln, h => by simp at h; subst h; rfl
  | x :: y :: b, last, ln, h => by
    rw [lastOf]
    refine lastOf_at (y :: b) x.sum ln ?_
    simpa using h
set_option maxHeartbeats 1000000 in
theorem l15Last_any (v : Value) (b : List Ln) (w : World) (hb : BookIs w v b) :
    Calls Tryd.prog 45 #[v] w fun e w' => e = .returned (.string ⟨(lastOf [] b).toArray⟩) ∧ w = w' := by
  obtain ⟨A, n, c, css, rfl, hA, hcl, hli⟩ := hb
  have hbn : b.length = n := by have := hA.len; omega
  have hcp := hA.cap
  have hmx := hA.max
  unfold maxLen at hmx
  by_cases h0 : n = 0
  · subst h0
    have hb0 : b = [] := List.eq_nil_of_length_eq_zero hbn
    subst hb0
    clear hA hli hcl
    go_enter Tryd.func45, Tryd.ntmps45
    go_wp2
    go_ret
    exact ⟨rfl, rfl⟩
  · obtain ⟨m, rfl⟩ : ∃ m, n = m + 1 := ⟨n - 1, by omega⟩
    obtain ⟨g, off, ln, av, rfl, hg, hbk, hs, hok, x0, x1, x2, x3, x4, x5⟩ := book_get hA hcl hli (Nat.lt_succ_self m)
    have HL := Lib.hid (lastOf_at b [] ln (by rw [hbn]; exact hbk))
    have q1 : IntKind.i64.wrap (((m + 1 : Nat) : Int) - 1) = (m : Int) := (IntWalk.i64_in _ (by omega)).trans (by omega)
    have q2 : (((m + 1 : Nat) : Int) == 0) = false := by simp; omega
    have q3 : ((m : Int) + 1 == 0) = false := by simp; omega
    clear hA hli hcl hbk hs hok x0 x1 x2 x3 x4
    go_enter Tryd.func45, Tryd.ntmps45
    go_wp2
    go_ret
    exact ⟨by rw [HL.out]; rfl, rfl⟩

/-- What adding to a book gives. -/
noncomputable def addTo (b : List Ln) (t : Tl) : List Ln := b ++ [⟨t, lineHash (lastOf [] b) t⟩]
def AddsTo (b : List Ln) (t : Tl) (w : World) (e : Ending) (w' : World) : Prop :=
  Below w.heap.size w w' ∧ ((bookOk b ∧ callOk t.num t.args ∧ b.length < 40 ∧ ∃ u, e = .returned (.tuple #[u, .bool true]) ∧ OwnBk w' w.heap.size w'.heap.size u (addTo b t)) ∨
    (¬ (bookOk b ∧ callOk t.num t.args ∧ b.length < 40) ∧ ∃ u, e = .returned (.tuple #[u, .bool false]) ∧ OwnBk w' w.heap.size w'.heap.size u []))
theorem goodL_args : ∀ (last : List UInt8) (b : List Ln), goodL last b → ∀ ln ∈ b, ln.told.args.length = 4
  | _, [], _, _, h => by simp at h
  | last, x :: b, hg, ln, h => by
    rcases List.mem_cons.1 h with rfl | h
    · exact hg.1.2.1
    · exact goodL_args x.sum b hg.2.2 ln h
theorem OwnBk.nul {w : World} {lo hi : Nat} (h : lo ≤ hi) : OwnBk w lo hi (.slice none 0 0) [] := ⟨[], .nil h, World.ownsRow_nil _ _ _ _, fun g e => by cases e⟩
theorem OwnBk.fresh {w : World} {lo : Nat} (h : lo ≤ w.heap.size) : OwnBk (w.alloc (.cells #[] 32)) lo (w.alloc (.cells #[] 32)).heap.size (.slice (some ⟨w.heap.size, 0, none⟩) 0 0) [] :=
  ⟨[], .nil (by simp; omega), own_emptyB (Blk.new _ _ _) h, fun g e => by cases e; simp⟩
theorem addTo_ok {b : List Ln} {t : Tl} (hb : ∀ ln ∈ b, ln.told.ok) (ht : t.ok) : ∀ ln ∈ addTo b t, ln.told.ok := fun ln h => by
  rcases List.mem_append.1 h with h | h
  · exact hb ln h
  · simp at h; subst h; exact ht
theorem addTo_args {b : List Ln} {t : Tl} (hb : ∀ ln ∈ b, ln.told.args.length = 4) (ht : t.args.length = 4) : ∀ ln ∈ addTo b t, ln.told.args.length = 4 := fun ln h => by
  rcases List.mem_append.1 h with h | h
  · exact hb ln h
  · simp at h; subst h; exact ht
theorem addTo_len (b : List Ln) (t : Tl) : (addTo b t).length = b.length + 1 := by simp [addTo]

/-- A book that is read takes one line more. -/
theorem BookIs.snoc {w w' : World} {lo hi : Nat} {v2 : Value} {b : List Ln} {ln : Ln} {av : Value} {avs : List Value} (h1 : ArgsUp w lo hi b avs) (hok : ∀ x ∈ b, x.told.ok) (ho2 : w'.ownsRow lo 32 6 v2 (b.length + 1) ((lnRows b avs) ++ [lnC ln av]).flatten)
    (hk : ∀ (q n : Nat) (av : Value) (xs : List Value), w.ownsRow q 3 1 av n xs → w'.ownsRow q 3 1 av n xs) (hs : Sl w' 1 av (ints ln.told.args)) (hl : ln.told.ok) : BookIs w' v2 (b ++ [ln]) := by
  have hlen := h1.len
  rw [← lnRows_snoc hlen] at ho2
  have hl2 : (avs ++ [av]).length = (b ++ [ln]).length := by simp [hlen]
  obtain ⟨A, n, c, rfl, hA⟩ := SlA.of_own ho2 ((lnRows_len hl2).trans (by simp)) (lnRows_rows _ _)
  refine ⟨A, n, c, _, rfl, hA, lnRows_len hl2, fun i ln' cs e1 e2 => ?_⟩
  obtain ⟨ln2, av2, e3, e4, rfl⟩ := lnRows_get e2
  obtain rfl := Option.some.inj (e1.symm.trans e3)
  by_cases hi' : i < b.length
  · rw [List.getElem?_append_left hi'] at e1
    rw [List.getElem?_append_left (by omega)] at e4
    exact ⟨av2, rfl, SlA.of_own (hk _ _ _ _ (h1.get i ln' av2 e1 e4).1) (ints_len _) (ints_rows _), hok _ (List.mem_of_getElem? e1)⟩
  · have e : i = b.length := by have := (List.getElem?_eq_some_iff.1 e1).1; simp at this; omega
    subst e
    rw [List.getElem?_append_right (Nat.le_refl _)] at e1
    rw [List.getElem?_append_right (by omega), hlen] at e4
    simp at e1 e4
    subst e1; subst e4
    exact ⟨av, rfl, hs, hl⟩

/-- 'append(out, x)' where the row of the one lies somewhere. -/
theorem wpList_appH {P : Program} {w0 : World} {ops : Array Oper} {rest : List Oper} {o : Oper} {a : Act} {Q : Exit → Act → World → Prop} {e2 : TypeId} {r : List Value} (hgd : o.guard = none) (s x : Operand) (t : TypeId)
    (ho : o.op = .call { callee := .builtin .append, args := #[s, x], argTypes := #[t, t] })
    (base : Nat) (e : TypeId) {z : Value} {size bytes : Nat} (ht : P.underlying t = some (.slice e)) (hinfo : (P.info? e).map (fun i => (i.zero, i.size, i.bytes)) = some (some z, size, bytes))
    (hzs : z.cells.size = size) (hsz : 0 < size) (hby : 0 < bytes)
    (v : Value) (n : Nat) (cs : List (List Value)) (hs : a.eval s = v) (hown : w0.ownsRow base e size v n cs.flatten)
    (hr : r.length = size) (h1 : ∀ u ∈ r, u.oneCell' = true) (h : Nat) (hx : a.eval x = .slice (some ⟨h, 0, none⟩) 1 1) (hB : Blk w0 h e2 r.toArray)
    (hn : (n + 1) * bytes ≤ 140737488355328) (hbase : base ≤ w0.heap.size)
    (H : ∀ v' w', w'.ownsRow base e size v' (n + 1) (cs ++ [r]).flatten → w0.grownBy w' v.ownBlock → v' ≠ .slice none 0 0 → wpList P ops Q rest (a.put o.dst v') w') :
    wpList P ops Q (o :: rest) a w0 := by
  obtain ⟨i0, hi0, hz0, hz1, hz2⟩ := info_parts hinfo
  have hn1 : n + 1 ≤ 140737488355328 := Nat.le_trans (Nat.le_mul_of_pos_right _ hby) hn
  refine wpList_append_own _ hgd s x t ho base e i0 z size bytes ht hi0 hz0 hz1 hz2 hzs hsz v n cs.flatten hs hown ⟨h, 0, none⟩ 1 1 r hx (by omega) (fun j u hu => ?_) h1 (by unfold maxLen; omega) hn hbase
    (fun v' w' hown' hg hv => H v' w' (by simpa using hown') hg (fun e => by have := (hv.1 e).2; omega))
  rw [add_at]
  exact (hB.cell j).trans (by simpa using hu)

/-- What each operation yields where a book takes one line more. -/
def addT (L0 : Nat) (b : List Ln) (t : Tl) (v av : Value) : Nat → World → Value → Prop
  | 0, _, u => u = v
  | 1, w, u => ∃ lo hi avs, L0 ≤ lo ∧ hi ≤ w.heap.size ∧ ArgsUp w lo hi b avs ∧ w.ownsRow lo 32 6 u b.length (lnRows b avs).flatten
  | 2, _, u => u = tldV t av
  | 3, _, u => u = v
  | 4, _, u => u = .string ⟨(lastOf [] b).toArray⟩
  | 5, _, u => u = tldV t av
  | 6, _, u => u = .string ⟨(lineHash (lastOf [] b) t).toArray⟩
  | 7, _, u => u = .agg (lnC ⟨t, lineHash (lastOf [] b) t⟩ av).toArray
  | 8, w, u => ∃ h, u = .slice (some ⟨h, 0, none⟩) 1 1 ∧ Blk w h 32 (lnC ⟨t, lineHash (lastOf [] b) t⟩ av).toArray ∧ L0 ≤ h
  | 9, w, u => BookIs w u (addTo b t)
  | 10, w, u => ∃ lo hi, L0 ≤ lo ∧ hi ≤ w.heap.size ∧ OwnBk w lo hi u (addTo b t)
  | 11, w, u => ∃ lo hi, L0 ≤ lo ∧ hi ≤ w.heap.size ∧ OwnBk w lo hi u (addTo b t)
  | _, _, u => u = .bool true
def addR (i : Nat) (w w' : World) : Prop := i = 9 ∨ Below w.heap.size w w'
def addCon : Nat → Option Nat
  | 1 => some 9
  | 8 => some 9
  | _ => none
theorem addT_keep {L0 : Nat} {b : List Ln} {t : Tl} {v av : Value} (j : Nat) {w w' : World} {u : Value} (hb : Below w.heap.size w w') (h : addT L0 b t v av j w u) : addT L0 b t v av j w' u := by
  match j, h with
  | 0, h => exact h
  | 1, ⟨lo, hi, avs, h1, h2, h3, h4⟩ => exact ⟨lo, hi, avs, h1, Nat.le_trans h2 hb.size, h3.next hb, own_below h4 hb⟩
  | 2, h => exact h
  | 3, h => exact h
  | 4, h => exact h
  | 5, h => exact h
  | 6, h => exact h
  | 7, h => exact h
  | 8, ⟨g, h1, h2, h3⟩ => exact ⟨g, h1, h2.below hb h2.lt, h3⟩
  | 9, h => exact BookIs.below h hb
  | 10, ⟨lo, hi, h1, h2, h3⟩ => exact ⟨lo, hi, h1, Nat.le_trans h2 hb.size, h3.below hb⟩
  | 11, ⟨lo, hi, h1, h2, h3⟩ => exact ⟨lo, hi, h1, Nat.le_trans h2 hb.size, h3.below hb⟩
  | (n + 12), h => exact h

set_option maxRecDepth 100000 in
set_option maxHeartbeats 8000000 in
theorem sBookAdd_any (v : Value) (b : List Ln) (t : Tl) (av : Value) (w : World) (hb : BookIs w v b) (ht : t.ok) (hs : Sl w 1 av (ints t.args)) :
    Calls Tryd.prog 20 #[v, .agg #[.int .i64 t.gate, .int .i64 t.epoch, .int .i64 t.num, av, .int .i64 t.verdict]] w (AddsTo b t w) := by
  have HBI := Lib.hid hb
  obtain ⟨A, n, c, css, rfl, hA, hcl, hli⟩ := hb
  have hbn : b.length = n := by have := hA.len; omega
  have hcp := hA.cap
  have hmx := hA.max
  unfold maxLen at hmx
  have hs0 := hs
  obtain ⟨A2, n2, c2, rfl, hA2⟩ := hs
  have HN := Lib.hid hbn; have HT := Lib.hid ht; have HS := Lib.hid hs0; have HOK := Lib.hid HBI.out.ok
  clear hA hli hcl hbn hs0 hA2 ht
  obtain ⟨W1, hW1⟩ : ∃ W1, W1 = w.alloc (.cells #[.int .i64 t.gate, .int .i64 t.epoch, .int .i64 t.num, .slice A2 n2 c2, .int .i64 t.verdict] 30) := ⟨_, rfl⟩
  have hbW : Below w.heap.size w W1 := by rw [hW1]; go_grown
  have BW : Blk W1 w.heap.size 30 #[.int .i64 t.gate, .int .i64 t.epoch, .int .i64 t.num, .slice A2 n2 c2, .int .i64 t.verdict] := by rw [hW1]; exact Blk.new _ _ _
  have hlt := BW.lt
  have HW1 := Lib.hid hW1; have HBW := Lib.hid hbW; have HB := Lib.hid BW; have HBI1 := Lib.hid (HBI.out.below hbW); have HS1 := Lib.hid (HS.out.below hbW)
  clear hW1 hbW BW
  by_cases hok : bookOk b
  · have HBO := Lib.hid hok; have HBB := Lib.hid (bookOkB_iff.2 hok)
    clear hok
    by_cases hco : callOk t.num t.args
    · have HCO := Lib.hid hco; have HCB := Lib.hid (callOkB_iff.2 hco)
      clear hco
      by_cases h40 : n < 40
      · have h40' : ¬ (40 : Int) ≤ n := by omega
        go_enter Tryd.func20, Tryd.ntmps20
        go_wp2_with fail
        rw [← HW1.out]
        refine (sBookOk_any _ b _ HBI1.out).mono ?_; rintro e w2 ⟨rfl, hb2⟩
        rw [HBB.out]
        have B2 := HB.out.below hb2 hlt
        have q2 := (show _ = some (Value.int .i64 t.num) from B2.cell 2); have q3 := (show _ = some (Value.slice A2 n2 c2) from B2.cell 3)
        have HB2 := Lib.hid B2; have HBI2 := Lib.hid (HBI1.out.below hb2); have HS2 := Lib.hid (HS1.out.below hb2); have HBW2 := Lib.hid (below_then HBW.out hb2)
        clear B2 hb2
        go_wp2_with fail
        refine (sCallOk_any t.num _ t.args _ HS2.out).mono ?_; rintro e w3 ⟨rfl, hb3⟩
        rw [HCB.out]
        have B3 := HB2.out.below hb3 HB2.out.lt
        have p0 := (show _ = some (Value.int .i64 t.gate) from B3.cell 0); have p1 := (show _ = some (Value.int .i64 t.epoch) from B3.cell 1); have p2 := (show _ = some (Value.int .i64 t.num) from B3.cell 2); have p3 := (show _ = some (Value.slice A2 n2 c2) from B3.cell 3); have p4 := (show _ = some (Value.int .i64 t.verdict) from B3.cell 4)
        have hl3 : w.heap.size < w3.heap.size := B3.lt
        have HBI3 := Lib.hid (HBI2.out.below hb3); have HS3 := Lib.hid (HS2.out.below hb3); have HBW3 := Lib.hid (below_then HBW2.out hb3)
        clear B3 hb3 q2 q3
        go_wp2
        refine wp_region_rel (addT w3.heap.size b t (.slice A n c) (.slice A2 n2 c2)) addCon (fun _ _ w' => Below w3.heap.size w3 w') addR (by kernel_rfl) (by kernel_rfl) (Below.refl _ _).drew ?_ ?_
        · intro i j wa wb u hji hcj hwj hR hT
          rcases hR with rfl | hR
          · match j, hji, hcj, hwj, hT with
            | 0, _, _, _, h => exact h
            | 1, _, h, _, _ => exact absurd rfl h
            | 2, _, _, _, h => exact h
            | 3, _, _, _, h => exact h
            | 4, _, _, _, h => exact h
            | 5, _, _, _, h => exact h
            | 6, _, _, _, h => exact h
            | 7, _, _, _, h => exact h
            | 8, _, h, _, _ => exact absurd rfl h
            | 9, h, _, _, _ => exact absurd rfl h
            | 10, _, _, h, _ => exact (Bool.false_ne_true (h.symm.trans (by kernel_rfl))).elim
            | 11, _, _, h, _ => exact (Bool.false_ne_true (h.symm.trans (by kernel_rfl))).elim
            | (m + 12), _, _, _, h => exact h
          · exact addT_keep j hR hT
        · refine wpRel_step [] (by kernel_rfl) (fun L k w9 vals hk hw _ _ _ hT => ?_) ?_
          · simp only [fillR, Act.put, List.setIfInBounds_toArray, List.set_cons_succ, List.set_cons_zero]
            go_wp2
            exact ⟨_, rfl, rfl, hw, .inr (Below.refl _ _), fun _ => rfl⟩
          refine wpRel_step [21] (by kernel_rfl) (fun L k w9 vals hk hw _ _ _ hT => ?_) ?_
          · have t0 := hT 0 21 (by kernel_rfl) (.inl rfl)
            simp only [fillR, Act.put, List.setIfInBounds_toArray, List.set_cons_succ, List.set_cons_zero]
            rw [show vals 21 = _ from t0]
            have HW := Lib.hid hw
            clear hw hT
            go_wp2_with fail
            refine (l15Copy_any _ b _ (HBI3.out.below HW.out) (by have := HN.out; omega) (goodL_args [] b HBO.out.1)).mono ?_; rintro e w8 ⟨u, rfl, ⟨avs, r1, r2, r3⟩, hbb⟩
            have HR1 := Lib.hid r1; have HR2 := Lib.hid r2; have HBB := Lib.hid hbb
            clear r1 r2 r3 hbb
            go_wp2
            exact ⟨_, rfl, rfl, below_then HW.out HBB.out, .inr HBB.out, fun _ => ⟨_, _, avs, HW.out.size, Nat.le_refl _, HR1.out, HR2.out⟩⟩
          refine wpRel_step [] (by kernel_rfl) (fun L k w9 vals hk hw _ _ _ hT => ?_) ?_
          · simp only [fillR, Act.put, List.setIfInBounds_toArray, List.set_cons_succ, List.set_cons_zero]
            have z0 := (hw.cell (p := ⟨w.heap.size, 0, none⟩) hl3).trans p0; have z1 := (hw.cell (p := ⟨w.heap.size, 1, none⟩) hl3).trans p1; have z2 := (hw.cell (p := ⟨w.heap.size, 2, none⟩) hl3).trans p2; have z3 := (hw.cell (p := ⟨w.heap.size, 3, none⟩) hl3).trans p3; have z4 := (hw.cell (p := ⟨w.heap.size, 4, none⟩) hl3).trans p4
            have HW := Lib.hid hw
            clear hw
            go_wp2
            exact ⟨_, rfl, rfl, HW.out, .inr (Below.refl _ _), fun _ => rfl⟩
          refine wpRel_step [] (by kernel_rfl) (fun L k w9 vals hk hw _ _ _ hT => ?_) ?_
          · simp only [fillR, Act.put, List.setIfInBounds_toArray, List.set_cons_succ, List.set_cons_zero]
            go_wp2
            exact ⟨_, rfl, rfl, hw, .inr (Below.refl _ _), fun _ => rfl⟩
          refine wpRel_step [24] (by kernel_rfl) (fun L k w9 vals hk hw _ _ _ hT => ?_) ?_
          · have t3 := hT 3 24 (by kernel_rfl) (.inl rfl)
            simp only [fillR, Act.put, List.setIfInBounds_toArray, List.set_cons_succ, List.set_cons_zero]
            rw [show vals 24 = _ from t3]
            have HW := Lib.hid hw
            clear hw hT
            go_wp2_with fail
            refine (l15Last_any _ b _ (HBI3.out.below HW.out)).mono ?_; rintro e w8 ⟨rfl, rfl⟩
            go_wp2
            exact ⟨_, rfl, rfl, HW.out, .inr (Below.refl _ _), fun _ => rfl⟩
          refine wpRel_step [] (by kernel_rfl) (fun L k w9 vals hk hw _ _ _ hT => ?_) ?_
          · simp only [fillR, Act.put, List.setIfInBounds_toArray, List.set_cons_succ, List.set_cons_zero]
            have z0 := (hw.cell (p := ⟨w.heap.size, 0, none⟩) hl3).trans p0; have z1 := (hw.cell (p := ⟨w.heap.size, 1, none⟩) hl3).trans p1; have z2 := (hw.cell (p := ⟨w.heap.size, 2, none⟩) hl3).trans p2; have z3 := (hw.cell (p := ⟨w.heap.size, 3, none⟩) hl3).trans p3; have z4 := (hw.cell (p := ⟨w.heap.size, 4, none⟩) hl3).trans p4
            have HW := Lib.hid hw
            clear hw
            go_wp2
            exact ⟨_, rfl, rfl, HW.out, .inr (Below.refl _ _), fun _ => rfl⟩
          refine wpRel_step [25, 26] (by kernel_rfl) (fun L k w9 vals hk hw _ _ _ hT => ?_) ?_
          · have t4 := hT 4 25 (by kernel_rfl) (.inl rfl)
            have t5 := hT 5 26 (by kernel_rfl) (.inl rfl)
            simp only [fillR, Act.put, List.setIfInBounds_toArray, List.set_cons_succ, List.set_cons_zero]
            rw [show vals 25 = _ from t4, show vals 26 = _ from t5]
            have HW := Lib.hid hw
            clear hw hT
            go_wp2_with fail
            refine (l15Sum_any (lastOf [] b) t _ _ HT.out (HS3.out.below HW.out) (by have := goodL_last [] b (by simp) HBO.out.1; omega)).mono ?_; rintro e w8 ⟨rfl, hbb⟩
            have HBB := Lib.hid hbb
            clear hbb
            go_wp2
            exact ⟨_, rfl, rfl, below_then HW.out HBB.out, .inr HBB.out, fun _ => rfl⟩
          refine wpRel_step [23, 27] (by kernel_rfl) (fun L k w9 vals hk hw _ _ _ hT => ?_) ?_
          · have t2 := hT 2 23 (by kernel_rfl) (.inl rfl)
            have t6 := hT 6 27 (by kernel_rfl) (.inl rfl)
            simp only [fillR, Act.put, List.setIfInBounds_toArray, List.set_cons_succ, List.set_cons_zero]
            rw [show vals 23 = _ from t2, show vals 27 = _ from t6]
            unfold tldV
            have HW := Lib.hid hw
            clear hw hT
            go_wp2
            exact ⟨_, rfl, rfl, HW.out, .inr (Below.refl _ _), fun _ => rfl⟩
          refine wpRel_step [28] (by kernel_rfl) (fun L k w9 vals hk hw _ _ _ hT => ?_) ?_
          · have t7 := hT 7 28 (by kernel_rfl) (.inl rfl)
            simp only [fillR, Act.put, List.setIfInBounds_toArray, List.set_cons_succ, List.set_cons_zero]
            rw [show vals 28 = _ from t7]
            unfold lnC
            have HW := Lib.hid hw
            clear hw hT
            go_wp2
            exact ⟨_, rfl, rfl, below_then HW.out ((Below.refl _ _).alloc (Nat.le_refl _) _), .inr ((Below.refl _ _).alloc (Nat.le_refl _) _), fun _ => ⟨_, rfl, Blk.new _ _ _, HW.out.size⟩⟩
          refine wpRel_step [22, 29] (by kernel_rfl) (fun L k w9 vals hk hw _ _ _ hT => ?_) ?_
          · have t1 := hT 1 22 (by kernel_rfl) (.inr rfl)
            have t8 := hT 8 29 (by kernel_rfl) (.inr rfl)
            simp only [fillR, Act.put, List.setIfInBounds_toArray, List.set_cons_succ, List.set_cons_zero]
            obtain ⟨lo, hi, avs, r1, r2, r3, r4⟩ := t1
            obtain ⟨h, e8, r5, r6⟩ := t8
            rw [e8]
            have HW := Lib.hid hw; have HR1 := Lib.hid r1; have HR3 := Lib.hid r3; have HR4 := Lib.hid r4; have HR5 := Lib.hid r5
            have hlo : lo ≤ w9.heap.size := Nat.le_trans r3.le r2
            obtain ⟨u1, hu1⟩ : ∃ u1, u1 = vals 22 := ⟨_, rfl⟩
            rw [← hu1]
            rw [← hu1] at HR4
            clear hw hT e8 r1 r2 r3 r4 r5 r6 hu1
            go_wp2_with (at_builtin; go_must (refine wpList_appH rfl (.tmp 22) (.tmp 29) _ rfl lo 32 Tryd.underlying23 info_LineM rfl (by omega) (by omega) u1 b.length (lnRows b avs) rfl HR4.out (r := lnC ⟨t, lineHash (lastOf [] b) t⟩ (.slice A2 n2 c2)) rfl (by simp [lnC, Value.oneCell']) h rfl HR5.out (by have := HN.out; omega) hlo ?_); intro v7 w7 hown7 hg7 _; have HO7 := Lib.hid hown7; have HG7 := Lib.hid hg7; clear hown7 hg7)
            have hbL : Below w3.heap.size w9 w7 := (own_gbB HR4.out HG7.out hlo).mono HR1.out
            exact ⟨_, rfl, rfl, HW.out.trans hbL, .inl rfl, fun _ => BookIs.snoc (ln := ⟨t, lineHash (lastOf [] b) t⟩) HR3.out HOK.out HO7.out (fun q n av xs h => h.kept HG7.out (own_kinds h HR4.out (by decide))) (HS3.out.below (HW.out.trans hbL)) HT.out⟩
          refine wpRel_step [30] (by kernel_rfl) (fun L k w9 vals hk hw _ _ _ hT => ?_) ?_
          · have t9 := hT 9 30 (by kernel_rfl) (.inl rfl)
            simp only [fillR, Act.put, List.setIfInBounds_toArray, List.set_cons_succ, List.set_cons_zero]
            have HW := Lib.hid hw; have HBK := Lib.hid (show BookIs w9 (vals 30) (addTo b t) from t9)
            obtain ⟨u1, hu1⟩ : ∃ u1, u1 = vals 30 := ⟨_, rfl⟩
            rw [← hu1]
            rw [← hu1] at HBK
            clear hw hT t9 hu1
            go_wp2_with fail
            refine (l15Copy_any _ (addTo b t) _ HBK.out (by rw [addTo_len]; have := HN.out; omega) (addTo_args (goodL_args [] b HBO.out.1) HCO.out.2.1)).mono ?_; rintro e w8 ⟨u, rfl, r1, hbb⟩
            have HR1 := Lib.hid r1; have HBB := Lib.hid hbb
            clear r1 hbb
            go_wp2
            exact ⟨_, rfl, rfl, below_then HW.out HBB.out, .inr HBB.out, fun _ => ⟨_, _, HW.out.size, Nat.le_refl _, HR1.out⟩⟩
          refine wpRel_step [31] (by kernel_rfl) (fun L k w9 vals hk hw _ _ _ hT => ?_) ?_
          · have t10 := hT 10 31 (by kernel_rfl) (.inl rfl)
            simp only [fillR, Act.put, List.setIfInBounds_toArray, List.set_cons_succ, List.set_cons_zero]
            have HW := Lib.hid hw; have HBK := Lib.hid t10
            obtain ⟨u1, hu1⟩ : ∃ u1, u1 = vals 31 := ⟨_, rfl⟩
            rw [← hu1]
            rw [← hu1] at HBK
            clear hw hT t10 hu1
            go_wp2
            exact ⟨_, rfl, rfl, HW.out, .inr (Below.refl _ _), fun _ => HBK.out⟩
          refine wpRel_step [] (by kernel_rfl) (fun L k w9 vals hk hw _ _ _ hT => ?_) ?_
          · simp only [fillR, Act.put, List.setIfInBounds_toArray, List.set_cons_succ, List.set_cons_zero]
            go_wp2
            exact ⟨_, rfl, rfl, hw, .inr (Below.refl _ _), fun _ => rfl⟩
          refine wpRel_end [21, 22, 23, 24, 25, 26, 27, 28, 29, 30, 31, 4, 5] (by kernel_rfl) (fun L w9 vals _ hw hT => ?_)
          obtain ⟨lo, hi, r1, r2, r3⟩ := hT 11 4 (by kernel_rfl) rfl
          have r5 := hT 12 5 (by kernel_rfl) rfl
          simp only [fillR, Act.put, List.setIfInBounds_toArray, List.set_cons_succ, List.set_cons_zero]
          rw [show vals 5 = _ from r5]
          have HW := Lib.hid hw; have HR := Lib.hid r3; have HL1 := Lib.hid r1; have HL2 := Lib.hid r2
          clear hw hT r1 r2 r3 r5
          go_wp2
          go_ret2
          have hx := below_then HBW3.out HW.out
          refine ⟨hx, .inl ⟨HBO.out, HCO.out, by rw [HN.out]; exact h40, _, rfl, ?_⟩⟩
          obtain ⟨avs, s1, s2, s3⟩ := HR.out
          have hlo : w.heap.size ≤ lo := Nat.le_trans HBW3.out.size HL1.out
          exact ⟨avs, (s1.low hlo).up HL2.out, own_base s2 hlo, fun g e => Nat.lt_of_lt_of_le (s3 g e) HL2.out⟩
      · have h40' : (40 : Int) ≤ n := by omega
        go_enter Tryd.func20, Tryd.ntmps20
        go_wp2_with fail
        rw [← HW1.out]
        refine (sBookOk_any _ b _ HBI1.out).mono ?_; rintro e w2 ⟨rfl, hb2⟩
        rw [HBB.out]
        have B2 := HB.out.below hb2 hlt
        have q2 := (show _ = some (Value.int .i64 t.num) from B2.cell 2); have q3 := (show _ = some (Value.slice A2 n2 c2) from B2.cell 3)
        have HS2 := Lib.hid (HS1.out.below hb2); have HBW2 := Lib.hid (below_then HBW.out hb2)
        clear B2 hb2
        go_wp2_with fail
        refine (sCallOk_any t.num _ t.args _ HS2.out).mono ?_; rintro e w3 ⟨rfl, hb3⟩
        rw [HCB.out]
        have HBX := Lib.hid (below_then HBW2.out hb3)
        clear hb3 q2 q3
        go_wp2
        go_ret2
        exact ⟨HBX.out.trans ((Below.refl _ _).alloc HBX.out.size _), .inr ⟨fun h => h40 (by rw [← HN.out]; exact h.2.2), _, rfl, OwnBk.fresh HBX.out.size⟩⟩
    · have HCO := Lib.hid hco; have HCB := Lib.hid (show callOkB t.num t.args = false by rw [← Bool.not_eq_true, callOkB_iff]; exact hco)
      clear hco
      go_enter Tryd.func20, Tryd.ntmps20
      go_wp2_with fail
      rw [← HW1.out]
      refine (sBookOk_any _ b _ HBI1.out).mono ?_; rintro e w2 ⟨rfl, hb2⟩
      rw [HBB.out]
      have B2 := HB.out.below hb2 hlt
      have q2 := (show _ = some (Value.int .i64 t.num) from B2.cell 2); have q3 := (show _ = some (Value.slice A2 n2 c2) from B2.cell 3)
      have HS2 := Lib.hid (HS1.out.below hb2); have HBW2 := Lib.hid (below_then HBW.out hb2)
      clear B2 hb2
      go_wp2_with fail
      refine (sCallOk_any t.num _ t.args _ HS2.out).mono ?_; rintro e w3 ⟨rfl, hb3⟩
      rw [HCB.out]
      have HBX := Lib.hid (below_then HBW2.out hb3)
      clear hb3 q2 q3
      go_wp2
      go_ret2
      exact ⟨HBX.out.trans ((Below.refl _ _).alloc HBX.out.size _), .inr ⟨fun h => HCO.out h.2.1, _, rfl, OwnBk.fresh HBX.out.size⟩⟩
  · have HBO := Lib.hid hok; have HBB := Lib.hid (show bookOkB b = false by rw [← Bool.not_eq_true, bookOkB_iff]; exact hok)
    clear hok
    go_enter Tryd.func20, Tryd.ntmps20
    go_wp2_with fail
    rw [← HW1.out]
    refine (sBookOk_any _ b _ HBI1.out).mono ?_; rintro e w2 ⟨rfl, hb2⟩
    rw [HBB.out]
    have HBX := Lib.hid (below_then HBW.out hb2)
    clear hb2
    go_wp2
    go_ret2
    exact ⟨HBX.out.trans ((Below.refl _ _).alloc HBX.out.size _), .inr ⟨fun h => HBO.out h.1, _, rfl, OwnBk.fresh HBX.out.size⟩⟩
end Go.Proofs.YtaieopdfkapgdaaDoor

-- The program's books: slices.Reverse of lines, (*page).lines.
namespace Go.Proofs.YtaieopdfkapgdaaDoor
open Go.RowKit
set_option linter.unusedSimpArgs false
set_option linter.unusedVariables false

theorem own_setRun {w : World} {base : Nat} {e : TypeId} {size n g cap i : Nat} {rows : List (List Value)} {r : List Value} (h : w.ownsRow base e size (.slice (some ⟨g, 0, none⟩) n cap) n rows.flatten) (hl : rows.length = n) (hrow : ∀ r ∈ rows, r.length = size) (hi : i < n) (hr : r.length = size) :
    (setRun w g (i * size) r).ownsRow base e size (.slice (some ⟨g, 0, none⟩) n cap) n (rows.set i r).flatten := by
  have hrow' : ∀ x ∈ rows.set i r, x.length = size := fun x hx => by
    rcases List.mem_or_eq_of_mem_set hx with h | h
    · exact hrow x h
    · rw [h]; exact hr
  have hl' : (rows.set i r).length = n := by rw [List.length_set]; exact hl
  refine ⟨by rw [flat_len _ hrow', hl'], ?_⟩
  rcases h.2 with ⟨h0, _⟩ | ⟨g', cap', cur, e1, hge, hg, hmc, hm, hcs, htake⟩
  · cases h0
  · injection e1 with e1 _ e3
    injection e1 with e1
    injection e1 with e1 _ _
    subst e1; subst e3
    refine .inr ⟨g, cap, setArr cur (i * size) r, rfl, hge, Blk.run r w cur _ hg, hmc, hm, (setArr_size _ _ _).trans hcs, ?_⟩
    apply List.ext_getElem?
    intro j
    have hnc : n * size ≤ cap * size := Nat.mul_le_mul_right _ hmc
    by_cases hj : j < n * size
    · have hz : 0 < size := Nat.pos_of_ne_zero (fun e => by subst e; simp at hj)
      have hk : j / size < n := (Nat.div_lt_iff_lt_mul hz).2 hj
      have hjm : j / size * size + j % size = j := by rw [Nat.mul_comm]; exact Nat.div_add_mod j size
      have hmz : j % size < size := Nat.mod_lt _ hz
      rw [List.getElem?_take, if_pos hj]
      by_cases hki : j / size = i
      · have h1 : (rows.set i r)[j / size]? = some r := by rw [hki, List.getElem?_set_self (by omega)]
        have hrm : r[j % size]? = some (r[j % size]'(by omega)) := List.getElem?_eq_getElem (by omega)
        have h2 := flat_get _ hrow' _ _ h1 _ _ hrm
        rw [hjm] at h2
        rw [h2]
        have hle : i * size + r.length ≤ cur.size := by
          rw [hr, hcs]
          have : (i + 1) * size ≤ cap * size := Nat.mul_le_mul_right _ (by omega)
          rw [Nat.succ_mul] at this
          omega
        have h3 := setArr_in r cur (i * size) (j % size) _ hrm hle
        rw [← hki, hjm] at h3
        rw [hki] at h3
        simpa using h3
      · have h1 : (rows.set i r)[j / size]? = rows[j / size]? := List.getElem?_set_ne (fun e => hki e.symm)
        have hrk : rows[j / size]? = some (rows[j / size]'(by omega)) := List.getElem?_eq_getElem (by omega)
        have hrl := hrow _ (List.getElem_mem (l := rows) (n := j / size) (by omega))
        have hrm : (rows[j / size]'(by omega))[j % size]? = some ((rows[j / size]'(by omega))[j % size]'(by omega)) := List.getElem?_eq_getElem (by omega)
        have h2 := flat_get _ hrow' _ _ (h1.trans hrk) _ _ hrm
        have h3 := flat_get _ hrow _ _ hrk _ _ hrm
        rw [hjm] at h2 h3
        rw [h2]
        have ho : j < i * size ∨ i * size + r.length ≤ j := by
          rw [hr]
          rcases Nat.lt_or_gt_of_ne hki with h | h
          · left
            have : (j / size + 1) * size ≤ i * size := Nat.mul_le_mul_right _ h
            rw [Nat.succ_mul] at this
            omega
          · right
            have : (i + 1) * size ≤ j / size * size := Nat.mul_le_mul_right _ h
            rw [Nat.succ_mul] at this
            omega
        have h4 := setArr_out r cur (i * size) j ho
        rw [← htake, List.getElem?_take, if_pos hj] at h3
        rw [← h3]
        simpa using h4
    · rw [List.getElem?_eq_none (by simp; omega), List.getElem?_eq_none (by rw [flat_len _ hrow', hl']; omega)]
theorem own_ref {w : World} {base : Nat} {e : TypeId} {size n : Nat} {v : Value} {xs : List Value} (h : w.ownsRow base e size v n xs) (hn : 0 < n) (hz : 0 < size) : ∃ g cap, v = .slice (some ⟨g, 0, none⟩) n cap ∧ base ≤ g ∧ g < w.heap.size ∧ n ≤ cap ∧ cap ≤ maxLen ∧ (∀ j, j < n * size → w.frozen? ⟨g, j, none⟩ = false) ∧ ∀ j u, xs[j]? = some u → w.cell? ⟨g, j, none⟩ = some u := by
  rcases h.2 with ⟨rfl, h0⟩ | ⟨g, cap, cur, rfl, hge, hg, hmc, hm, hcs, htake⟩
  · omega
  · refine ⟨g, cap, rfl, hge, (Array.getElem?_eq_some_iff.1 hg).1, hmc, hm, fun j _ => by simp [World.frozen?, hg], fun j u hu => ?_⟩
    rw [cell_of_row w g j cur e (0, 0) hg]
    rw [← htake, List.getElem?_take] at hu
    split at hu
    · simpa using hu
    · cases hu

/-- The first and the last k of these have changed places. -/
def RevTo (rows ys : List (List Value)) (k : Nat) : Prop := ys.length = rows.length ∧ ∀ i, i < rows.length → ys[i]? = if i < k ∨ rows.length < i + k + 1 then rows[rows.length - 1 - i]? else rows[i]?
theorem RevTo.zero (rows : List (List Value)) : RevTo rows rows 0 := ⟨rfl, fun i hi => by rw [if_neg (by omega)]⟩
theorem RevTo.rows {rows ys : List (List Value)} {k size : Nat} (h : RevTo rows ys k) (hr : ∀ r ∈ rows, r.length = size) : ∀ r ∈ ys, r.length = size := fun r hm => by
  obtain ⟨i, hi⟩ := List.mem_iff_getElem?.1 hm
  have hil : i < rows.length := by rw [← h.1]; exact (List.getElem?_eq_some_iff.1 hi).1
  rw [h.2 i hil] at hi
  split at hi <;> exact hr r (List.mem_of_getElem? hi)
theorem RevTo.next {rows ys : List (List Value)} {k : Nat} {a b : List Value} (h : RevTo rows ys k) (hk : k + (k + 1) < rows.length) (ha : ys[k]? = some a) (hb : ys[rows.length - 1 - k]? = some b) : RevTo rows ((ys.set k b).set (rows.length - 1 - k) a) (k + 1) := by
  have ha' := ha; have hb' := hb
  rw [h.2 k (by omega), if_neg (by omega)] at ha'
  rw [h.2 _ (by omega), if_neg (by omega)] at hb'
  refine ⟨by simp [h.1], fun i hi => ?_⟩
  by_cases e1 : i = rows.length - 1 - k
  · subst e1
    rw [List.getElem?_set_self (by simp [h.1]; omega), if_pos (by omega), show rows.length - 1 - (rows.length - 1 - k) = k by omega, ha']
  · rw [List.getElem?_set_ne (fun e => e1 e.symm)]
    by_cases e2 : i = k
    · subst e2
      rw [List.getElem?_set_self (by rw [h.1]; omega), if_pos (by omega), hb']
    · rw [List.getElem?_set_ne (fun e => e2 e.symm), h.2 i hi]
      by_cases e3 : i < k ∨ rows.length < i + k + 1
      · rw [if_pos e3, if_pos (by omega)]
      · rw [if_neg e3, if_neg (by omega)]
theorem RevTo.end_ {rows ys : List (List Value)} {k : Nat} (h : RevTo rows ys k) (hk : rows.length ≤ k + (k + 1)) : ys = rows.reverse := by
  apply List.ext_getElem?
  intro i
  by_cases hi : i < rows.length
  · rw [h.2 i hi, List.getElem?_reverse hi]
    by_cases e : i < k ∨ rows.length < i + k + 1
    · rw [if_pos e]
    · rw [if_neg e, show rows.length - 1 - i = i by omega]
  · rw [List.getElem?_eq_none (by rw [h.1]; omega), List.getElem?_eq_none (by simp; omega)]

theorem RevTo.mem {rows ys : List (List Value)} {k i : Nat} {r : List Value} (h : RevTo rows ys k) (hi : ys[i]? = some r) : r ∈ rows := by
  have hil : i < rows.length := by rw [← h.1]; exact (List.getElem?_eq_some_iff.1 hi).1
  rw [h.2 i hil] at hi
  split at hi <;> exact List.mem_of_getElem? hi
theorem own_there {w : World} {base : Nat} {e : TypeId} {n g cap i : Nat} {xs : List Value} (h : w.ownsRow base e 6 (.slice (some ⟨g, 0, none⟩) n cap) n xs) (hi : i < n) : w.there g (i * 6) 6 := fun j hj => by
  obtain ⟨g', cap', e1, _, _, _, _, hfz, hcell⟩ := own_ref h (by omega) (by omega)
  injection e1 with e1; injection e1 with e1; injection e1 with e1
  subst e1
  have hlt : i * 6 + j < xs.length := by rw [h.1]; omega
  exact ⟨by rw [hcell _ _ (List.getElem?_eq_getElem hlt)]; rfl, hfz _ (by omega)⟩
theorem grown_run (w : World) (g o : Nat) (vs : List Value) : w.grownBy (setRun w g o vs) (some g) := by
  induction vs generalizing w o with
  | nil => exact World.grownBy.refl _ _
  | cons v vs ih => exact (grown_set w g o v).trans (ih _ _)
theorem storeL {ops : Array Oper} {rest : List Oper} {o : Oper} {a : Act} {w : World} {Q : Exit → Act → World → Prop} (hgd : o.guard = none) (x y : Operand) (ho : o.op = .store 32 x y)
    (g i : Nat) (cells : Array Value) (hx : a.eval x = .pointer (some ⟨g, i, none⟩)) (hy : a.eval y = .agg cells) (hs : cells.size = 6) (h1 : ∀ u ∈ cells.toList, u.oneCell' = true) (ht : w.there g i 6)
    (h : wpList Tryd.prog ops Q rest (a.put o.dst undef) (setRun w g i cells.toList)) : wpList Tryd.prog ops Q (o :: rest) a w :=
  wpList_store_mid hgd 32 x y ho g i cells hx hy (by rw [hs]; exact ht) (by rw [hs]; kernel_rfl) (Array.all_eq_true_iff_forall_mem.2 fun v hv => h1 v (by simpa using hv)) (by rw [setCells_run]; exact h)
theorem ret_v {a b : Int} (h : a = b) : Value.int .i64 a = .int .i64 b := by rw [h]
def revT (g n cap k m : Nat) (a b : Array Value) : Nat → Value
  | 1 => .int .i64 k
  | 3 => .int .i64 m
  | 5 => .int .i64 m
  | 6 => .pointer (some ⟨g, m * 6, none⟩)
  | 7 => .agg b
  | 9 => .int .i64 k
  | 10 => .pointer (some ⟨g, k * 6, none⟩)
  | 11 => .agg a
  | 12 => .pointer (some ⟨g, k * 6, none⟩)
  | 14 => .pointer (some ⟨g, m * 6, none⟩)
  | _ => .slice (some ⟨g, 0, none⟩) n cap
def revR (ys : List (List Value)) (k m : Nat) (a b : List Value) : Bool → Bool → List (List Value)
  | false, false => ys
  | true, false => ys.set k b
  | false, true => ys.set m a
  | true, true => (ys.set k b).set m a

set_option maxRecDepth 100000 in
set_option maxHeartbeats 8000000 in
theorem reverse_any (base n : Nat) (v : Value) (rows : List (List Value)) (w : World) (h : w.ownsRow base 32 6 v n rows.flatten) (hl : rows.length = n) (hr : ∀ r ∈ rows, r.length = 6) (hone : ∀ r ∈ rows, ∀ u ∈ r, u.oneCell' = true) (hn : n ≤ 100000) :
    Calls Tryd.prog 64 #[v] w fun e w' => e = .returned (.tuple #[]) ∧ w'.ownsRow base 32 6 v n rows.reverse.flatten ∧ w.grownBy w' v.ownBlock := by
  by_cases h0 : n = 0
  · subst h0
    have hrw : rows = [] := List.eq_nil_of_length_eq_zero hl
    subst hrw
    obtain ⟨A, n', c, rfl, hA⟩ := SlA.of_own h rfl hr
    have hn' : n' = 0 := by have := hA.len; simpa using this.symm
    subst hn'
    have H := Lib.hid h
    clear hA h
    go_enter Tryd.func64, Tryd.ntmps64
    go_wp2
    refine wp_loop_rounds 1 ?_
    rw [rounds_succ]
    go_wp2
    go_end0
    exact ⟨rfl, H.out, World.grownBy.refl _ _⟩
  · obtain ⟨g, cap, rfl, hge, hgl, hnc, hcm, hfz, hcell⟩ := own_ref h (by omega) (by omega)
    unfold maxLen at hcm
    have H := Lib.hid h; have HL := Lib.hid hl; have HR := Lib.hid hr; have HONE := Lib.hid hone
    have q1 : IntKind.i64.wrap ((n : Int) - 1) = (n : Int) - 1 := IntWalk.i64_in _ (by omega)
    clear h hl hr hone hfz hcell
    go_enter Tryd.func64, Tryd.ntmps64
    go_wp2
    go_loopw [2, 3] (fun i j wr => ∃ (k : Nat) (ys : List (List Value)), k ≤ n ∧ i = .int .i64 k ∧ j = .int .i64 ((n : Int) - 1 - k) ∧ Hid (RevTo rows ys k ∧ wr.ownsRow base 32 6 (.slice (some ⟨g, 0, none⟩) n cap) n ys.flatten) ∧ w.grownBy wr (some g)) (fun i _ _ => n - (intOf i).toNat)
    case atStart => exact ⟨0, rows, by omega, rfl, by simp, Lib.hid ⟨RevTo.zero rows, H.out⟩, World.grownBy.refl _ _⟩
    case round =>
      obtain ⟨k, ys, hk, rfl, rfl, HY, hg⟩ := hrel
      by_cases hlt : k + (k + 1) < n
      · obtain ⟨m, hm⟩ : ∃ m, m = n - 1 - k := ⟨_, rfl⟩
        have hmi : (n : Int) - 1 - k = (m : Int) := by omega
        have hkm : (k : Int) < (m : Int) := by omega
        have hmn : (m : Int) < n := by omega
        have hkn : (k : Int) < n := by omega
        have hmn' : m < n := by omega
        have hkn' : k < n := by omega
        have hyl : ys.length = n := HY.out.1.1.trans HL.out
        obtain ⟨ra, hra⟩ : ∃ r, ys[k]? = some r := ⟨_, List.getElem?_eq_getElem (by omega)⟩
        obtain ⟨rb, hrb⟩ : ∃ r, ys[m]? = some r := ⟨_, List.getElem?_eq_getElem (by omega)⟩
        obtain ⟨a0, a1, a2, a3, a4, a5, rfl⟩ := six_of (HY.out.1.rows HR.out ra (List.mem_of_getElem? hra))
        obtain ⟨b0, b1, b2, b3, b4, b5, rfl⟩ := six_of (HY.out.1.rows HR.out rb (List.mem_of_getElem? hrb))
        have HXA := Lib.hid hra; have HXB := Lib.hid hrb; have HG := Lib.hid hg; have HM := Lib.hid hm
        have HLT := Lib.hid hlt
        rw [hmi]
        clear hra hrb hg hyl hm hmi hlt hk
        go_wp2
        refine wp_region_rel (fun i _ u => u = revT g n cap k m #[a0, a1, a2, a3, a4, a5] #[b0, b1, b2, b3, b4, b5] i) (fun _ => none) (fun L _ w' => w'.ownsRow base 32 6 (.slice (some ⟨g, 0, none⟩) n cap) n (revR ys k m [a0, a1, a2, a3, a4, a5] [b0, b1, b2, b3, b4, b5] (L 13) (L 15)).flatten ∧ w.grownBy w' (some g)) (fun _ _ _ => True) (by kernel_rfl) (by kernel_rfl) ⟨HY.out.2.drew, HG.out.trans (grown_drew _ _)⟩ (fun _ _ _ _ _ _ _ _ _ h => h) ?_
        refine wpRel_step [] (by kernel_rfl) (fun L kk w9 vals hk hw hun hcl hdl hT => ?_) ?_
        · simp only [fillR, Act.put, List.setIfInBounds_toArray, List.set_cons_succ, List.set_cons_zero]
          have HW := Lib.hid hw
          clear hw hun hcl hdl hT
          go_wp2
          exact ⟨_, rfl, rfl, by simpa [putL] using HW.out, trivial, fun _ => rfl⟩
        refine wpRel_step [] (by kernel_rfl) (fun L kk w9 vals hk hw hun hcl hdl hT => ?_) ?_
        · simp only [fillR, Act.put, List.setIfInBounds_toArray, List.set_cons_succ, List.set_cons_zero]
          have HW := Lib.hid hw
          clear hw hun hcl hdl hT
          go_wp2
          exact ⟨_, rfl, rfl, by simpa [putL] using HW.out, trivial, fun _ => rfl⟩
        refine wpRel_step [] (by kernel_rfl) (fun L kk w9 vals hk hw hun hcl hdl hT => ?_) ?_
        · simp only [fillR, Act.put, List.setIfInBounds_toArray, List.set_cons_succ, List.set_cons_zero]
          have HW := Lib.hid hw
          clear hw hun hcl hdl hT
          go_wp2
          exact ⟨_, rfl, rfl, by simpa [putL] using HW.out, trivial, fun _ => rfl⟩
        refine wpRel_step [] (by kernel_rfl) (fun L kk w9 vals hk hw hun hcl hdl hT => ?_) ?_
        · simp only [fillR, Act.put, List.setIfInBounds_toArray, List.set_cons_succ, List.set_cons_zero]
          have HW := Lib.hid hw
          clear hw hun hcl hdl hT
          go_wp2
          exact ⟨_, rfl, rfl, by simpa [putL] using HW.out, trivial, fun _ => rfl⟩
        refine wpRel_step [] (by kernel_rfl) (fun L kk w9 vals hk hw hun hcl hdl hT => ?_) ?_
        · simp only [fillR, Act.put, List.setIfInBounds_toArray, List.set_cons_succ, List.set_cons_zero]
          have HW := Lib.hid hw
          clear hw hun hcl hdl hT
          go_wp2
          exact ⟨_, rfl, rfl, by simpa [putL] using HW.out, trivial, fun _ => rfl⟩
        refine wpRel_step [] (by kernel_rfl) (fun L kk w9 vals hk hw hun hcl hdl hT => ?_) ?_
        · simp only [fillR, Act.put, List.setIfInBounds_toArray, List.set_cons_succ, List.set_cons_zero]
          have HW := Lib.hid hw
          clear hw hun hcl hdl hT
          go_wp2
          exact ⟨_, rfl, rfl, by simpa [putL] using HW.out, trivial, fun _ => rfl⟩
        refine wpRel_step [18, 19] (by kernel_rfl) (fun L kk w9 vals hk hw hun hcl hdl hT => ?_) ?_
        · have t4 := hT 4 18 (by kernel_rfl) (.inl rfl)
          have t5 := hT 5 19 (by kernel_rfl) (.inl rfl)
          simp only [fillR, Act.put, List.setIfInBounds_toArray, List.set_cons_succ, List.set_cons_zero]
          rw [show vals 18 = Value.slice (some ⟨g, 0, none⟩) n cap from t4, show vals 19 = Value.int .i64 m from t5]
          have HW := Lib.hid hw
          clear hw hun hcl hdl hT
          go_wp2
          exact ⟨_, rfl, rfl, by simpa [putL] using HW.out, trivial, fun _ => rfl⟩
        refine wpRel_step [20] (by kernel_rfl) (fun L kk w9 vals hk hw hun hcl hdl hT => ?_) ?_
        · have t6 := hT 6 20 (by kernel_rfl) (.inl rfl)
          simp only [fillR, Act.put, List.setIfInBounds_toArray, List.set_cons_succ, List.set_cons_zero]
          rw [show vals 20 = Value.pointer (some ⟨g, m * 6, none⟩) from t6]
          have h13 := hcl 13 (by kernel_rfl); have h15 := hcl 15 (by kernel_rfl)
          have hw2 := hw
          rw [h13, h15] at hw2
          obtain ⟨g2, cap2, e2, -, -, -, -, hfz, hcell⟩ := own_ref hw2.1 (by omega) (by omega)
          injection e2 with e2 _ e3; injection e2 with e2; injection e2 with e2 _ _; subst e2; subst e3
          have z0 := hcell (m * 6 + 0) _ (flat_get _ (HY.out.1.rows HR.out) m _ HXB.out 0 _ rfl)
          have z1 := hcell (m * 6 + 1) _ (flat_get _ (HY.out.1.rows HR.out) m _ HXB.out 1 _ rfl)
          have z2 := hcell (m * 6 + 2) _ (flat_get _ (HY.out.1.rows HR.out) m _ HXB.out 2 _ rfl)
          have z3 := hcell (m * 6 + 3) _ (flat_get _ (HY.out.1.rows HR.out) m _ HXB.out 3 _ rfl)
          have z4 := hcell (m * 6 + 4) _ (flat_get _ (HY.out.1.rows HR.out) m _ HXB.out 4 _ rfl)
          have z5 := hcell (m * 6 + 5) _ (flat_get _ (HY.out.1.rows HR.out) m _ HXB.out 5 _ rfl)
          have HW := Lib.hid hw
          clear hw hun hcl hdl hT hw2 hfz hcell h13 h15
          simp only [Nat.add_zero] at z0
          go_wp2
          exact ⟨_, rfl, rfl, by simpa [putL] using HW.out, trivial, fun _ => rfl⟩
        refine wpRel_step [] (by kernel_rfl) (fun L kk w9 vals hk hw hun hcl hdl hT => ?_) ?_
        · simp only [fillR, Act.put, List.setIfInBounds_toArray, List.set_cons_succ, List.set_cons_zero]
          have HW := Lib.hid hw
          clear hw hun hcl hdl hT
          go_wp2
          exact ⟨_, rfl, rfl, by simpa [putL] using HW.out, trivial, fun _ => rfl⟩
        refine wpRel_step [] (by kernel_rfl) (fun L kk w9 vals hk hw hun hcl hdl hT => ?_) ?_
        · simp only [fillR, Act.put, List.setIfInBounds_toArray, List.set_cons_succ, List.set_cons_zero]
          have HW := Lib.hid hw
          clear hw hun hcl hdl hT
          go_wp2
          exact ⟨_, rfl, rfl, by simpa [putL] using HW.out, trivial, fun _ => rfl⟩
        refine wpRel_step [22, 23] (by kernel_rfl) (fun L kk w9 vals hk hw hun hcl hdl hT => ?_) ?_
        · have t8 := hT 8 22 (by kernel_rfl) (.inl rfl)
          have t9 := hT 9 23 (by kernel_rfl) (.inl rfl)
          simp only [fillR, Act.put, List.setIfInBounds_toArray, List.set_cons_succ, List.set_cons_zero]
          rw [show vals 22 = Value.slice (some ⟨g, 0, none⟩) n cap from t8, show vals 23 = Value.int .i64 k from t9]
          have HW := Lib.hid hw
          clear hw hun hcl hdl hT
          go_wp2
          exact ⟨_, rfl, rfl, by simpa [putL] using HW.out, trivial, fun _ => rfl⟩
        refine wpRel_step [24] (by kernel_rfl) (fun L kk w9 vals hk hw hun hcl hdl hT => ?_) ?_
        · have t10 := hT 10 24 (by kernel_rfl) (.inl rfl)
          simp only [fillR, Act.put, List.setIfInBounds_toArray, List.set_cons_succ, List.set_cons_zero]
          rw [show vals 24 = Value.pointer (some ⟨g, k * 6, none⟩) from t10]
          have h13 := hcl 13 (by kernel_rfl); have h15 := hcl 15 (by kernel_rfl)
          have hw2 := hw
          rw [h13, h15] at hw2
          obtain ⟨g2, cap2, e2, -, -, -, -, hfz, hcell⟩ := own_ref hw2.1 (by omega) (by omega)
          injection e2 with e2 _ e3; injection e2 with e2; injection e2 with e2 _ _; subst e2; subst e3
          have z0 := hcell (k * 6 + 0) _ (flat_get _ (HY.out.1.rows HR.out) k _ HXA.out 0 _ rfl)
          have z1 := hcell (k * 6 + 1) _ (flat_get _ (HY.out.1.rows HR.out) k _ HXA.out 1 _ rfl)
          have z2 := hcell (k * 6 + 2) _ (flat_get _ (HY.out.1.rows HR.out) k _ HXA.out 2 _ rfl)
          have z3 := hcell (k * 6 + 3) _ (flat_get _ (HY.out.1.rows HR.out) k _ HXA.out 3 _ rfl)
          have z4 := hcell (k * 6 + 4) _ (flat_get _ (HY.out.1.rows HR.out) k _ HXA.out 4 _ rfl)
          have z5 := hcell (k * 6 + 5) _ (flat_get _ (HY.out.1.rows HR.out) k _ HXA.out 5 _ rfl)
          have HW := Lib.hid hw
          clear hw hun hcl hdl hT hw2 hfz hcell h13 h15
          simp only [Nat.add_zero] at z0
          go_wp2
          exact ⟨_, rfl, rfl, by simpa [putL] using HW.out, trivial, fun _ => rfl⟩
        refine wpRel_step [14, 15] (by kernel_rfl) (fun L kk w9 vals hk hw hun hcl hdl hT => ?_) ?_
        · have t0 := hT 0 14 (by kernel_rfl) (.inl rfl)
          have t1 := hT 1 15 (by kernel_rfl) (.inl rfl)
          simp only [fillR, Act.put, List.setIfInBounds_toArray, List.set_cons_succ, List.set_cons_zero]
          rw [show vals 14 = Value.slice (some ⟨g, 0, none⟩) n cap from t0, show vals 15 = Value.int .i64 k from t1]
          have HW := Lib.hid hw
          clear hw hun hcl hdl hT
          go_wp2
          exact ⟨_, rfl, rfl, by simpa [putL] using HW.out, trivial, fun _ => rfl⟩
        refine wpRel_step [26, 21] (by kernel_rfl) (fun L kk w9 vals hk hw hun hcl hdl hT => ?_) ?_
        · have t12 := hT 12 26 (by kernel_rfl) (.inl rfl)
          have t7 := hT 7 21 (by kernel_rfl) (.inl rfl)
          simp only [fillR, Act.put, List.setIfInBounds_toArray, List.set_cons_succ, List.set_cons_zero]
          rw [show vals 26 = Value.pointer (some ⟨g, k * 6, none⟩) from t12, show vals 21 = Value.agg #[b0, b1, b2, b3, b4, b5] from t7]
          have h13 := hun; have h15 := hcl 15 (by kernel_rfl)
          have hw2 := hw
          rw [h13, h15] at hw2
          obtain ⟨g2, cap2, e2, -, -, hnc2, hcm2, hfz, hcell⟩ := own_ref hw2.1 (by omega) (by omega)
          injection e2 with e2 _ e3; injection e2 with e2; injection e2 with e2 _ _; subst e2; subst e3
          have HTH : Hid (w9.there g (k * 6) 6) := own_there hw2.1 (by omega)
          have HW := Lib.hid hw2; have HH13 := Lib.hid h13; have HH15 := Lib.hid h15
          clear hw hun hcl hdl hT hw2 hfz hcell h13 h15
          refine storeL rfl (.tmp 26) (.tmp 21) rfl g (k * 6) #[b0, b1, b2, b3, b4, b5] rfl rfl (by simp) (HONE.out _ (HY.out.1.mem HXB.out)) HTH.out ?_
          go_wp2
          exact ⟨undef, rfl, rfl, ⟨by simpa [putL, HH15.out, revR] using own_setRun HW.out.1 (HY.out.1.1.trans HL.out) (HY.out.1.rows HR.out) (by omega) rfl, HW.out.2.trans (grown_run _ _ _ _)⟩, trivial, fun h => absurd rfl h⟩
        refine wpRel_step [16, 17] (by kernel_rfl) (fun L kk w9 vals hk hw hun hcl hdl hT => ?_) ?_
        · have t2 := hT 2 16 (by kernel_rfl) (.inl rfl)
          have t3 := hT 3 17 (by kernel_rfl) (.inl rfl)
          simp only [fillR, Act.put, List.setIfInBounds_toArray, List.set_cons_succ, List.set_cons_zero]
          rw [show vals 16 = Value.slice (some ⟨g, 0, none⟩) n cap from t2, show vals 17 = Value.int .i64 m from t3]
          have HW := Lib.hid hw
          clear hw hun hcl hdl hT
          go_wp2
          exact ⟨_, rfl, rfl, by simpa [putL] using HW.out, trivial, fun _ => rfl⟩
        refine wpRel_step [27, 25] (by kernel_rfl) (fun L kk w9 vals hk hw hun hcl hdl hT => ?_) ?_
        · have t14 := hT 14 27 (by kernel_rfl) (.inl rfl)
          have t11 := hT 11 25 (by kernel_rfl) (.inl rfl)
          simp only [fillR, Act.put, List.setIfInBounds_toArray, List.set_cons_succ, List.set_cons_zero]
          rw [show vals 27 = Value.pointer (some ⟨g, m * 6, none⟩) from t14, show vals 25 = Value.agg #[a0, a1, a2, a3, a4, a5] from t11]
          have h15 := hun; have h13 := hdl 13 (by kernel_rfl)
          have hw2 := hw
          rw [h13, h15] at hw2
          obtain ⟨g2, cap2, e2, -, -, hnc2, hcm2, hfz, hcell⟩ := own_ref hw2.1 (by omega) (by omega)
          injection e2 with e2 _ e3; injection e2 with e2; injection e2 with e2 _ _; subst e2; subst e3
          have HTH : Hid (w9.there g (m * 6) 6) := own_there hw2.1 (by omega)
          have HW := Lib.hid hw2; have HH13 := Lib.hid h13; have HH15 := Lib.hid h15
          clear hw hun hcl hdl hT hw2 hfz hcell h13 h15
          refine storeL rfl (.tmp 27) (.tmp 25) rfl g (m * 6) #[a0, a1, a2, a3, a4, a5] rfl rfl (by simp) (HONE.out _ (HY.out.1.mem HXA.out)) HTH.out ?_
          go_wp2
          exact ⟨undef, rfl, rfl, ⟨by simpa [putL, HH13.out, revR] using own_setRun HW.out.1 (by simpa [revR] using HY.out.1.1.trans HL.out) (fun r hr => by rcases List.mem_or_eq_of_mem_set (show r ∈ ys.set k _ from hr) with h | h; exact HY.out.1.rows HR.out r h; rw [h]; rfl) (by omega) rfl, HW.out.2.trans (grown_run _ _ _ _)⟩, trivial, fun h => absurd rfl h⟩
        refine wpRel_end [14, 15, 16, 17, 18, 19, 20, 21, 22, 23, 24, 25, 26, 27] (by kernel_rfl) (fun L w9 vals hL hw hT => ?_)
        have h13 := hL 13 (by decide); have h15 := hL 15 (by decide)
        rw [h13, h15] at hw
        have HW := Lib.hid hw
        simp only [fillR, Act.put, List.setIfInBounds_toArray, List.set_cons_succ, List.set_cons_zero]
        clear hw hT hL h13 h15
        go_wp2
        have hm := HM.out
        have hlt := HLT.out
        have hmr : m = rows.length - 1 - k := by rw [HL.out]; exact hm
        refine ⟨⟨k + 1, (ys.set k [b0, b1, b2, b3, b4, b5]).set m [a0, a1, a2, a3, a4, a5], by omega, by go_num, ret_v (by omega), Lib.hid ⟨?_, HW.out.1⟩, HW.out.2⟩, by simp [intOf]; omega⟩
        rw [hmr]
        exact HY.out.1.next (by rw [HL.out]; exact hlt) HXA.out (by rw [← hmr]; exact HXB.out)
      · have he := HY.out.1.end_ (by rw [HL.out]; omega)
        have HE := Lib.hid he
        have HG := Lib.hid hg
        have hki : ¬ (k : Int) < (n : Int) - 1 - k := by omega
        clear he hg
        go_wp2
        go_end0
        refine ⟨rfl, ?_, HG.out⟩
        rw [← HE.out]
        exact HY.out.2
end Go.Proofs.YtaieopdfkapgdaaDoor

-- The program's books: (*page).lines, impl.BookAdd.
namespace Go.Proofs.YtaieopdfkapgdaaDoor
open Go.RowKit
set_option linter.unusedSimpArgs false
set_option linter.unusedVariables false

/-- Pages, with the rows of arguments told. -/
inductive PagesA (w : World) (lo : Nat) : Nat → List Ln → Value → List Value → Prop
  | nil (hi : Nat) (h : lo ≤ hi) : PagesA w lo hi [] (.pointer none) []
  | cons {q hi p g c : Nat} {lns : List Ln} {avs : List Value} {ov : Value} {ln : Ln} (h : PagesA w lo q lns ov avs) (ho : w.ownsRow q 3 1 (.slice (some ⟨g, 0, none⟩) 4 c) 4 (ints ln.told.args).flatten) (hg : g < p) (hp : p < hi)
      (hb : Blk w p 74 #[.int .i64 ln.told.gate, .int .i64 ln.told.epoch, .int .i64 ln.told.num, .slice (some ⟨g, 0, none⟩) 4 c, .int .i64 ln.told.verdict, .string ⟨ln.sum.toArray⟩, .int .i64 ((lns.length + 1 : Nat) : Int), ov]) :
      PagesA w lo hi (ln :: lns) (.pointer (some ⟨p, 0, none⟩)) (.slice (some ⟨g, 0, none⟩) 4 c :: avs)
theorem Pages.told {w : World} {lo hi : Nat} {lns : List Ln} {v : Value} (h : Pages w lo hi lns v) : ∃ avs, PagesA w lo hi lns v avs := by
  induction h with
  | nil hi h => exact ⟨[], .nil hi h⟩
  | cons h ho hg hp hb ih => obtain ⟨avs, ih⟩ := ih; exact ⟨_, .cons ih ho hg hp hb⟩
theorem PagesA.kept {w w' : World} {lo hi : Nat} {lns : List Ln} {v : Value} {avs : List Value} (h : PagesA w lo hi lns v avs) (hb : Below w.heap.size w w') : PagesA w' lo hi lns v avs := by
  induction h with
  | nil hi h => exact .nil hi h
  | cons h ho hg hp hbk ih => exact .cons ih (own_below ho hb) hg hp (hbk.below hb hbk.lt)
theorem PagesA.grown9 {w w' : World} {lo hi base n : Nat} {lns : List Ln} {v u : Value} {avs xs : List Value} (h : PagesA w lo hi lns v avs) (hg : w.grownBy w' u.ownBlock) (ho : w.ownsRow base 32 6 u n xs) : PagesA w' lo hi lns v avs := by
  induction h with
  | nil hi h => exact .nil hi h
  | cons h ho' hgp hp hbk ih => exact .cons ih (ho'.kept hg (own_kinds ho' ho (by decide))) hgp hp (hbk.grown hg (own_far_type ho hbk (by decide)))
theorem PagesA.len {w : World} {lo hi : Nat} {lns : List Ln} {v : Value} {avs : List Value} (h : PagesA w lo hi lns v avs) : avs.length = lns.length := by
  induction h with
  | nil hi h => rfl
  | cons h ho hg hp hb ih => simp [ih]
theorem PagesA.low {w : World} {lo hi : Nat} {lns : List Ln} {v : Value} {avs : List Value} (h : PagesA w lo hi lns v avs) : lo ≤ hi ∧ ptrAt v ≤ hi ∧ ∃ pp, v = .pointer pp := by
  induction h with
  | nil hi h => exact ⟨h, Nat.zero_le _, _, rfl⟩
  | cons h ho hg hp hb ih =>
    obtain ⟨g', c', e, h1, _⟩ := ho.form (by omega)
    injection e with e; injection e with e; injection e with e
    exact ⟨by have := ih.1; omega, hp, _, rfl⟩
theorem PagesA.up {w : World} {lo hi : Nat} {lns : List Ln} {v : Value} {avs : List Value} (h : PagesA w lo hi lns v avs) (h4 : ∀ ln ∈ lns, ln.told.args.length = 4) : ArgsUp w lo hi lns.reverse avs.reverse := by
  induction h with
  | nil hi h => exact .nil h
  | @cons q hi p g c lns avs ov ln h ho hg hp hb ih =>
    rw [List.reverse_cons, List.reverse_cons]
    have hq : q ≤ g := by
      obtain ⟨g', c', e, h1, _⟩ := ho.form (by omega)
      injection e with e; injection e with e; injection e with e
      omega
    refine .snoc (ih fun x hx => h4 x (by simp [hx])) (by rw [h4 ln (by simp)]; exact ho) (fun b hbb => ?_) (by omega)
    simp [Value.ownBlock] at hbb
    omega
theorem lnRows_rev : ∀ (lns : List Ln) (avs : List Value), avs.length = lns.length → (lnRows lns avs).reverse = lnRows lns.reverse avs.reverse
  | [], [], _ => rfl
  | x :: lns, y :: avs, h => by
    have hl : avs.length = lns.length := by simpa using h
    rw [List.reverse_cons, List.reverse_cons, lnRows_snoc (by simp [hl]), ← lnRows_rev lns avs hl]
    simp [lnRows]
  | [], _ :: _, h => by simp at h
  | _ :: _, [], h => by simp at h
theorem PagesA.one {w : World} {lo hi : Nat} {lns : List Ln} {v : Value} {avs : List Value} (h : PagesA w lo hi lns v avs) : ∀ av ∈ avs, av.oneCell' = true := by
  induction h with
  | nil hi h => intro av h; cases h
  | cons h ho hg hp hb ih =>
    intro av hm
    rcases List.mem_cons.1 hm with rfl | hm
    · rfl
    · exact ih av hm
theorem lnRows_one {lns : List Ln} {avs : List Value} (h : ∀ av ∈ avs, av.oneCell' = true) : ∀ r ∈ lnRows lns avs, ∀ u ∈ r, u.oneCell' = true := fun r hr u hu => by
  obtain ⟨p, hp, rfl⟩ := List.mem_map.1 hr
  have h1 := (List.of_mem_zip (a := p.1) (b := p.2) hp).2
  simp [lnC] at hu
  rcases hu with rfl | rfl | rfl | rfl | rfl | rfl <;> first | rfl | exact h _ h1

set_option maxRecDepth 100000 in
set_option maxHeartbeats 8000000 in
theorem lines_any (lo hi : Nat) (lns : List Ln) (v : Value) (w : World) (h : Pages w lo hi lns v) (hhi : hi ≤ w.heap.size) (hn : lns.length ≤ 100) (h4 : ∀ ln ∈ lns, ln.told.args.length = 4) :
    Calls Tryd.prog 43 #[v] w fun e w' => ∃ u, e = .returned u ∧ OwnBk w' lo w'.heap.size u lns.reverse ∧ Below w.heap.size w w' := by
  obtain ⟨pavs, hP⟩ := h.told
  obtain ⟨hlo, hpt, pp, rfl⟩ := hP.low
  have HP := Lib.hid hP; have HN := Lib.hid hn; have H4 := Lib.hid h4
  clear h hP hn h4 hpt
  go_enter Tryd.func43, Tryd.ntmps43
  go_wp2
  go_loopw [3, 4] (fun out at_ wr => ∃ (z : Nat) (done rest : List Ln) (da ra : List Value) (q : Nat), (∃ A n c, out = .slice A n c) ∧ (∃ pp, at_ = .pointer pp) ∧ z + rest.length = lns.length ∧ Hid (lns = done ++ rest ∧ pavs = da ++ ra ∧ done.length = z ∧ da.length = z ∧ PagesA wr lo q rest at_ ra ∧ wr.ownsRow w.heap.size 32 6 out z (lnRows done da).flatten) ∧ Below w.heap.size w wr) (fun _ at_ _ => ptrAt at_)
  case atStart => exact ⟨0, [], lns, [], pavs, hi, ⟨_, _, _, rfl⟩, ⟨_, rfl⟩, by simp, Lib.hid ⟨rfl, rfl, rfl, rfl, HP.out, World.ownsRow_nil _ _ _ _⟩, Below.refl _ _⟩
  case round =>
    obtain ⟨z, done, rest, da, ra, q, ⟨A9, n9, c9, rfl⟩, ⟨pp, rfl⟩, hz, HR, hb⟩ := hrel
    obtain ⟨e1, e2, e3, e4, hR, hO⟩ := HR.out
    have HE1 := Lib.hid e1; have HE2 := Lib.hid e2; have HE3 := Lib.hid e3; have HE4 := Lib.hid e4; have HO := Lib.hid hO; have HB := Lib.hid hb
    have hsz := hb.size
    clear HR e1 e2 e3 e4 hO hb
    cases hR with
    | nil _ h =>
      have hz' : z = lns.length := by simpa using hz
      clear h hz
      simp only [List.append_nil] at HE1 HE2
      have hd : lns = done := HE1.out
      have ha : pavs = da := HE2.out
      have HROW := Lib.hid (show wr.ownsRow w.heap.size 32 6 (.slice A9 n9 c9) z (lnRows lns pavs).flatten by rw [hd, ha]; exact HO.out)
      have HPW := Lib.hid (HP.out.kept HB.out)
      have HZ := Lib.hid hz'
      clear hd ha hz' HO HE1 HE2
      go_wp2_with fail
      refine (reverse_any w.heap.size z _ (lnRows lns pavs) _ HROW.out ((lnRows_len HP.out.len).trans HZ.out.symm) (lnRows_rows _ _) (lnRows_one HP.out.one) (by have := HN.out; have := HZ.out; omega)).mono ?_; rintro e w7 ⟨rfl, ho7, hg7⟩
      have HO7 := Lib.hid ho7; have HG7 := Lib.hid hg7
      clear ho7 hg7
      go_wp2
      go_ret
      have hbb : Below w.heap.size wr w7 := own_gbB HROW.out HG7.out hsz
      refine ⟨_, rfl, ?_, HB.out.trans hbb⟩
      have hup := HPW.out.up H4.out
      have hro : w7.ownsRow lo 32 6 (.slice A9 n9 c9) lns.reverse.length (lnRows lns.reverse pavs.reverse).flatten := by
        rw [List.length_reverse, ← HZ.out, ← lnRows_rev _ _ HP.out.len]
        exact own_base HO7.out (Nat.le_trans hlo hhi)
      exact ⟨pavs.reverse, (hup.imp fun q n av xs _ ho => ho.kept HG7.out (own_kinds ho HROW.out (by decide))).up (Nat.le_trans hhi (Nat.le_trans hsz HG7.out.size)), hro, fun g e => (hro.lt g e).2⟩
    | @cons q' _ p g c5 lns' avs' ov ln h ho hg hp hbk =>
      have c0 := (show _ = some (Value.int .i64 ln.told.gate) from hbk.cell 0)
      have c1 := (show _ = some (Value.int .i64 ln.told.epoch) from hbk.cell 1)
      have c2 := (show _ = some (Value.int .i64 ln.told.num) from hbk.cell 2)
      have c3 := (show _ = some (Value.slice (some ⟨g, 0, none⟩) 4 c5) from hbk.cell 3)
      have c4 := (show _ = some (Value.int .i64 ln.told.verdict) from hbk.cell 4)
      have c5' := (show _ = some (Value.string ⟨ln.sum.toArray⟩) from hbk.cell 5)
      have c7 := (show _ = some ov from hbk.cell 7)
      have hpl : p < wr.heap.size := hbk.lt
      obtain ⟨_, hms, po, rfl⟩ := h.low
      have hqg : q' ≤ g := by
        obtain ⟨g', c', e, h1, _⟩ := ho.form (by omega)
        injection e with e; injection e with e; injection e with e
        omega
      have HMS := Lib.hid (show ptrAt (.pointer po) < ptrAt (.pointer (some ⟨p, 0, none⟩)) from Nat.lt_of_le_of_lt hms (show q' < p + 1 by omega))
      have H := Lib.hid h
      have hz2 : z + lns'.length + 1 = lns.length := by simp at hz; omega
      have HNW : Hid (p < w.heap.size → True) := fun _ => trivial
      have hbx : ∀ (w9 : World), wr.grownBy w9 (Value.slice A9 n9 c9).ownBlock → w9.cell? ⟨p, 7, none⟩ = some (.pointer po) := fun w9 hg9 => by
        have hne : (some p : Option Nat) ≠ (Value.slice A9 n9 c9).ownBlock := own_far_type HO.out hbk (by decide)
        exact (show _ = some (Value.pointer po) from (hbk.grown hg9 hne).cell 7)
      have HBX := Lib.hid hbx
      have hz9 : z ≤ 100 := by have := HN.out; omega
      clear h ho hg hp hbk hqg hms hz hbx
      go_wp2_with (at_builtin; go_must (refine wpList_app1g rfl (.tmp 12) (.tmp 17) _ rfl w.heap.size 32 Tryd.underlying23 info_LineM rfl (by omega) (by omega) (.slice A9 n9 c9) z (lnRows done da) rfl HO.out (r := lnC ln (.slice (some ⟨g, 0, none⟩) 4 c5)) rfl (by simp [lnC, Value.oneCell']) rfl (by omega) hsz ?_); intro v9 w9 hown9 hg9 _; obtain ⟨g9, cap9, rfl, hg9', hg9''⟩ := hown9.form (by omega); have c79 := HBX.out w9 hg9)
      have hbw : Below w.heap.size wr w9 := own_gbB HO.out hg9 hsz
      refine ⟨⟨z + 1, done ++ [ln], lns', da ++ [.slice (some ⟨g, 0, none⟩) 4 c5], avs', q', ⟨_, _, _, rfl⟩, ⟨_, rfl⟩, by omega, Lib.hid ⟨by rw [HE1.out]; simp, by rw [HE2.out]; simp, by simp [HE3.out], by simp [HE4.out], ?_, ?_⟩, HB.out.trans hbw⟩, HMS.out⟩
      · exact H.out.grown9 hg9 HO.out
      · rw [lnRows_snoc (HE4.out.trans HE3.out.symm)]
        exact hown9

theorem OwnBk.low {w : World} {lo lo' hi : Nat} {v : Value} {b : List Ln} (h : OwnBk w lo hi v b) (hh : lo' ≤ lo) : OwnBk w lo' hi v b := by
  obtain ⟨avs, h1, h2, h3⟩ := h
  exact ⟨avs, h1.low hh, own_base h2 hh, h3⟩

set_option maxRecDepth 100000 in
set_option maxHeartbeats 8000000 in
theorem BookAdd_any (v : Value) (b : List Ln) (t : Tl) (av : Value) (w : World) (hpw : Pow w) (hkw : Kww w) (hb : BookIs w v b) (ht : t.ok) (hs : Sl w 1 av (ints t.args)) :
    Calls Tryd.prog 19 #[v, .agg #[.int .i64 t.gate, .int .i64 t.epoch, .int .i64 t.num, av, .int .i64 t.verdict]] w (AddsTo b t w) := by
  have HBI := Lib.hid hb
  obtain ⟨A, n, c, css, rfl, hA, -, -⟩ := hb
  clear hA
  have hs0 := hs
  obtain ⟨A2, n2, c2, rfl, hA2⟩ := hs
  have HT := Lib.hid ht; have HS := Lib.hid hs0; have HPW := Lib.hid hpw; have HKW := Lib.hid hkw
  clear hs0 hA2 ht hpw hkw
  obtain ⟨W1, hW1⟩ : ∃ W1, W1 = w.alloc (.cells #[.int .i64 t.gate, .int .i64 t.epoch, .int .i64 t.num, .slice A2 n2 c2, .int .i64 t.verdict] 30) := ⟨_, rfl⟩
  have hbW : Below w.heap.size w W1 := by rw [hW1]; go_grown
  have BW : Blk W1 w.heap.size 30 #[.int .i64 t.gate, .int .i64 t.epoch, .int .i64 t.num, .slice A2 n2 c2, .int .i64 t.verdict] := by rw [hW1]; exact Blk.new _ _ _
  have hlt := BW.lt
  have HW1 := Lib.hid hW1; have HBW := Lib.hid hbW; have HB := Lib.hid BW; have HBI1 := Lib.hid (HBI.out.below hbW); have HS1 := Lib.hid (HS.out.below hbW)
  have HPW1 := Lib.hid (HPW.out.below hbW); have HKW1 := Lib.hid (HKW.out.below hbW (Nat.le_refl _))
  clear hW1 hbW BW
  go_enter Tryd.func19, Tryd.ntmps19
  go_wp2_with fail
  rw [← HW1.out]
  refine (openBook_any _ b _ HPW1.out HKW1.out HBI1.out).mono ?_
  rintro e w2 ⟨hb2, ⟨hok, v2, rfl, hp⟩ | ⟨hno, rfl⟩⟩
  · obtain ⟨pp, rfl⟩ := hp.ptr
    have B2 := HB.out.below hb2 hlt
    have p0 := (show _ = some (Value.int .i64 t.gate) from B2.cell 0); have p1 := (show _ = some (Value.int .i64 t.epoch) from B2.cell 1); have p2 := (show _ = some (Value.int .i64 t.num) from B2.cell 2); have p3 := (show _ = some (Value.slice A2 n2 c2) from B2.cell 3); have p4 := (show _ = some (Value.int .i64 t.verdict) from B2.cell 4)
    have HP := Lib.hid hp; have HO := Lib.hid hok; have HS2 := Lib.hid (HS1.out.below hb2); have HBW2 := Lib.hid (below_then HBW.out hb2)
    have HPW2 := Lib.hid (HPW1.out.below hb2); have HKW2 := Lib.hid (HKW1.out.below hb2 (Nat.le_refl _))
    have HL64 := Lib.hid (show (lastSum b.reverse).length ≤ 64 by rw [lastSum_rev]; exact goodL_last [] b (by simp) hok.1)
    have HLN := Lib.hid (show b.reverse.length = b.length from List.length_reverse)
    have H40 := Lib.hid hok.2
    have H4 := Lib.hid (goodL_args [] b hok.1)
    have HLS := Lib.hid (lastSum_rev b)
    have hz1 := HBW.out.size
    clear hp hok hb2 B2
    by_cases hy : b.length < 40 ∧ callOk t.num t.args
    · have HY := Lib.hid hy
      clear hy
      go_wp2_with fail
      refine (add_yes W1.heap.size w2.heap.size b.reverse _ t _ w2 HPW2.out HKW2.out HP.out (Nat.le_refl _) HT.out HS2.out HL64.out (by rw [HLN.out]; exact HY.out.1) HY.out.2).mono ?_; rintro e w3 ⟨p, rfl, hp3, hb3⟩
      have HP3 := Lib.hid hp3; have HB3 := Lib.hid hb3
      clear hp3 hb3
      go_wp2_with fail
      refine (lines_any W1.heap.size w3.heap.size _ _ _ HP3.out (Nat.le_refl _) (by have := HLN.out; have := HY.out.1; simp; omega) (fun ln hm => by rcases List.mem_cons.1 hm with rfl | hm; exact HY.out.2.2.1; exact H4.out ln (List.mem_reverse.1 hm))).mono ?_; rintro e w4 ⟨u, rfl, ho4, hb4⟩
      have HO4 := Lib.hid ho4; have HB4 := Lib.hid hb4
      clear ho4 hb4
      go_wp2
      go_ret2
      refine ⟨below_then (below_then HBW2.out HB3.out) HB4.out, .inl ⟨HO.out, HY.out.2, HY.out.1, _, rfl, ?_⟩⟩
      have := HO4.out.low hz1
      rw [List.reverse_cons, List.reverse_reverse, HLS.out] at this
      exact this
    · have HY := Lib.hid hy
      clear hy
      go_wp2_with fail
      refine (add_no W1.heap.size w2.heap.size b.reverse _ t _ w2 HP.out HS2.out (by rw [HLN.out]; exact H40.out) (by rw [HLN.out]; exact HY.out)).mono ?_; rintro e w3 ⟨rfl, hb3⟩
      have HB3 := Lib.hid hb3
      clear hb3
      go_wp2
      go_ret2
      have hx := below_then HBW2.out HB3.out
      exact ⟨hx, .inr ⟨fun h => HY.out ⟨h.2.2, h.2.1⟩, _, rfl, OwnBk.nul hx.size⟩⟩
  · have HBW2 := Lib.hid (below_then HBW.out hb2)
    have HO := Lib.hid hno
    clear hno hb2
    go_wp2
    go_ret2
    exact ⟨HBW2.out, .inr ⟨fun h => HO.out h.1, _, rfl, OwnBk.nul HBW2.out.size⟩⟩
end Go.Proofs.YtaieopdfkapgdaaDoor
