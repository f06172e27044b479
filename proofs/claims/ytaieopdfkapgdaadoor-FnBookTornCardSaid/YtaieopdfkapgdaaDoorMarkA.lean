/- Joined texts: MarkB MarkH LawLine6 BookAddP. -/
import Derived.Test.YtaieopdfkapgdaaDoorBookOA
-- The laws' marks in books: markText, markCall, markTold, markLineS, heldLineS.
namespace Go.Proofs.YtaieopdfkapgdaaDoor
open Go.RowKit
set_option linter.unusedSimpArgs false
set_option linter.unusedVariables false

noncomputable def preT (u : Nat) : List UInt8 := if u = 0 then [] else Lib.decDigits u
noncomputable def mtext (n : Int) : List UInt8 := if n ≤ 0 then [109, 48] else 109 :: Lib.decDigits n.toNat
theorem preT_next {u : Nat} (h : 0 < u) : preT u = preT (u / 10) ++ [UInt8.ofNat (48 + u % 10)] := by
  unfold preT
  rw [if_neg (by omega)]
  by_cases h1 : u < 10
  · rw [if_pos (by omega), decDigits_small h1, Nat.mod_eq_of_lt h1]; rfl
  · rw [if_neg (by omega), decDigits_big h1]
set_option maxHeartbeats 2000000 in
theorem markText_any (n : Int) (w : World) (hn : n ≤ 9223372036854775807) :
    Calls Tryd.prog 51 #[.int .i64 n] w fun e w' => e = .returned (.string ⟨(mtext n).toArray⟩) ∧ Below w.heap.size w w' := by
  by_cases h0 : n ≤ 0
  · have HM := Lib.hid (show mtext n = [109, 48] by unfold mtext; rw [if_pos h0])
    go_enter Tryd.func51, Tryd.ntmps51
    go_wp2
    go_ret
    exact ⟨by rw [HM.out]; rfl, Below.refl _ _⟩
  · obtain ⟨u, rfl⟩ := Int.eq_ofNat_of_zero_le (show 0 ≤ n by omega)
    have hu0 : 0 < u := by omega
    have HM := Lib.hid (show mtext (u : Int) = 109 :: preT u by unfold mtext preT; rw [if_neg (by omega), if_neg (by omega)]; simp)
    have HL := Lib.hid (show (preT u).length ≤ 19 by unfold preT; rw [if_neg (by omega)]; exact decDigits_le19 u (by omega))
    have hconv := fun W x => run_conv1 (P := Tryd.prog) (t := 5) Tryd.underlying22 Tryd.underlying5 Tryd.underlying9 W x
    go_enter Tryd.func51, Tryd.ntmps51
    go_wp2
    go_loopw [0, 3] (fun j o wr => ∃ (k : Nat) (out : List UInt8), j = .int .i64 k ∧ k ≤ u ∧ o = .string ⟨out.toArray⟩ ∧ out.length ≤ 19 ∧ Hid (preT u = preT k ++ out) ∧ Below w.heap.size w wr) (fun j _ _ => (intOf j).toNat)
    case atStart => exact ⟨u, [], rfl, Nat.le_refl _, rfl, by simp, Lib.hid (by simp), Below.refl _ _⟩
    case round =>
      obtain ⟨k, out, rfl, hku, rfl, hol, HP, hb⟩ := hrel
      by_cases hk : 0 < k
      · have hnx := preT_next hk
        have HN := Lib.hid (show preT u = preT (k / 10) ++ (UInt8.ofNat (48 + k % 10) :: out) by rw [HP.out, hnx]; simp)
        have hl2 : out.length + 1 ≤ 19 := by
          have h1 := HL.out
          rw [HN.out] at h1
          simp at h1
          omega
        have e1 : IntKind.i64.wrap ((k : Int) / 10) = (k : Int) / 10 := IntWalk.i64_in _ (by omega)
        have e2 : (k : Int).tmod 10 = (k : Int) % 10 := Int.tmod_eq_emod_of_nonneg (by omega)
        have e3 : IntKind.i64.wrap (48 + (k : Int) % 10) = 48 + (k : Int) % 10 := IntWalk.i64_in _ (by omega)
        have e4 : IntKind.u8.wrap (48 + (k : Int) % 10) = 48 + (k : Int) % 10 := IntWalk.u8_in _ (by omega)
        clear hnx HP
        go_wp2
        refine ⟨⟨k / 10, UInt8.ofNat (48 + k % 10) :: out, by go_num, by omega, ?_, by simpa using hl2, HN, hb.alloc hb.size _⟩, by simp [intOf]; omega⟩
        rw [UInt8.ofNat_add]
        exact congrArg Value.string (ba_append [(48 : UInt8) + UInt8.ofNat (k % 10)] out)
      · obtain rfl : k = 0 := by omega
        have HE := Lib.hid (show preT u = out by rw [HP.out]; rfl)
        go_wp2
        go_ret
        refine ⟨?_, hb⟩
        rw [HM.out, HE.out]
        exact congrArg (fun x => Ending.returned (Value.string x)) (ba_append [109] out)

/-- A line that is marked; how far the marks go. -/
noncomputable def markLn (m : Int) (ln : Ln) : Ln := ⟨⟨m, m + 1, m + 1 + 1, marks (m + 1 + 1 + 1) ln.told.args.length, m + 1 + 1 + 1 + ln.told.args.length⟩, mtext (m + 1 + 1 + 1 + ln.told.args.length + 1)⟩
def wtB (b : List Ln) : Nat := (b.map fun ln => 5 + ln.told.args.length).sum
noncomputable def markAll : Int → List Ln → List Ln
  | _, [] => []
  | m, ln :: r => markLn m ln :: markAll (m + (5 + ln.told.args.length : Nat)) r
theorem wtB_snoc (b : List Ln) (ln : Ln) : wtB (b ++ [ln]) = wtB b + (5 + ln.told.args.length) := by simp [wtB]
theorem wtB_take (b : List Ln) (k : Nat) : wtB (b.take k) ≤ wtB b := by
  have e : b.map (fun ln => 5 + ln.told.args.length) = (b.take k).map (fun ln => 5 + ln.told.args.length) ++ (b.drop k).map (fun ln => 5 + ln.told.args.length) := by rw [← List.map_append, List.take_append_drop]
  unfold wtB
  rw [e, List.sum_append]
  omega
theorem markAll_len : ∀ (m : Int) (b : List Ln), (markAll m b).length = b.length
  | _, [] => rfl
  | m, ln :: r => by rw [markAll, List.length_cons, markAll_len, List.length_cons]
theorem markAll_snoc : ∀ (m : Int) (b : List Ln) (ln : Ln), markAll m (b ++ [ln]) = markAll m b ++ [markLn (m + (wtB b : Nat)) ln]
  | m, [], ln => by simp [markAll, wtB]
  | m, x :: b, ln => by
    rw [List.cons_append, markAll, markAll_snoc, markAll, List.cons_append]
    have : m + ((5 + x.told.args.length : Nat) : Int) + (wtB b : Nat) = m + (wtB (x :: b) : Nat) := by simp [wtB]; omega
    rw [this]
noncomputable def markTo (m : Int) (b : List Ln) (k : Nat) : List Ln := markAll m (b.take k) ++ b.drop k
theorem markTo_zero (m : Int) (b : List Ln) : markTo m b 0 = b := by simp [markTo, markAll]
theorem markTo_len (m : Int) (b : List Ln) (k : Nat) : (markTo m b k).length = b.length := by unfold markTo; rw [List.length_append, markAll_len, ← List.length_append, List.take_append_drop]
theorem markTo_get {m : Int} {b : List Ln} {k : Nat} {ln : Ln} (h : b[k]? = some ln) : (markTo m b k)[k]? = some ln := by
  have hk := (List.getElem?_eq_some_iff.1 h).1
  unfold markTo
  rw [List.getElem?_append_right (by rw [markAll_len, List.length_take]; omega), markAll_len, List.length_take, List.getElem?_drop, show k + (k - min k b.length) = k by omega]
  exact h
theorem markTo_next {m : Int} {b : List Ln} {k : Nat} {ln : Ln} (h : b[k]? = some ln) : (markTo m b k).set k (markLn (m + (wtB (b.take k) : Nat)) ln) = markTo m b (k + 1) := by
  have hk := (List.getElem?_eq_some_iff.1 h).1
  have hl : (markAll m (b.take k)).length = k := by rw [markAll_len, List.length_take]; omega
  unfold markTo
  rw [List.take_add_one, h, Option.toList_some, markAll_snoc, List.set_append_right _ _ (by omega), hl, Nat.sub_self]
  have hd : b.drop k = ln :: b.drop (k + 1) := by
    rw [List.drop_eq_getElem_cons hk]
    congr 1
    exact (Option.some.inj ((List.getElem?_eq_getElem hk).symm.trans h))
  rw [hd]
  simp
theorem flat_set {size : Nat} : ∀ (rows : List (List Value)) (i q : Nat) (r : List Value) (x : Value), (∀ r ∈ rows, r.length = size) → rows[i]? = some r → q < size → rows.flatten.set (i * size + q) x = (rows.set i (r.set q x)).flatten
  | [], i, q, r, x, _, h, _ => by simp at h
  | y :: rows, 0, q, r, x, hs, h, hq => by
    simp at h
    subst h
    have hy := hs y (by simp)
    rw [List.flatten_cons, Nat.zero_mul, Nat.zero_add, List.set_append_left _ _ (by omega)]
    simp
  | y :: rows, i + 1, q, r, x, hs, h, hq => by
    have hy := hs y (by simp)
    rw [List.flatten_cons, List.set_append_right _ _ (by rw [hy, Nat.succ_mul]; omega), hy, show (i + 1) * size + q - size = i * size + q by rw [Nat.succ_mul]; omega, flat_set rows i q r x (fun r hr => hs r (by simp [hr])) (by simpa using h) hq]
    simp
theorem lnRows_at {b : List Ln} {avs : List Value} {k : Nat} {ln : Ln} {av : Value} (h : b[k]? = some ln) (ha : avs[k]? = some av) : (lnRows b avs)[k]? = some (lnC ln av) := by
  unfold lnRows
  rw [List.getElem?_map, (List.getElem?_zip_eq_some (z := (ln, av))).2 ⟨h, ha⟩]
  rfl
theorem lnRows_set {b : List Ln} {avs : List Value} {k : Nat} {ln : Ln} {av : Value} (hl : avs.length = b.length) (ha : avs[k]? = some av) : (lnRows b avs).set k (lnC ln av) = lnRows (b.set k ln) avs := by
  apply List.ext_getElem?
  intro i
  by_cases e : i = k
  · subst e
    have hk := (List.getElem?_eq_some_iff.1 ha).1
    rw [List.getElem?_set_self (by rw [lnRows_len hl]; omega)]
    exact (lnRows_at (List.getElem?_set_self (by omega)) ha).symm
  · rw [List.getElem?_set_ne (fun e2 => e e2.symm)]
    by_cases hi : i < b.length
    · have hb : b[i]? = some b[i] := List.getElem?_eq_getElem hi
      have hia : i < avs.length := by omega
      have hav : avs[i]? = some avs[i] := List.getElem?_eq_getElem hia
      rw [lnRows_at hb hav, lnRows_at ((List.getElem?_set_ne (fun e2 => e e2.symm)).trans hb) hav]
    · rw [List.getElem?_eq_none (by rw [lnRows_len hl]; omega), List.getElem?_eq_none (by rw [lnRows_len (by rw [List.length_set]; exact hl), List.length_set]; omega)]
theorem ArgsUp.low2 {w w' : World} {lo q n : Nat} {b : List Ln} {avs : List Value} {av : Value} {xs : List Value} (h : ArgsUp w lo q b avs) (hg : w.grownBy w' av.ownBlock) (ho : w.ownsRow q 3 1 av n xs) : ArgsUp w' lo q b avs := by
  induction h with
  | nil h => exact .nil h
  | @snoc q' hi b avs ln0 av0 h ho' hb hq ih =>
    have hlow : ∀ g, av.ownBlock = some g → hi ≤ g := fun g e => (ho.lt g e).1
    refine .snoc (ih (own_base ho hq)) (ho'.kept hg ?_) hb hq
    rcases hav : av0.ownBlock with _ | y
    · exact .inl rfl
    · exact .inr fun e => by have := hlow y e.symm; have := hb y hav; omega
/-- One row of arguments has turned. -/
theorem ArgsUp.turn {w w' : World} {lo hi : Nat} {b : List Ln} {avs : List Value} (h : ArgsUp w lo hi b avs) : ∀ (k : Nat) (ln ln' : Ln) (av : Value), b[k]? = some ln → avs[k]? = some av → ln'.told.args.length = ln.told.args.length → w.grownBy w' av.ownBlock → w'.ownsRow lo 3 1 av ln'.told.args.length (ints ln'.told.args).flatten → ArgsUp w' lo hi (b.set k ln') avs := by
  induction h with
  | nil h => intro k ln ln' av h1; simp at h1
  | @snoc q hi b avs ln0 av0 h ho hb hq ih =>
    intro k ln ln' av h1 h2 hl hg hn
    by_cases hk : k < b.length
    · have hk' : k < avs.length := by rw [h.len]; exact hk
      rw [List.getElem?_append_left hk] at h1
      rw [List.getElem?_append_left hk'] at h2
      rw [List.set_append_left _ _ hk]
      refine .snoc (ih k ln ln' av h1 h2 hl hg hn) (ho.kept hg ?_) hb hq
      rcases hav : av0.ownBlock with _ | y
      · exact .inl rfl
      · refine .inr fun e => ?_
        have h5 := (h.get k ln av h1 h2).2 y e.symm
        have h6 := (ho.lt y hav).1
        omega
    · have e : k = b.length := by have := (List.getElem?_eq_some_iff.1 h1).1; simp at this; omega
      subst e
      rw [List.getElem?_append_right (Nat.le_refl _)] at h1
      rw [List.getElem?_append_right (by rw [h.len]; exact Nat.le_refl _), h.len] at h2
      simp at h1 h2
      subst h1; subst h2
      rw [List.set_append_right _ _ (Nat.le_refl _)]
      simp only [Nat.sub_self, List.set_cons_zero]
      refine .snoc (h.low2 hg ho) ?_ hb hq
      rcases hn.2 with ⟨rfl, h0⟩ | ⟨g, cap, cur, rfl, hge, r⟩
      · exact ⟨hn.1, .inl ⟨rfl, h0⟩⟩
      · exact ⟨hn.1, .inr ⟨g, cap, cur, rfl, (ho.lt g rfl).1, r⟩⟩

theorem set_rows {rows : List (List Value)} {k size : Nat} {r : List Value} (h : ∀ r ∈ rows, r.length = size) (hr : r.length = size) : ∀ x ∈ rows.set k r, x.length = size := fun x hx => by
  rcases List.mem_or_eq_of_mem_set hx with h1 | h1
  · exact h x h1
  · rw [h1]; exact hr
theorem hr3_of {V W : World} {p : Addr} {u : Value} (e : V = W) (h : V.cell? p = some u) : W.cell? p = some u := e ▸ h
set_option maxRecDepth 100000 in
set_option maxHeartbeats 8000000 in
theorem markLineS_any (lo hi : Nat) (v : Value) (b : List Ln) (avs : List Value) (m : Int) (w : World) (hu : ArgsUp w lo hi b avs) (ho : w.ownsRow lo 32 6 v b.length (lnRows b avs).flatten) (hv : ∀ g, v.ownBlock = some g → g < hi) (hlo : lo ≤ w.heap.size) (hn : b.length ≤ 1048576) (hwt : wtB b ≤ 100000000) (h0 : 0 ≤ m) (hm : m ≤ 1000000000) :
    Calls Tryd.prog 25 #[v, .int .i64 m] w fun e w' => e = .returned (.int .i64 (m + (wtB b : Nat))) ∧ ArgsUp w' lo hi (markAll m b) avs ∧ w'.ownsRow lo 32 6 v b.length (lnRows (markAll m b) avs).flatten ∧ MkFr lo hi w w' := by
  have hl := hu.len
  obtain ⟨A, n, c, rfl, hA⟩ := SlA.of_own ho (lnRows_len hl) (lnRows_rows _ _)
  have hbn : b.length = n := by have := hA.len; rw [lnRows_len hl] at this; exact this
  have hcp := hA.cap
  have hmx := hA.max
  unfold maxLen at hmx
  rw [hbn] at hn ho ⊢
  have HU := Lib.hid hu; have HO := Lib.hid ho; have HV := Lib.hid hv; have HN := Lib.hid hbn; have HL := Lib.hid hl; have HW := Lib.hid hwt; have HLO := Lib.hid hlo
  clear hu ho hv hA hbn hl hwt hlo
  go_enter Tryd.func25, Tryd.ntmps25
  go_wp2
  go_loopw [1, 5] (fun j i wr => ∃ (k : Nat) (M : Int), k ≤ n ∧ i = .int .i64 k ∧ j = .int .i64 M ∧ Hid (M = m + (wtB (b.take k) : Nat)) ∧ Hid (ArgsUp wr lo hi (markTo m b k) avs ∧ wr.ownsRow lo 32 6 (.slice A n c) n (lnRows (markTo m b k) avs).flatten) ∧ Hid (MkFr lo hi w wr) ∧ lo ≤ wr.heap.size) (fun _ i _ => n - (intOf i).toNat)
  case atStart => exact ⟨0, m, by omega, rfl, rfl, Lib.hid (by simp [wtB]), Lib.hid ⟨by rw [markTo_zero]; exact HU.out, by rw [markTo_zero]; exact HO.out⟩, Lib.hid (MkFr.refl _ _ _), HLO.out⟩
  case round =>
    obtain ⟨k, M, hk, rfl, rfl, HM, HB, HF, hlo⟩ := hrel
    by_cases hlt : k < n
    · obtain ⟨ln, hbk⟩ : ∃ ln, b[k]? = some ln := ⟨_, List.getElem?_eq_getElem (by rw [HN.out]; exact hlt)⟩
      obtain ⟨av, hav⟩ : ∃ av, avs[k]? = some av := ⟨_, List.getElem?_eq_getElem (by rw [HL.out, HN.out]; exact hlt)⟩
      have hmk := markTo_get (m := m) hbk
      have hM0 : 0 ≤ M := by have := HM.out; omega
      have hM1 : M ≤ 1100000000 := by have := HM.out; have := wtB_take b k; have := HW.out; omega
      have hnx : wtB (b.take (k + 1)) = wtB (b.take k) + (5 + ln.told.args.length) := by rw [List.take_add_one, hbk]; exact wtB_snoc _ _
      have hnk : ln.told.args.length ≤ 100000000 := by have := wtB_take b (k + 1); have := HW.out; omega
      obtain ⟨nk, hnk2⟩ : ∃ nk, nk = ln.told.args.length := ⟨_, rfl⟩
      obtain ⟨up, o0⟩ := HB.out
      obtain ⟨g, cap, hform, hge, hgl⟩ := o0.form (by omega)
      obtain ⟨rfl, rfl⟩ : A = some ⟨g, 0, none⟩ ∧ c = cap := by simpa using hform
      have hgh : g < hi := HV.out g rfl
      have hrows := lnRows_rows (markTo m b k) avs
      have hlen2 : avs.length = (markTo m b k).length := by rw [markTo_len]; exact HL.out
      have hat := lnRows_at hmk hav
      have hrk : k < (lnRows (markTo m b k) avs).length := (List.getElem?_eq_some_iff.1 hat).1
      have c0 := (o0.cellAt (k * 6 + 0) (by omega)).trans (flat_get _ hrows k _ hat 0 _ rfl)
      have c1 := (o0.cellAt (k * 6 + 1) (by omega)).trans (flat_get _ hrows k _ hat 1 _ rfl)
      have c2 := (o0.cellAt (k * 6 + 2) (by omega)).trans (flat_get _ hrows k _ hat 2 _ rfl)
      have c3 := (o0.cellAt (k * 6 + 3) (by omega)).trans (flat_get _ hrows k _ hat 3 _ rfl)
      have f0 := o0.frozenAt (k * 6 + 0); have f1 := o0.frozenAt (k * 6 + 1); have f2 := o0.frozenAt (k * 6 + 2)
      obtain ⟨o1, g1⟩ := o0.stored (k * 6 + 0) (.int .i64 M)
      rw [flat_set _ k 0 _ _ hrows hat (by omega)] at o1
      obtain ⟨o2, g2⟩ := o1.stored (k * 6 + 1) (.int .i64 (M + 1))
      rw [flat_set _ k 1 _ _ (set_rows hrows rfl) (List.getElem?_set_self hrk) (by omega), List.set_set] at o2
      obtain ⟨o3, g3⟩ := o2.stored (k * 6 + 2) (.int .i64 (M + 1 + 1))
      rw [flat_set _ k 2 _ _ (set_rows hrows rfl) (List.getElem?_set_self hrk) (by omega), List.set_set] at o3
      rw [Nat.add_zero] at c0 f0 o1 o2 o3 g1 g2 g3
      obtain ⟨V3, hV3⟩ : ∃ V3, V3 = ((wr.setCell ⟨g, k * 6, none⟩ (.int .i64 M)).setCell ⟨g, k * 6 + 1, none⟩ (.int .i64 (M + 1))).setCell ⟨g, k * 6 + 2, none⟩ (.int .i64 (M + 1 + 1)) := ⟨_, rfl⟩
      have G3 : wr.grownBy V3 (some g) := by rw [hV3]; exact (g1.trans g2).trans g3
      have U3 := up.imp (w' := V3) fun q n' av' xs _ h => h.kept G3 (own_kinds h o0 (by decide))
      have F3 : MkFr lo hi w V3 := HF.out.trans (by rw [hV3]; exact ((MkFr.cell hge hgh _).trans (MkFr.cell hge hgh _)).trans (MkFr.cell hge hgh _))
      have r3 : V3.cell? ⟨g, k * 6 + 3, none⟩ = some av := by
        rw [hV3]
        exact (o3.cellAt (k * 6 + 3) (by omega)).trans (flat_get _ (set_rows hrows rfl) k _ (List.getElem?_set_self hrk) 3 _ rfl)
      rw [← hV3] at o3
      replace o3 : V3.ownsRow lo 32 6 (.slice (some ⟨g, 0, none⟩) n c) n ((lnRows (markTo m b k) avs).set k [Value.int .i64 M, .int .i64 (M + 1), .int .i64 (M + 1 + 1), av, .int .i64 ln.told.verdict, .string ⟨ln.sum.toArray⟩]).flatten := o3
      have hz3 : lo ≤ V3.heap.size := Nat.le_trans hlo G3.size
      have HV3 := Lib.hid hV3; have HO3 := Lib.hid o3; have HU3 := Lib.hid U3; have HF3 := Lib.hid F3
      have HAV := Lib.hid hav; have HMK := Lib.hid hmk; have HBK := Lib.hid hbk; have HNX := Lib.hid hnx; have HNK := Lib.hid hnk2; have HRK := Lib.hid hrk; have HLEN := Lib.hid hlen2; have HRW := Lib.hid hrows
      have HLT := Lib.hid hlt
      have kn : (k : Int) < n := by omega
      rw [← hnk2] at hnk
      have hr3' := hr3_of hV3 r3
      clear hform up o0 o1 o2 o3 g1 g2 g3 G3 U3 F3 hat hmk hnx hrk hlen2 hrows hbk hav hlt hk HB hV3 hnk2
      go_wp2_with fail
      rw [← HV3.out]
      clear c0 c1 c2 c3 f0 f1 f2 r3 hr3'
      have oav := (HU3.out.get k ln av HMK.out HAV.out).1
      have hbav := (HU3.out.get k ln av HMK.out HAV.out).2
      rw [← HNK.out] at oav
      refine (markIntS_own lo av ln.told.args nk (M + 1 + 1 + 1) V3 HNK.out.symm oav (by omega) (by omega) (by omega)).mono ?_; rintro e w7 ⟨rfl, g7, o7⟩
      have ob := HO3.out.kept g7 (own_kinds HO3.out oav (by decide))
      have U7 := HU3.out.turn (w' := w7) k ln (markLn M ln) av HMK.out HAV.out (marks_len _ _) g7 (by rw [show (markLn M ln).told.args.length = nk by rw [HNK.out]; exact marks_len _ _]; rw [show (markLn M ln).told.args = marks (M + 1 + 1 + 1) nk by rw [HNK.out]; rfl]; exact o7)
      have F7 : MkFr lo hi w w7 := HF3.out.trans (MkFr.row oav hbav g7 hz3)
      have hrows2 := set_rows (k := k) (r := [.int .i64 M, .int .i64 (M + 1), .int .i64 (M + 1 + 1), av, .int .i64 ln.told.verdict, .string ⟨ln.sum.toArray⟩]) HRW.out rfl
      have hat2 := List.getElem?_set_self (a := [Value.int .i64 M, .int .i64 (M + 1), .int .i64 (M + 1 + 1), av, .int .i64 ln.told.verdict, .string ⟨ln.sum.toArray⟩]) HRK.out
      have d4 := (ob.cellAt (k * 6 + 4) (by omega)).trans (flat_get _ hrows2 k _ hat2 4 _ rfl)
      have e4 := ob.frozenAt (k * 6 + 4)
      obtain ⟨o8, g8⟩ := ob.stored (k * 6 + 4) (.int .i64 (M + 1 + 1 + 1 + nk))
      rw [flat_set _ k 4 _ _ hrows2 hat2 (by omega), List.set_set] at o8
      obtain ⟨V8, hV8⟩ : ∃ V8, V8 = w7.setCell ⟨g, k * 6 + 4, none⟩ (.int .i64 (M + 1 + 1 + 1 + nk)) := ⟨_, rfl⟩
      rw [← hV8] at o8 g8
      replace o8 : V8.ownsRow lo 32 6 (.slice (some ⟨g, 0, none⟩) n c) n ((lnRows (markTo m b k) avs).set k [Value.int .i64 M, .int .i64 (M + 1), .int .i64 (M + 1 + 1), av, .int .i64 (M + 1 + 1 + 1 + nk), .string ⟨ln.sum.toArray⟩]).flatten := o8
      have U8 := U7.imp (w' := V8) fun q n' av' xs _ h => h.kept g8 (own_kinds h ob (by decide))
      have F8 : MkFr lo hi w V8 := F7.trans (by rw [hV8]; exact MkFr.cell hge hgh _)
      have hz8 : lo ≤ V8.heap.size := Nat.le_trans (Nat.le_trans hz3 g7.size) g8.size
      have HV8 := Lib.hid hV8; have HO8 := Lib.hid o8; have HU8 := Lib.hid U8; have HF8 := Lib.hid F8
      clear oav hbav g7 o7 ob U7 F7 hrows2 hat2 o8 g8 U8 F8 hV8
      go_wp2_with fail
      rw [← HV8.out]
      clear d4 e4
      refine (markText_any (M + 1 + 1 + 1 + nk + 1) V8 (by omega)).mono ?_; rintro e w9 ⟨rfl, b9⟩
      have o9 := own_below HO8.out b9
      have U9 := HU8.out.next b9
      have F9 : MkFr lo hi w w9 := HF8.out.trans (MkFr.of_below b9 hz8)
      have hrows3 := set_rows (k := k) (r := [.int .i64 M, .int .i64 (M + 1), .int .i64 (M + 1 + 1), av, .int .i64 (M + 1 + 1 + 1 + nk), .string ⟨ln.sum.toArray⟩]) HRW.out rfl
      have hat3 := List.getElem?_set_self (a := [Value.int .i64 M, .int .i64 (M + 1), .int .i64 (M + 1 + 1), av, .int .i64 (M + 1 + 1 + 1 + nk), .string ⟨ln.sum.toArray⟩]) HRK.out
      have d5 := (o9.cellAt (k * 6 + 5) (by omega)).trans (flat_get _ hrows3 k _ hat3 5 _ rfl)
      have e5 := o9.frozenAt (k * 6 + 5)
      obtain ⟨o10, g10⟩ := o9.stored (k * 6 + 5) (.string ⟨(mtext (M + 1 + 1 + 1 + nk + 1)).toArray⟩)
      rw [flat_set _ k 5 _ _ hrows3 hat3 (by omega), List.set_set] at o10
      replace o10 : (w9.setCell ⟨g, k * 6 + 5, none⟩ (.string ⟨(mtext (M + 1 + 1 + 1 + nk + 1)).toArray⟩)).ownsRow lo 32 6 (.slice (some ⟨g, 0, none⟩) n c) n ((lnRows (markTo m b k) avs).set k [Value.int .i64 M, .int .i64 (M + 1), .int .i64 (M + 1 + 1), av, .int .i64 (M + 1 + 1 + 1 + nk), .string ⟨(mtext (M + 1 + 1 + 1 + nk + 1)).toArray⟩]).flatten := o10
      have U10 := U9.imp fun q n' av' xs _ h => h.kept g10 (own_kinds h o9 (by decide))
      have F10 : MkFr lo hi w _ := F9.trans (MkFr.cell (i := k * 6 + 5) hge hgh (.string ⟨(mtext (M + 1 + 1 + 1 + nk + 1)).toArray⟩))
      have hz10 : lo ≤ (w9.setCell ⟨g, k * 6 + 5, none⟩ (.string ⟨(mtext (M + 1 + 1 + 1 + nk + 1)).toArray⟩)).heap.size := Nat.le_trans (Nat.le_trans hz8 b9.size) g10.size
      have HO10 := Lib.hid o10; have HU10 := Lib.hid U10; have HF10 := Lib.hid F10; have HZ10 := Lib.hid hz10
      clear b9 o9 U9 F9 hrows3 hat3 o10 g10 U10 F10 hz10
      go_wp2
      have hlt := HLT.out
      have hnx := HNX.out
      have hnk3 := HNK.out
      have hM := HM.out
      have hmt : (markTo m b k).set k (markLn M ln) = markTo m b (k + 1) := by rw [hM]; exact markTo_next HBK.out
      refine ⟨⟨k + 1, M + 1 + 1 + 1 + nk + 1 + 1, by omega, by go_num, rfl, Lib.hid ?_, Lib.hid ⟨?_, ?_⟩, HF10, HZ10.out⟩, by simp [intOf]; omega⟩
      · rw [hnx]; omega
      · rw [← hmt]; exact HU10.out
      · rw [← hmt, ← lnRows_set HLEN.out HAV.out]
        have := HO10.out
        rw [show lnC (markLn M ln) av = [Value.int .i64 M, .int .i64 (M + 1), .int .i64 (M + 1 + 1), av, .int .i64 (M + 1 + 1 + 1 + nk), .string ⟨(mtext (M + 1 + 1 + 1 + nk + 1)).toArray⟩] by rw [hnk3]; rfl]
        exact this
    · obtain rfl : k = n := by omega
      have hall : b.take k = b := List.take_of_length_le (by rw [HN.out]; exact Nat.le_refl _)
      have hmt : markTo m b k = markAll m b := by unfold markTo; rw [hall, List.drop_of_length_le (by rw [HN.out]; exact Nat.le_refl _), List.append_nil]
      have HME := Lib.hid (show M = m + (wtB b : Nat) by rw [HM.out, hall])
      rw [hmt] at HB
      clear hall hmt hk hlt
      go_wp2
      go_ret
      exact ⟨ret_int HME.out, HB.out.1, HB.out.2, HF.out⟩
end Go.Proofs.YtaieopdfkapgdaaDoor

-- The laws' marks in books: heldLineS; markTold.
namespace Go.Proofs.YtaieopdfkapgdaaDoor
open Go.RowKit
set_option linter.unusedSimpArgs false
set_option linter.unusedVariables false

theorem markAll_get : ∀ (m : Int) (b : List Ln) (k : Nat) (ln : Ln), b[k]? = some ln → (markAll m b)[k]? = some (markLn (m + (wtB (b.take k) : Nat)) ln)
  | m, [], k, ln, h => by simp at h
  | m, x :: b, 0, ln, h => by
    simp at h
    subst h
    simp [markAll, wtB]
  | m, x :: b, k + 1, ln, h => by
    rw [markAll, List.getElem?_cons_succ, markAll_get _ b k ln (by simpa using h)]
    have : m + ((5 + x.told.args.length : Nat) : Int) + (wtB (b.take k) : Nat) = m + (wtB ((x :: b).take (k + 1)) : Nat) := by simp [wtB]; omega
    rw [this]

set_option maxRecDepth 100000 in
set_option maxHeartbeats 8000000 in
theorem heldLineS_any (lo hi : Nat) (v : Value) (b : List Ln) (avs : List Value) (m : Int) (w : World) (hu : ArgsUp w lo hi (markAll m b) avs) (ho : w.ownsRow lo 32 6 v b.length (lnRows (markAll m b) avs).flatten) (hn : b.length ≤ 1048576) (hwt : wtB b ≤ 100000000) (h0 : 0 ≤ m) (hm : m ≤ 1000000000) :
    Calls Tryd.prog 27 #[v, .int .i64 m] w fun e w' => e = .returned (.int .i64 (m + (wtB b : Nat))) ∧ Below w.heap.size w w' := by
  have hl := hu.len
  rw [markAll_len] at hl
  obtain ⟨A, n, c, rfl, hA⟩ := SlA.of_own ho (by rw [lnRows_len (hl.trans (markAll_len _ _).symm), markAll_len]) (lnRows_rows _ _)
  have hbn : b.length = n := by have := hA.len; rw [lnRows_len (hl.trans (markAll_len _ _).symm), markAll_len] at this; exact this
  have hcp := hA.cap
  have hmx := hA.max
  unfold maxLen at hmx
  rw [hbn] at hn ho
  have HU := Lib.hid hu; have HO := Lib.hid ho; have HN := Lib.hid hbn; have HL := Lib.hid hl; have HW := Lib.hid hwt
  clear hu ho hA hbn hl hwt
  go_enter Tryd.func27, Tryd.ntmps27
  go_wp2
  go_loopw [1, 5] (fun j i wr => ∃ (k : Nat) (M : Int), k ≤ n ∧ i = .int .i64 k ∧ j = .int .i64 M ∧ Hid (M = m + (wtB (b.take k) : Nat)) ∧ Below w.heap.size w wr) (fun _ i _ => n - (intOf i).toNat)
  case atStart => exact ⟨0, m, by omega, rfl, rfl, Lib.hid (by simp [wtB]), Below.refl _ _⟩
  case round =>
    obtain ⟨k, M, hk, rfl, rfl, HM, hb⟩ := hrel
    by_cases hlt : k < n
    · obtain ⟨ln, hbk⟩ : ∃ ln, b[k]? = some ln := ⟨_, List.getElem?_eq_getElem (by rw [HN.out]; exact hlt)⟩
      obtain ⟨av, hav⟩ : ∃ av, avs[k]? = some av := ⟨_, List.getElem?_eq_getElem (by rw [HL.out, HN.out]; exact hlt)⟩
      have hmk := markAll_get m b k ln hbk
      rw [← HM.out] at hmk
      have hM0 : 0 ≤ M := by have := HM.out; omega
      have hM1 : M ≤ 1100000000 := by have := HM.out; have := wtB_take b k; have := HW.out; omega
      have hnx : wtB (b.take (k + 1)) = wtB (b.take k) + (5 + ln.told.args.length) := by rw [List.take_add_one, hbk]; exact wtB_snoc _ _
      have hnk : ln.told.args.length ≤ 100000000 := by have := wtB_take b (k + 1); have := HW.out; omega
      obtain ⟨nk, hnk2⟩ : ∃ nk, nk = ln.told.args.length := ⟨_, rfl⟩
      obtain ⟨g, cap, hform, hge, hgl⟩ := HO.out.form (by omega)
      obtain ⟨rfl, rfl⟩ : A = some ⟨g, 0, none⟩ ∧ c = cap := by simpa using hform
      have hrows := lnRows_rows (markAll m b) avs
      have hat := lnRows_at hmk hav
      have x0 := (HO.out.cellAt (k * 6 + 0) (by omega)).trans (flat_get _ hrows k _ hat 0 _ rfl)
      have x1 := (HO.out.cellAt (k * 6 + 1) (by omega)).trans (flat_get _ hrows k _ hat 1 _ rfl)
      have x2 := (HO.out.cellAt (k * 6 + 2) (by omega)).trans (flat_get _ hrows k _ hat 2 _ rfl)
      have x3 := (HO.out.cellAt (k * 6 + 3) (by omega)).trans (flat_get _ hrows k _ hat 3 _ rfl)
      have x4 := (HO.out.cellAt (k * 6 + 4) (by omega)).trans (flat_get _ hrows k _ hat 4 _ rfl)
      have x5 := (HO.out.cellAt (k * 6 + 5) (by omega)).trans (flat_get _ hrows k _ hat 5 _ rfl)
      rw [Nat.add_zero] at x0
      unfold markLn at x0 x1 x2 x4 x5
      simp only at x0 x1 x2 x4 x5
      rw [← hnk2] at x4 x5
      obtain ⟨TX, hTX⟩ : ∃ TX, TX = mtext (M + 1 + 1 + 1 + nk + 1) := ⟨_, rfl⟩
      rw [← hTX] at x5
      have y0 := (hb.cell (p := ⟨g, k * 6, none⟩) hgl).trans x0
      have y1 := (hb.cell (p := ⟨g, k * 6 + 1, none⟩) hgl).trans x1
      have y2 := (hb.cell (p := ⟨g, k * 6 + 2, none⟩) hgl).trans x2
      have y3 := (hb.cell (p := ⟨g, k * 6 + 3, none⟩) hgl).trans x3
      have y4 := (hb.cell (p := ⟨g, k * 6 + 4, none⟩) hgl).trans x4
      have y5 := (hb.cell (p := ⟨g, k * 6 + 5, none⟩) hgl).trans x5
      have HSL := Lib.hid (show Sl wr 1 av (ints (marks (M + 1 + 1 + 1) nk)) by
        have := SlA.of_own (HU.out.get k _ av hmk hav).1 (ints_len _) (ints_rows _)
        rw [hnk2]
        exact this.below hb)
      have HNX := Lib.hid hnx; have HNK := Lib.hid hnk2; have HTX := Lib.hid hTX; have HB := Lib.hid hb; have HLT := Lib.hid hlt
      have kn : (k : Int) < n := by omega
      have q0 : (M != M) = false := by simp
      have q1 : (M + 1 != M + 1) = false := by simp
      have q2 : (M + 1 + 1 != M + 1 + 1) = false := by simp
      have q4 : (M + 1 + 1 + 1 + (nk : Int) != M + 1 + 1 + 1 + nk) = false := by simp
      have q5 : ¬ M + 1 + 1 + 1 + (nk : Int) < 0 := by omega
      have q6 : (TX != TX) = false := by simp
      have hgr : g < wr.heap.size := Nat.lt_of_lt_of_le hgl hb.size
      rw [← hnk2] at hnk
      clear hform hrows hat hmk hnx hbk hav hlt hk hb x0 x1 x2 x3 x4 x5 hnk2 hTX
      go_wp2_with fail
      refine (heldIntS_marks av nk (M + 1 + 1 + 1) wr HSL.out (by omega) (by omega) (by omega)).mono ?_; rintro e w7 ⟨rfl, rfl⟩
      go_wp2
      refine wp_region_fixed (fun w' => Below wr.heap.size wr w') (by kernel_rfl) (by kernel_rfl) (Below.refl _ _).drew ?_
      iterate 8
        apply wpFx_step
        case h =>
          intro w9 hw
          have H9 := Lib.hid hw
          have z5 := (hw.cell (p := ⟨g, k * 6 + 5, none⟩) hgr).trans y5
          clear hw
          go_wp2_with (go_at_call 51; refine (markText_any (M + 1 + 1 + 1 + nk + 1) _ (by omega)).mono ?_; rintro e w4 ⟨rfl, hbb⟩; rw [← HTX.out]; replace H9 := Lib.hid (below_then H9.out hbb); clear hbb)
          exact ⟨rfl, rfl, H9.out⟩
      refine wpFx_end (fun w9 hw => ?_)
      have HB9 := Lib.hid (HB.out.trans (hw.mono HB.out.size))
      clear hw y0 y1 y2 y3 y4 y5
      go_wp2
      have hlt := HLT.out
      have hnx := HNX.out
      have hnk3 := HNK.out
      have hM := HM.out
      refine ⟨⟨k + 1, M + 1 + 1 + 1 + nk + 1 + 1, by omega, by go_num, rfl, Lib.hid ?_, HB9.out⟩, by simp [intOf]; omega⟩
      rw [hnx]
      omega
    · obtain rfl : k = n := by omega
      have hall : b.take k = b := List.take_of_length_le (by rw [HN.out]; exact Nat.le_refl _)
      have HME := Lib.hid (show M = m + (wtB b : Nat) by rw [HM.out, hall])
      clear hall hk hlt
      go_wp2
      go_ret
      exact ⟨ret_int HME.out, hb⟩

set_option maxHeartbeats 2000000 in
theorem markTold_any (base : Nat) (t : Tl) (av : Value) (m : Int) (w : World) (h : w.ownsRow base 3 1 av t.args.length (ints t.args).flatten) (hn : t.args.length ≤ 1048576) (h0 : 0 ≤ m) (hm : m ≤ 1200000000) :
    Calls Tryd.prog 26 #[.agg #[.int .i64 t.gate, .int .i64 t.epoch, .int .i64 t.num, av, .int .i64 t.verdict], .int .i64 m] w fun e w' => e = .returned (.int .i64 (m + (t.args.length : Nat))) ∧ w.grownBy w' av.ownBlock := by
  have hs := SlA.of_own h (ints_len _) (ints_rows _)
  obtain ⟨A2, n2, c2, rfl, hA2⟩ := hs
  have H := Lib.hid h
  obtain ⟨W1, hW1⟩ : ∃ W1, W1 = w.alloc (.cells #[.int .i64 t.gate, .int .i64 t.epoch, .int .i64 t.num, .slice A2 n2 c2, .int .i64 t.verdict] 30) := ⟨_, rfl⟩
  have H1 := Lib.hid (show W1.ownsRow base 3 1 (.slice A2 n2 c2) t.args.length (ints t.args).flatten by rw [hW1]; exact h.alloc _)
  have HW1 := Lib.hid hW1
  clear h hA2 hW1
  go_enter Tryd.func26, Tryd.ntmps26
  go_wp2_with fail
  rw [← HW1.out]
  refine (markCall_own base t.num _ t.args t.args.length m W1 rfl H1.out (by omega) (by omega) (by omega)).mono ?_; rintro e w2 ⟨rfl, hg2, -⟩
  have HG := Lib.hid (show w.grownBy w2 (Value.slice A2 n2 c2).ownBlock from grown_alloc_then (by rw [HW1.out] at hg2; exact hg2))
  clear hg2
  go_wp2
  go_ret
  exact ⟨rfl, HG.out⟩
end Go.Proofs.YtaieopdfkapgdaaDoor

-- The laws' helpers on books: toLineS gives a book in memory of its own.
namespace Go.Proofs.YtaieopdfkapgdaaDoor
open Go.RowKit
set_option linter.unusedSimpArgs false
set_option linter.unusedVariables false

/-- The first lines stand in a block; the rows of arguments behind it, each behind those ahead. -/
def LnsUp (w : World) (g : Nat) (b : List Ln) (k : Nat) : Prop :=
  ∃ (cur : Array Value) (avs : List Value), Blk w g 32 cur ∧ cur.size = b.length * 6 ∧ ArgsUp w (g + 1) w.heap.size (b.take k) avs ∧ FilledTo cur 6 (lnRows (b.take k) avs) k
theorem LnsUp.below {w w' : World} {g : Nat} {b : List Ln} {k : Nat} (h : LnsUp w g b k) (hb : Below w.heap.size w w') : LnsUp w' g b k := by
  obtain ⟨cur, avs, h1, h2, h3, h4⟩ := h
  exact ⟨cur, avs, h1.below hb h1.lt, h2, (h3.next hb).up hb.size, h4⟩
theorem LnsUp.lt {w : World} {g : Nat} {b : List Ln} {k : Nat} (h : LnsUp w g b k) : g < w.heap.size := by
  obtain ⟨cur, avs, h1, _⟩ := h; exact h1.lt
theorem LnsUp.next {w0 w : World} {g : Nat} {b : List Ln} {k : Nat} {ln : Ln} {av : Value} (h0 : LnsUp w0 g b k) (hb : Below w0.heap.size w0 w) (hk : b[k]? = some ln) (ho : w.ownsRow w0.heap.size 3 1 av ln.told.args.length (ints ln.told.args).flatten) : LnsUp (setRun w g (k * 6) (lnC ln av)) g b (k + 1) := by
  obtain ⟨cur, avs, h1, h2, h3, h4⟩ := h0
  have hkl := (List.getElem?_eq_some_iff.1 hk).1
  have h1' := h1.below hb h1.lt
  have hlt := h1.lt
  have e : b.take (k + 1) = b.take k ++ [ln] := by rw [List.take_add_one, hk]; rfl
  have hl : avs.length = (b.take k).length := h3.len
  have htl : (b.take k).length = k := by rw [List.length_take]; omega
  have hsz : w.heap.size ≤ (setRun w g (k * 6) (lnC ln av)).heap.size := (below_run (Nat.le_refl _) (lnC ln av) w (k * 6) (Below.refl g w)).size
  refine ⟨setArr cur (k * 6) (lnC ln av), avs ++ [av], h1'.run _ _ _ _, (setArr_size _ _ _).trans h2, ?_, ?_⟩
  · rw [e]
    refine .snoc ((h3.next hb).imp fun q n av' xs hq h => own_run (by omega) _ _ _ h) (own_run (by omega) _ _ _ ho) (fun y hy => Nat.lt_of_lt_of_le (ho.lt y hy).2 hsz) (Nat.le_trans hb.size hsz)
  · rw [e, lnRows_snoc hl]
    have hll : (lnRows (b.take k) avs).length = k := (lnRows_len hl).trans htl
    have hrow : ∀ r ∈ lnRows (b.take k) avs ++ [lnC ln av], r.length = 6 := fun r hr => by
      rcases List.mem_append.1 hr with hr | hr
      · exact lnRows_rows _ _ r hr
      · simp at hr; subst hr; rfl
    exact FilledTo.next (h4.more hll (lnC ln av)) (by rw [List.getElem?_append_right (by omega), hll, Nat.sub_self]; rfl) hrow h2 hkl
theorem LnsUp.own {w : World} {g n : Nat} {b : List Ln} (h : LnsUp w g b n) (hn : b.length = n) (hm : n ≤ maxLen) : OwnBk w g w.heap.size (.slice (some ⟨g, 0, none⟩) n n) b := by
  obtain ⟨cur, avs, h1, h2, h3, h4⟩ := h
  subst hn
  rw [List.take_of_length_le (Nat.le_refl _)] at h3 h4
  have hl := h3.len
  refine ⟨avs, h3.low (Nat.le_succ _), own_of_filled h1 (Nat.le_refl _) (lnRows_len hl) (lnRows_rows _ _) h2 hm h4, fun y hy => ?_⟩
  cases hy
  exact h1.lt

set_option maxRecDepth 100000 in
set_option maxHeartbeats 2000000 in
theorem toLineS_own (v : Value) (b : List Ln) (w : World) (hb : BookIs w v b) (hn : b.length ≤ 1048576) (hsz : ∀ ln ∈ b, ln.told.args.length ≤ 1048576) :
    Calls Tryd.prog 14 #[v] w fun e w' => ∃ u, e = .returned u ∧ OwnBk w' w.heap.size w'.heap.size u b ∧ Below w.heap.size w w' := by
  obtain ⟨A, n, c, css, rfl, hA, hcl, hli⟩ := hb
  have hbn : b.length = n := by have := hA.len; omega
  have hcp := hA.cap
  have hmx := hA.max
  unfold maxLen at hmx
  rw [hbn] at hn
  have hmk := fun W => run_make_rowN (P := Tryd.prog) 23 32 _ 6 72 Tryd.underlying23 info_Line .i64 n (by omega) (by omega) W
  have HA := Lib.hid hA; have HLI := Lib.hid hli; have HCL := Lib.hid hcl; have HN := Lib.hid hbn; have HSZ := Lib.hid hsz
  clear hA hli hcl hbn hsz
  go_enter Tryd.func14, Tryd.ntmps14
  go_wp2
  go_loopw [4] (fun i wr => ∃ k : Nat, k ≤ n ∧ i = .int .i64 k ∧ Hid (LnsUp wr w.heap.size b k) ∧ Below w.heap.size w wr) (fun i _ => n - (intOf i).toNat)
  case atStart => exact ⟨0, by omega, rfl, Lib.hid ⟨_, [], Blk.new _ _ _, by rw [size_madeCells, HN.out], .nil (by simp), fun j r hj => absurd hj (by omega)⟩, by go_grown⟩
  case round =>
    obtain ⟨k, hk, rfl, HL, hb⟩ := hrel
    by_cases hlt : k < n
    · obtain ⟨g, off, ln, av, rfl, hg, hbk, hs, hok, x0, x1, x2, x3, x4, x5⟩ := book_get HA.out HCL.out HLI.out hlt
      have y0 := (hb.cell (p := ⟨g, off + k * 6, none⟩) hg).trans x0
      have y1 := (hb.cell (p := ⟨g, off + k * 6 + 1, none⟩) hg).trans x1
      have y2 := (hb.cell (p := ⟨g, off + k * 6 + 2, none⟩) hg).trans x2
      have y3 := (hb.cell (p := ⟨g, off + k * 6 + 3, none⟩) hg).trans x3
      have y4 := (hb.cell (p := ⟨g, off + k * 6 + 4, none⟩) hg).trans x4
      have y5 := (hb.cell (p := ⟨g, off + k * 6 + 5, none⟩) hg).trans x5
      have HM := Lib.hid (HSZ.out ln (List.mem_of_getElem? hbk))
      obtain ⟨⟨gt, ep, nm, xs, vd⟩, sm⟩ := ln
      simp only at y0 y1 y2 y3 y4 y5 hs hok
      have HBK := Lib.hid hbk
      have HS := Lib.hid (hs.below hb)
      obtain ⟨A2, n2, c2, rfl, hA2⟩ := hs
      have kn : (k : Int) < n := by omega
      have HLT := Lib.hid hlt
      have hgl := HL.out.lt
      clear x0 x1 x2 x3 x4 x5 hbk hok hlt hk hA2
      go_wp2_with fail
      refine (toLine_any gt ep nm vd _ xs sm _ HS.out HM.out).mono ?_; rintro e w2 ⟨v2, rfl, o2, b2⟩
      obtain ⟨A3, n3, c3, rfl, -⟩ := SlA.of_own o2 (ints_len xs) (ints_rows xs)
      have HL2 := Lib.hid (HL.out.next b2 HBK.out o2)
      have HT : Hid (w2.there w.heap.size (k * 6) 6) := fun j hj => by
        obtain ⟨cur, avs, h1, h2, _⟩ := HL.out.below b2
        obtain ⟨v, hv⟩ := h1.some_ (i := k * 6 + j) (by rw [h2, HN.out]; have := HLT.out; omega)
        exact ⟨by rw [hv]; rfl, h1.frozen _⟩
      have HB2 := Lib.hid (below_then hb b2)
      clear o2 b2 y0 y1 y2 y3 y4 y5
      simp only []
      iterate 4 go_step
      refine store6mid rfl (.tmp 21) (.tmp 20) rfl w.heap.size (k * 6) ⟨⟨gt, ep, nm, xs, vd⟩, sm⟩ (.slice A3 n3 c3) rfl rfl ⟨_, _, _, rfl⟩ HT.out ?_
      go_wp2
      have hk := HLT.out
      refine ⟨⟨k + 1, by omega, by go_num, HL2, ?_⟩, by simp [intOf]; omega⟩
      exact below_run (Nat.le_refl _) _ _ _ HB2.out
    · obtain rfl : k = n := by omega
      go_wp2
      go_ret
      exact ⟨_, rfl, HL.out.own HN.out (by unfold maxLen; omega), hb⟩
end Go.Proofs.YtaieopdfkapgdaaDoor

-- What adding to a book gives, told by what is read; frames of marks; what operations yield in the law's regions.
namespace Go.Proofs.YtaieopdfkapgdaaDoor
open Go.RowKit
set_option linter.unusedSimpArgs false
set_option linter.unusedVariables false

noncomputable def addB (b : List Ln) (t : Tl) : Bool := @decide (bookOk b ∧ callOk t.num t.args ∧ b.length < 40) (Classical.propDecidable _)
noncomputable def addRes (b : List Ln) (t : Tl) : List Ln := if addB b t = true then addTo b t else []
theorem addB_yes {b : List Ln} {t : Tl} (h : bookOk b ∧ callOk t.num t.args ∧ b.length < 40) : addB b t = true := by simp [addB, h.1, h.2.1, h.2.2]
theorem addB_iff {b : List Ln} {t : Tl} : addB b t = true ↔ bookOk b ∧ callOk t.num t.args ∧ b.length < 40 := by simp [addB]
theorem addB_no {b : List Ln} {t : Tl} (h : ¬ (bookOk b ∧ callOk t.num t.args ∧ b.length < 40)) : addB b t = false := by rw [← Bool.not_eq_true, addB_iff]; exact h
theorem AddsTo.res {b rb : List Ln} {t : Tl} {ra : Bool} {w w' : World} {e : Ending} (h : AddsTo b t w e w') (hb : rb = addRes b t) (ha : ra = addB b t) : Below w.heap.size w w' ∧ ∃ u, e = .returned (.tuple #[u, .bool ra]) ∧ OwnBk w' w.heap.size w'.heap.size u rb := by
  subst hb; subst ha
  obtain ⟨h1, ⟨h2, h3, h4, u, e1, h5⟩ | ⟨h2, u, e1, h5⟩⟩ := h
  · have h6 := addB_yes ⟨h2, h3, h4⟩
    refine ⟨h1, u, by rw [h6]; exact e1, ?_⟩
    unfold addRes
    rw [if_pos h6]
    exact h5
  · have h6 := addB_no h2
    refine ⟨h1, u, by rw [h6]; exact e1, ?_⟩
    unfold addRes
    rw [if_neg (by rw [h6]; simp)]
    exact h5
theorem sBookAdd_res (b : List Ln) (t : Tl) (rb : List Ln) (ra : Bool) (hb : rb = addRes b t) (ha : ra = addB b t) : ∀ (v av : Value) (w : World), BookIs w v b → t.ok → Sl w 1 av (ints t.args) →
    Calls Tryd.prog 20 #[v, .agg #[.int .i64 t.gate, .int .i64 t.epoch, .int .i64 t.num, av, .int .i64 t.verdict]] w fun e w' => Below w.heap.size w w' ∧ ∃ u, e = .returned (.tuple #[u, .bool ra]) ∧ ∃ lo hi, w.heap.size ≤ lo ∧ hi ≤ w'.heap.size ∧ OwnBk w' lo hi u rb := fun v av w h1 h2 h3 =>
  (sBookAdd_any v b t av w h1 h2 h3).mono fun e w' h => by
    obtain ⟨h4, u, h5, h6⟩ := h.res hb ha
    exact ⟨h4, u, h5, _, _, Nat.le_refl _, Nat.le_refl _, h6⟩
theorem BookAdd_res (b : List Ln) (t : Tl) (rb : List Ln) (ra : Bool) (hb : rb = addRes b t) (ha : ra = addB b t) : ∀ (v av : Value) (w : World), Pow w → Kww w → BookIs w v b → t.ok → Sl w 1 av (ints t.args) →
    Calls Tryd.prog 19 #[v, .agg #[.int .i64 t.gate, .int .i64 t.epoch, .int .i64 t.num, av, .int .i64 t.verdict]] w fun e w' => Below w.heap.size w w' ∧ ∃ u, e = .returned (.tuple #[u, .bool ra]) ∧ OwnBk w' w.heap.size w'.heap.size u rb := fun v av w hp hk h1 h2 h3 =>
  (BookAdd_any v b t av w hp hk h1 h2 h3).mono fun e w' h => h.res hb ha
theorem addRes_yes {b : List Ln} {t : Tl} {rb : List Ln} (hb : rb = addRes b t) : (addB b t = true ∧ rb = addTo b t) ∨ rb = [] := by
  subst hb
  unfold addRes
  by_cases h : addB b t = true
  · rw [if_pos h]; exact .inl ⟨h, rfl⟩
  · rw [if_neg h]; exact .inr rfl
theorem OwnBk.is2 {w : World} {lo hi : Nat} {v : Value} {b : List Ln} (h : OwnBk w lo hi v b) (hok : b = [] ∨ ∀ ln ∈ b, ln.told.ok) : BookIs w v b := h.is (by
  rcases hok with rfl | h
  · intro ln h; cases h
  · exact h)
theorem wtB_four : ∀ (b : List Ln), (∀ ln ∈ b, ln.told.args.length = 4) → wtB b = 9 * b.length
  | [], _ => rfl
  | x :: b, h => by
    have h1 := wtB_four b fun ln hm => h ln (by simp [hm])
    have h2 := h x (by simp)
    unfold wtB at h1 ⊢
    rw [List.map_cons, List.sum_cons, h1, h2, List.length_cons]
    omega
theorem addRes_four {b : List Ln} {t : Tl} {rb : List Ln} (hb : rb = addRes b t) : rb.length ≤ 41 ∧ ∀ ln ∈ rb, ln.told.args.length = 4 := by
  rcases addRes_yes hb with ⟨h, rfl⟩ | rfl
  · have h2 := addB_iff.1 h
    exact ⟨by rw [addTo_len]; omega, addTo_args (goodL_args [] b h2.1.1) h2.2.1.2.1⟩
  · exact ⟨by simp, fun ln h => by cases h⟩
theorem addRes_len (b : List Ln) (t : Tl) (rb : List Ln) (hb : rb = addRes b t) : rb.length ≤ 1048576 := by have := (addRes_four hb).1; omega
theorem addRes_wt (b : List Ln) (t : Tl) (rb : List Ln) (hb : rb = addRes b t) : wtB rb ≤ 100000000 := by
  obtain ⟨h1, h2⟩ := addRes_four hb
  rw [wtB_four rb h2]
  omega
theorem addRes_ok {b : List Ln} {t : Tl} {rb : List Ln} (hb : rb = addRes b t) (h1 : ∀ ln ∈ b, ln.told.ok) (h2 : t.ok) : ∀ ln ∈ rb, ln.told.ok := by
  rcases addRes_yes hb with ⟨_, rfl⟩ | rfl
  · exact addTo_ok h1 h2
  · intro ln h; cases h
theorem wtB_size (b : List Ln) : wtB b ≤ 5 * (b.length + lnsSize b) := by
  induction b with
  | nil => simp [wtB]
  | cons x b ih =>
    unfold wtB lnsSize lnSize at ih ⊢
    simp only [List.map_cons, List.sum_cons, List.length_cons] at ih ⊢
    omega
theorem OwnBk.mk {w w' : World} {lo hi l h : Nat} {v : Value} {b : List Ln} (H : OwnBk w lo hi v b) (hf : MkFr l h w w') (hle : h ≤ lo) : OwnBk w' lo hi v b := by
  obtain ⟨avs, h1, h2, h3⟩ := H
  exact ⟨avs, h1.imp fun q n av xs hq ho => hf.own _ _ _ _ _ _ (Nat.le_trans hle hq) ho, hf.own _ _ _ _ _ _ hle h2, h3⟩
theorem Blk.own1 {w : World} {g size : Nat} {t : TypeId} {cs : Array Value} (h : Blk w g t cs) (hs : cs.size = size) : w.ownsRow g t size (.slice (some ⟨g, 0, none⟩) 1 1) 1 cs.toList :=
  ⟨by simp [hs], .inr ⟨g, 1, cs, rfl, Nat.le_refl _, h, Nat.le_refl _, by unfold maxLen; omega, by omega, List.take_of_length_le (by simp [hs])⟩⟩
theorem Blk.mk {w w' : World} {g l hh : Nat} {t : TypeId} {cs : Array Value} (h : Blk w g t cs) (hf : MkFr l hh w w') (hle : hh ≤ g) : Blk w' g t cs := by
  have h1 := hf.own _ _ _ _ _ _ hle (h.own1 rfl)
  rcases h1.2 with ⟨e, _⟩ | ⟨g', cap, cur, e, _, hg, hc1, hm, hs, htk⟩
  · cases e
  · injection e with e _ e3
    injection e with e
    injection e with e _ _
    subst e; subst e3
    have : cur = cs := by
      apply Array.ext'
      have h4 : cur.toList.length = cs.size := by simpa using hs
      rw [← htk, Nat.one_mul, List.take_of_length_le (by omega)]
    rw [this] at hg
    exact hg
/-- What each operation yields where a law hands a book and a telling on. -/
def bookT (b rb : List Ln) (ra : Bool) (t : Tl) (v av : Value) : Nat → World → Value → Prop
  | 0, _, u => u = v
  | 1, w, u => BookIs w u b
  | 2, _, u => u = tldV t av
  | 3, w, u => ∃ a1, u = tldV t a1 ∧ Sl w 1 a1 (ints t.args)
  | 4, w, u => ∃ x, u = .tuple #[x, .bool ra] ∧ BookIs w x rb
  | 5, w, u => ∃ x, u = .tuple #[x, .bool ra] ∧ BookIs w x rb
  | 6, w, u => BookIs w u rb
  | 7, _, u => u = .bool ra
  | 8, w, u => BookIs w u rb
  | _, _, u => u = .bool ra
theorem bookT_keep {b rb : List Ln} {ra : Bool} {t : Tl} {v av : Value} (j : Nat) {w w' : World} {u : Value} (hb : Below w.heap.size w w') (h : bookT b rb ra t v av j w u) : bookT b rb ra t v av j w' u := by
  match j, h with
  | 0, h => exact h
  | 1, h => exact BookIs.below h hb
  | 2, h => exact h
  | 3, ⟨a, e, h⟩ => exact ⟨a, e, h.below hb⟩
  | 4, ⟨x, e, h⟩ => exact ⟨x, e, h.below hb⟩
  | 5, ⟨x, e, h⟩ => exact ⟨x, e, h.below hb⟩
  | 6, h => exact BookIs.below h hb
  | 7, h => exact h
  | 8, h => exact BookIs.below h hb
  | (n + 9), h => exact h
def eqT (t : Tl) (a1 a2 : Value) : Nat → World → Value → Prop
  | 0, _, u => u = tldV t a1
  | 1, _, u => u = tldV t a2
  | 2, w, u => ∃ a, u = tldV t a ∧ Sl w 1 a (ints t.args)
  | 3, _, u => u = .bool true
  | _, _, u => u = .bool false
theorem eqT_keep {t : Tl} {a1 a2 : Value} (j : Nat) {w w' : World} {u : Value} (hb : Below w.heap.size w w') (h : eqT t a1 a2 j w u) : eqT t a1 a2 j w' u := by
  match j, h with
  | 0, h => exact h
  | 1, h => exact h
  | 2, ⟨a, e, h⟩ => exact ⟨a, e, h.below hb⟩
  | 3, h => exact h
  | (n + 4), h => exact h
end Go.Proofs.YtaieopdfkapgdaaDoor
