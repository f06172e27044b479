/- Joined texts: GoodA GoodI. -/
import Derived.Test.YtdjgicapbpoigaaGreatDoorCurNA
import Derived.Test.YtdjgicapbpoigaaGreatDoorGoodSA
import Derived.Test.YtdjgicapbpoigaaGreatDoorCodeI
import Derived.Test.YtdjgicapbpoigaaGreatDoorPackF
import Derived.Test.YtdjgicapbpoigaaGreatDoorChkJ
-- impl.PolicyRead on any text; openPack.
namespace Go.Proofs.YtdjgicapbpoigaaGreatDoor
open Go.RowKit
set_option linter.unusedSimpArgs false
set_option linter.unusedVariables false

/-- The variable bytealg.MaxLen holds a number. -/
def MaxIs (w : World) : Prop := ∃ m : Int, w.cell? ⟨1, 0, none⟩ = some (.int .i64 m)
theorem MaxIs.below {w w' : World} (h : MaxIs w) (hb : Below w.heap.size w w') : MaxIs w' := by
  obtain ⟨m, hm⟩ := h
  exact ⟨m, (hb.cell (p := ⟨1, 0, none⟩) (World.block_lt_of_cell? w ⟨1, 0, none⟩ hm)).trans hm⟩
def PolRdI (l : List UInt8) (w : World) (e : Ending) (w' : World) : Prop := ∃ (p : Pol) (A : Option Addr) (n c : Nat) (els at_ : Int), e = .returned (.tuple #[.agg #[.slice A n c, .int .i64 els], .int .i64 at_]) ∧ (at_ = 0 → polOkB p = true ∧ polText p = l ∧ PolIs w' p (.agg #[.slice A n c, .int .i64 els])) ∧ (at_ ≠ 0 → ¬ isPol l) ∧ Below w.heap.size w w'
theorem iPolicyRead_all (l : List UInt8) (w : World) (hs : l.length ≤ 1048576) (hm : MaxIs w) :
    Calls Tryz.prog 21 #[.string ⟨l.toArray⟩] w (PolRdI l w) := by
  by_cases h : isPol l
  · obtain ⟨p, hp, rfl⟩ := h
    refine (PolicyRead_yes p w hp hm).mono ?_
    rintro e w' ⟨pv, rfl, hi, hb⟩
    have hi2 := hi
    obtain ⟨rv, css, rfl, ⟨A, n, c, rfl, _⟩, _⟩ := hi
    exact ⟨p, A, n, c, p.els, 0, rfl, fun _ => ⟨hp, rfl, hi2⟩, fun h => absurd rfl h, hb⟩
  · refine (PolicyRead_no l w hs h hm).mono ?_
    rintro e w' ⟨at_, rfl, ha, hb⟩
    exact ⟨⟨[], 0⟩, none, 0, 0, 0, at_, rfl, fun h => absurd h ha, fun _ => h, hb⟩
abbrev TOpen : TypeId := 46
def BadPk (en : Int) (r c : List UInt8) : Prop := inB en 1 99 = false ∨ ¬ isPol r ∨ ¬ ∃ g, codeOk g ∧ c = codeText g
def OpPost (en : Int) (r c : List UInt8) (w : World) (e : Ending) (w' : World) : Prop :=
  (∃ a : Addr, e = .returned (.tuple #[.agg #[.slice none 0 0, .int .i64 0, .slice none 0 0, .int .i64 0], .iface 71 (.pointer (some a))]) ∧ BadPk en r c ∧ Below w.heap.size w w') ∨
  (∃ (p : Pol) (g : List In4) (A A3 : Option Addr) (n cc c3 : Nat) (els : Int), e = .returned (.tuple #[.agg #[.slice A n cc, .int .i64 els, .slice A3 g.length c3, .int .i64 en], .nilIface]) ∧ inB en 1 99 = true ∧ polOkB p = true ∧ polText p = r ∧ codeOk g ∧ c = codeText g ∧ PolIs w' p (.agg #[.slice A n cc, .int .i64 els]) ∧ Sl w' 4 (.slice A3 g.length c3) (insR g) ∧ Below w.heap.size w w')
theorem open_set {w W : World} (h : Below w.heap.size w W) (a b c d : Value) : Below w.heap.size w ((((W.setCell ⟨w.heap.size + 1, 0, none⟩ a).setCell ⟨w.heap.size + 1, 1, none⟩ b).setCell ⟨w.heap.size + 1, 2, none⟩ c).setCell ⟨w.heap.size + 1, 3, none⟩ d) :=
  (((h.setCell (p := ⟨w.heap.size + 1, 0, none⟩) (Nat.le_succ _) _).setCell (p := ⟨w.heap.size + 1, 1, none⟩) (Nat.le_succ _) _).setCell (p := ⟨w.heap.size + 1, 2, none⟩) (Nat.le_succ _) _).setCell (p := ⟨w.heap.size + 1, 3, none⟩) (Nat.le_succ _) _
/-- Rows that begin with a number lie apart from a block that begins with a slice. -/
theorem Sl.apartO {w w' : World} {k : Nat} {t : TypeId} {b1 c1 d1 : Value} {v : Value} {cs : List (List Value)} (h : Sl w 4 v cs) (hr : ∀ r ∈ cs, r.length = 4 ∧ ∃ x : Int, r[0]? = some (.int .i64 x)) (hk : Blk w k t #[.slice none 0 0, b1, c1, d1]) (hg : w.grownBy w' (some k)) : Sl w' 4 v cs := by
  obtain ⟨A, n, c, rfl, hA⟩ := h
  rcases Nat.eq_zero_or_pos n with h0 | h0
  · subst h0
    exact ⟨A, 0, c, rfl, hA.len, hA.cap, hA.max, fun h => absurd h (by omega)⟩
  · refine ⟨A, n, c, rfl, hA.grown hg fun b off e => ?_⟩
    obtain ⟨b', off', e', hb, he⟩ := hA.at_ h0
    rw [e] at e'
    cases e'
    intro e2
    subst e2
    have hl := hA.len
    have hr0 : cs[0]? = some (cs[0]'(by omega)) := List.getElem?_eq_getElem _
    obtain ⟨hlen, x, hx⟩ := hr _ (List.getElem_mem (l := cs) (n := 0) (by omega))
    have h6 := he 0 _ hr0 3 _ (List.getElem?_eq_getElem (by rw [hlen]; omega))
    rw [hk.cell] at h6
    have h7 := (Array.getElem?_eq_some_iff.1 h6).1
    simp at h7
    have ho : off = 0 := by omega
    subst ho
    have h8 := he 0 _ hr0 0 _ hx
    rw [hk.cell] at h8
    simp at h8
theorem PolIs.apartO {w w' : World} {k : Nat} {t : TypeId} {b1 c1 d1 : Value} {p : Pol} {v : Value} (h : PolIs w p v) (hk : Blk w k t #[.slice none 0 0, b1, c1, d1]) (hg : w.grownBy w' (some k)) : PolIs w' p v := by
  obtain ⟨rv, css, rfl, hs, hR⟩ := h
  refine ⟨rv, css, rfl, hs.apartO (fun r hr => ?_) hk hg, hR.1, fun i r cs h1 h2 => ?_⟩
  · obtain ⟨i, hi, rfl⟩ := List.getElem_of_mem hr
    have hl := hR.1
    obtain ⟨tv, e, _⟩ := hR.2 i _ _ (List.getElem?_eq_getElem (by omega)) (List.getElem?_eq_getElem hi)
    rw [e]
    exact ⟨rfl, _, rfl⟩
  · obtain ⟨tv, e, ht⟩ := hR.2 i r cs h1 h2
    refine ⟨tv, e, ht.apartO (fun r hr => ?_) hk hg⟩
    obtain ⟨t, _, rfl⟩ := List.mem_map.1 hr
    exact ⟨rfl, _, rfl⟩
theorem ins_first (g : List In4) : ∀ r ∈ insR g, r.length = 4 ∧ ∃ x : Int, r[0]? = some (.int .i64 x) := fun r hr => by
  obtain ⟨t, _, rfl⟩ := List.mem_map.1 hr
  exact ⟨rfl, _, rfl⟩
theorem open_grown (W : World) (k : Nat) (a b c d : Value) : W.grownBy ((((W.setCell ⟨k, 0, none⟩ a).setCell ⟨k, 1, none⟩ b).setCell ⟨k, 2, none⟩ c).setCell ⟨k, 3, none⟩ d) (some k) :=
  (((grown_set W k 0 a).trans (grown_set _ k 1 b)).trans (grown_set _ k 2 c)).trans (grown_set _ k 3 d)
theorem open_fault {w W : World} {a b c d : Value} (hB : Below w.heap.size w W) (hO : Blk W (w.heap.size + 1) TOpen #[a, b, c, d]) (n : Int) : Blk (((((W.setCell ⟨w.heap.size + 1, 0, none⟩ (.slice none 0 0)).setCell ⟨w.heap.size + 1, 1, none⟩ (.int .i64 0)).setCell ⟨w.heap.size + 1, 2, none⟩ (.slice none 0 0)).setCell ⟨w.heap.size + 1, 3, none⟩ (.int .i64 0)).alloc (.cells #[.int .i64 n] 73)) (w.heap.size + 1) TOpen #[.slice none 0 0, .int .i64 0, .slice none 0 0, .int .i64 0] ∧ Below w.heap.size w (((((W.setCell ⟨w.heap.size + 1, 0, none⟩ (.slice none 0 0)).setCell ⟨w.heap.size + 1, 1, none⟩ (.int .i64 0)).setCell ⟨w.heap.size + 1, 2, none⟩ (.slice none 0 0)).setCell ⟨w.heap.size + 1, 3, none⟩ (.int .i64 0)).alloc (.cells #[.int .i64 n] 73)) :=
  ⟨((((hO.set_ 0 _).set_ 1 _).set_ 2 _).set_ 3 _).alloc _, (open_set hB _ _ _ _).alloc (open_set hB _ _ _ _).size _⟩
set_option maxHeartbeats 4000000 in
theorem openPack_any (en : Int) (r c : List UInt8) (w : World) (hr : r.length ≤ 1048576) (hc : c.length ≤ 1048576) (hm : MaxIs w) :
    Calls Tryz.prog 16 #[.agg #[.int .i64 en, .string ⟨r.toArray⟩, .string ⟨c.toArray⟩]] w (OpPost en r c w) := by
  obtain ⟨W2, hW2⟩ : ∃ W, W = (w.alloc (.cells #[.int .i64 en, .string ⟨r.toArray⟩, .string ⟨c.toArray⟩] TPackS)).alloc (.cells #[.slice none 0 0, .int .i64 0, .slice none 0 0, .int .i64 0] TOpen) := ⟨_, rfl⟩
  have bW : Hid (Below w.heap.size w W2) := by rw [hW2]; exact Lib.hid (by go_grown)
  have KP : Hid (Blk W2 w.heap.size TPackS #[.int .i64 en, .string ⟨r.toArray⟩, .string ⟨c.toArray⟩]) := by rw [hW2]; exact Lib.hid ((Blk.new _ _ _).alloc _)
  have KO : Hid (Blk W2 (w.heap.size + 1) TOpen #[.slice none 0 0, .int .i64 0, .slice none 0 0, .int .i64 0]) := by
    rw [hW2]
    have := Blk.new (w.alloc (.cells #[.int .i64 en, .string ⟨r.toArray⟩, .string ⟨c.toArray⟩] TPackS)) TOpen #[.slice none 0 0, .int .i64 0, .slice none 0 0, .int .i64 0]
    simpa using Lib.hid this
  have HM2 := Lib.hid (hm.below bW.out)
  have HW2 := Lib.hid hW2
  clear hW2 hm
  have x0 := (show _ = some (Value.int .i64 en) from KP.out.cell 0)
  go_enter Tryz.func16, Tryz.ntmps16
  go_upto_region 1 with (fail)
  rw [← HW2.out]
  by_cases hin : inB en 1 99 = true
  case neg =>
    have hin0 : inB en 1 99 = false := by simpa using hin
    have r0 := (show _ = some (Value.slice none 0 0) from KO.out.cell 0); have r1 := (show _ = some (Value.int .i64 0) from KO.out.cell 1); have r2 := (show _ = some (Value.slice none 0 0) from KO.out.cell 2); have r3 := (show _ = some (Value.int .i64 0) from KO.out.cell 3)
    have rf0 := KO.out.frozen 0; have rf1 := KO.out.frozen 1; have rf2 := KO.out.frozen 2; have rf3 := KO.out.frozen 3
    have hz := KO.out.lt
    rcases Int.lt_or_le en 1 with h1 | h1
    · skip
      obtain ⟨W8, hW8⟩ : ∃ X, X = ((((W2.setCell ⟨w.heap.size + 1, 0, none⟩ (.slice none 0 0)).setCell ⟨w.heap.size + 1, 1, none⟩ (.int .i64 0)).setCell ⟨w.heap.size + 1, 2, none⟩ (.slice none 0 0)).setCell ⟨w.heap.size + 1, 3, none⟩ (.int .i64 0)).alloc (.cells #[.int .i64 1] 73) := ⟨_, rfl⟩
      obtain ⟨K8, B8⟩ := open_fault bW.out KO.out 1
      rw [← hW8] at K8 B8
      have HW8 := Lib.hid hW8; have HK8 := Lib.hid K8; have HB8 := Lib.hid B8
      clear hW8 K8 B8
      go_wp2
      rw [← HW8.out]
      have s0 := (show W8.cell? ⟨w.heap.size + 1, 0, none⟩ = some (Value.slice none 0 0) from HK8.out.cell 0); have s1 := (show W8.cell? ⟨w.heap.size + 1, 1, none⟩ = some (Value.int .i64 0) from HK8.out.cell 1); have s2 := (show W8.cell? ⟨w.heap.size + 1, 2, none⟩ = some (Value.slice none 0 0) from HK8.out.cell 2); have s3 := (show W8.cell? ⟨w.heap.size + 1, 3, none⟩ = some (Value.int .i64 0) from HK8.out.cell 3)
      exact bodyPost_ret (v := .tuple #[.agg #[.slice none 0 0, .int .i64 0, .slice none 0 0, .int .i64 0], .iface 71 (.pointer (some ⟨W2.heap.size, 0, none⟩))]) (by simp [results, Tryz.results16, go_sem, s0, s1, s2, s3]) rfl (.inl ⟨_, rfl, .inl hin0, HB8.out⟩)
    · have h2 : ¬ en < 1 := by omega
      have h3 : 99 < en := by
        rcases Int.lt_or_le 99 en with h | h
        · exact h
        · exact absurd (inB_iff.2 ⟨h1, h⟩) hin
      obtain ⟨W8, hW8⟩ : ∃ X, X = ((((W2.setCell ⟨w.heap.size + 1, 0, none⟩ (.slice none 0 0)).setCell ⟨w.heap.size + 1, 1, none⟩ (.int .i64 0)).setCell ⟨w.heap.size + 1, 2, none⟩ (.slice none 0 0)).setCell ⟨w.heap.size + 1, 3, none⟩ (.int .i64 0)).alloc (.cells #[.int .i64 1] 73) := ⟨_, rfl⟩
      obtain ⟨K8, B8⟩ := open_fault bW.out KO.out 1
      rw [← hW8] at K8 B8
      have HW8 := Lib.hid hW8; have HK8 := Lib.hid K8; have HB8 := Lib.hid B8
      clear hW8 K8 B8
      go_wp2
      rw [← HW8.out]
      have s0 := (show W8.cell? ⟨w.heap.size + 1, 0, none⟩ = some (Value.slice none 0 0) from HK8.out.cell 0); have s1 := (show W8.cell? ⟨w.heap.size + 1, 1, none⟩ = some (Value.int .i64 0) from HK8.out.cell 1); have s2 := (show W8.cell? ⟨w.heap.size + 1, 2, none⟩ = some (Value.slice none 0 0) from HK8.out.cell 2); have s3 := (show W8.cell? ⟨w.heap.size + 1, 3, none⟩ = some (Value.int .i64 0) from HK8.out.cell 3)
      exact bodyPost_ret (v := .tuple #[.agg #[.slice none 0 0, .int .i64 0, .slice none 0 0, .int .i64 0], .iface 71 (.pointer (some ⟨W2.heap.size, 0, none⟩))]) (by simp [results, Tryz.results16, go_sem, s0, s1, s2, s3]) rfl (.inl ⟨_, rfl, .inl hin0, HB8.out⟩)
  obtain ⟨hin1, hin2⟩ := inB_iff.1 hin
  have hin3 : ¬ en < 1 := by omega
  have hin4 : ¬ 99 < en := by omega
  have x1 := (show _ = some (Value.string ⟨r.toArray⟩) from KP.out.cell 1)
  go_wp2_with fail
  refine (iPolicyRead_all r W2 hr HM2.out).mono ?_; rintro e w3 ⟨p, A, n, cc, els, at_, rfl, hat, hnat, b3⟩
  have HAT := Lib.hid hat; have HNAT := Lib.hid hnat
  have B3 := Lib.hid (below_then bW.out b3); have KP3 := Lib.hid (KP.out.below b3 KP.out.lt); have KO3 := Lib.hid (KO.out.below b3 KO.out.lt)
  obtain ⟨W3, hW3⟩ : ∃ W, W = w3.alloc (.cells #[.slice A n cc, .int .i64 els] TPolC) := ⟨_, rfl⟩
  have b4 : Below w3.heap.size w3 W3 := by rw [hW3]; go_grown
  have B4 := Lib.hid (B3.out.trans (b4.mono B3.out.size)); have KP4 := Lib.hid (KP3.out.below b4 KP3.out.lt); have KO4 := Lib.hid (KO3.out.below b4 KO3.out.lt)
  have KQ4 : Hid (Blk W3 w3.heap.size TPolC #[.slice A n cc, .int .i64 els]) := by rw [hW3]; exact Lib.hid (Blk.new _ _ _)
  have HPI : Hid (at_ = 0 → PolIs W3 p (.agg #[.slice A n cc, .int .i64 els])) := Lib.hid (fun h => (HAT.out h).2.2.below b4)
  have HW3 := Lib.hid hW3
  clear hW3 hat hnat b3 b4 x0 x1 B3 KP3 KO3
  go_upto_region 4 with (fail)
  rw [← HW3.out]
  clear HW3
  by_cases ha : at_ = 0
  case neg =>
    have had : (at_ != 0) = true := by simpa using ha
    have r0 := (show _ = some (Value.slice none 0 0) from KO4.out.cell 0); have r1 := (show _ = some (Value.int .i64 0) from KO4.out.cell 1); have r2 := (show _ = some (Value.slice none 0 0) from KO4.out.cell 2); have r3 := (show _ = some (Value.int .i64 0) from KO4.out.cell 3)
    have rf0 := KO4.out.frozen 0; have rf1 := KO4.out.frozen 1; have rf2 := KO4.out.frozen 2; have rf3 := KO4.out.frozen 3
    have hz := KO4.out.lt
    obtain ⟨W8, hW8⟩ : ∃ X, X = ((((W3.setCell ⟨w.heap.size + 1, 0, none⟩ (.slice none 0 0)).setCell ⟨w.heap.size + 1, 1, none⟩ (.int .i64 0)).setCell ⟨w.heap.size + 1, 2, none⟩ (.slice none 0 0)).setCell ⟨w.heap.size + 1, 3, none⟩ (.int .i64 0)).alloc (.cells #[.int .i64 2] 73) := ⟨_, rfl⟩
    obtain ⟨K8, B8⟩ := open_fault B4.out KO4.out 2
    rw [← hW8] at K8 B8
    have HW8 := Lib.hid hW8; have HK8 := Lib.hid K8; have HB8 := Lib.hid B8
    clear hW8 K8 B8
    go_wp2
    rw [← HW8.out]
    have s0 := (show W8.cell? ⟨w.heap.size + 1, 0, none⟩ = some (Value.slice none 0 0) from HK8.out.cell 0); have s1 := (show W8.cell? ⟨w.heap.size + 1, 1, none⟩ = some (Value.int .i64 0) from HK8.out.cell 1); have s2 := (show W8.cell? ⟨w.heap.size + 1, 2, none⟩ = some (Value.slice none 0 0) from HK8.out.cell 2); have s3 := (show W8.cell? ⟨w.heap.size + 1, 3, none⟩ = some (Value.int .i64 0) from HK8.out.cell 3)
    exact bodyPost_ret (v := .tuple #[.agg #[.slice none 0 0, .int .i64 0, .slice none 0 0, .int .i64 0], .iface 71 (.pointer (some ⟨W3.heap.size, 0, none⟩))]) (by simp [results, Tryz.results16, go_sem, s0, s1, s2, s3]) rfl (.inl ⟨_, rfl, .inr (.inl (HNAT.out ha)), HB8.out⟩)
  have had : (at_ != 0) = false := by simpa using ha
  have x2 := (show _ = some (Value.string ⟨c.toArray⟩) from KP4.out.cell 2)
  go_wp2_with fail
  refine (CodeRead_any ⟨c.toArray⟩ W3 (by show c.toArray.size ≤ _; simpa using hc)).mono ?_; intro e5 w5 h5
  obtain ⟨g, v5, ok, rfl, hgy, hgn, ho5, hb5⟩ := codePost_short h5
  have HGY : Hid (ok = true → codeOk g ∧ c = codeText g) := Lib.hid (by simpa using hgy); have HGN : Hid (ok = false → ¬ ∃ g, codeOk g ∧ c = codeText g) := Lib.hid (by simpa using hgn)
  obtain ⟨A5, c5, rfl⟩ := own_slice ho5
  have B5 := Lib.hid (below_then B4.out hb5); have KP5 := Lib.hid (KP4.out.below hb5 KP4.out.lt); have KO5 := Lib.hid (KO4.out.below hb5 KO4.out.lt); have KQ5 := Lib.hid (KQ4.out.below hb5 KQ4.out.lt)
  have HP5 := Lib.hid ((HPI.out ha).below hb5)
  have HS5 := Lib.hid (show Sl w5 4 (.slice A5 g.length c5) (insR g) from SlA.of_own ho5 (insR_len g) (insR_rows g))
  have r0 := (show _ = some (Value.slice none 0 0) from KO5.out.cell 0); have r1 := (show _ = some (Value.int .i64 0) from KO5.out.cell 1); have r2 := (show _ = some (Value.slice none 0 0) from KO5.out.cell 2); have r3 := (show _ = some (Value.int .i64 0) from KO5.out.cell 3)
  have rf0 := KO5.out.frozen 0; have rf1 := KO5.out.frozen 1; have rf2 := KO5.out.frozen 2; have rf3 := KO5.out.frozen 3
  have hz := KO5.out.lt
  clear h5 hgy hgn ho5 hb5 x2 had
  cases ok with
  | false =>
    obtain ⟨W8, hW8⟩ : ∃ X, X = ((((w5.setCell ⟨w.heap.size + 1, 0, none⟩ (.slice none 0 0)).setCell ⟨w.heap.size + 1, 1, none⟩ (.int .i64 0)).setCell ⟨w.heap.size + 1, 2, none⟩ (.slice none 0 0)).setCell ⟨w.heap.size + 1, 3, none⟩ (.int .i64 0)).alloc (.cells #[.int .i64 3] 73) := ⟨_, rfl⟩
    obtain ⟨K8, B8⟩ := open_fault B5.out KO5.out 3
    rw [← hW8] at K8 B8
    have HW8 := Lib.hid hW8; have HK8 := Lib.hid K8; have HB8 := Lib.hid B8
    clear hW8 K8 B8
    go_wp2
    rw [← HW8.out]
    have s0 := (show W8.cell? ⟨w.heap.size + 1, 0, none⟩ = some (Value.slice none 0 0) from HK8.out.cell 0); have s1 := (show W8.cell? ⟨w.heap.size + 1, 1, none⟩ = some (Value.int .i64 0) from HK8.out.cell 1); have s2 := (show W8.cell? ⟨w.heap.size + 1, 2, none⟩ = some (Value.slice none 0 0) from HK8.out.cell 2); have s3 := (show W8.cell? ⟨w.heap.size + 1, 3, none⟩ = some (Value.int .i64 0) from HK8.out.cell 3)
    exact bodyPost_ret (v := .tuple #[.agg #[.slice none 0 0, .int .i64 0, .slice none 0 0, .int .i64 0], .iface 71 (.pointer (some ⟨w5.heap.size, 0, none⟩))]) (by simp [results, Tryz.results16, go_sem, s0, s1, s2, s3]) rfl (.inl ⟨_, rfl, .inr (.inr (HGN.out (by simp))), HB8.out⟩)
  | true =>
    have x0 := (show w5.cell? ⟨w.heap.size, 0, none⟩ = some (Value.int .i64 en) from KP5.out.cell 0)
    have y0 := (show w5.cell? ⟨w3.heap.size, 0, none⟩ = some (Value.slice A n cc) from KQ5.out.cell 0); have y1 := (show w5.cell? ⟨w3.heap.size, 1, none⟩ = some (Value.int .i64 els) from KQ5.out.cell 1)
    obtain ⟨W6, hW6⟩ : ∃ W, W = (((w5.setCell ⟨w.heap.size + 1, 0, none⟩ (.slice A n cc)).setCell ⟨w.heap.size + 1, 1, none⟩ (.int .i64 els)).setCell ⟨w.heap.size + 1, 2, none⟩ (.slice A5 g.length c5)).setCell ⟨w.heap.size + 1, 3, none⟩ (.int .i64 en) := ⟨_, rfl⟩
    have B6 : Hid (Below w.heap.size w W6) := by rw [hW6]; exact Lib.hid (open_set B5.out _ _ _ _)
    have K6 : Hid (Blk W6 (w.heap.size + 1) TOpen #[.slice A n cc, .int .i64 els, .slice A5 g.length c5, .int .i64 en]) := by rw [hW6]; exact Lib.hid ((((KO5.out.set_ 0 _).set_ 1 _).set_ 2 _).set_ 3 _)
    have HPK : Hid (PolIs W6 p (.agg #[.slice A n cc, .int .i64 els])) := by rw [hW6]; exact Lib.hid (HP5.out.apartO KO5.out (open_grown _ _ _ _ _ _))
    have HSK : Hid (Sl W6 4 (.slice A5 g.length c5) (insR g)) := by rw [hW6]; exact Lib.hid (HS5.out.apartO (ins_first g) KO5.out (open_grown _ _ _ _ _ _))
    have HW6 := Lib.hid hW6
    clear hW6
    go_wp2
    rw [← HW6.out]
    have s0 := (show W6.cell? ⟨w.heap.size + 1, 0, none⟩ = some (Value.slice A n cc) from K6.out.cell 0); have s1 := (show W6.cell? ⟨w.heap.size + 1, 1, none⟩ = some (Value.int .i64 els) from K6.out.cell 1); have s2 := (show W6.cell? ⟨w.heap.size + 1, 2, none⟩ = some (Value.slice A5 g.length c5) from K6.out.cell 2); have s3 := (show W6.cell? ⟨w.heap.size + 1, 3, none⟩ = some (Value.int .i64 en) from K6.out.cell 3)
    have hpol := (HAT.out ha)
    have hcode := HGY.out (by simp)
    exact bodyPost_ret (v := .tuple #[.agg #[.slice A n cc, .int .i64 els, .slice A5 g.length c5, .int .i64 en], .nilIface]) (by simp [results, Tryz.results16, go_sem, s0, s1, s2, s3]) rfl (.inr ⟨p, g, A, A5, n, cc, c5, els, rfl, hin, hpol.1, hpol.2.1, hcode.1, hcode.2, HPK.out, HSK.out, B6.out⟩)
end Go.Proofs.YtdjgicapbpoigaaGreatDoor

-- impl.PackGood, exactly.
namespace Go.Proofs.YtdjgicapbpoigaaGreatDoor
open Go.RowKit
set_option linter.unusedSimpArgs false
set_option linter.unusedVariables false

theorem BadPk.good {en : Int} {r c : List UInt8} (h : BadPk en r c) : GoodIs en r c false := .inl ⟨rfl, h⟩
set_option maxHeartbeats 4000000 in
theorem iPackGood_all (en : Int) (r c : List UInt8) (w : World) (hr : r.length ≤ 1048576) (hc : c.length ≤ 1048576) (hm : MaxIs w) (hpw : Pow w) (het : EtIs w) :
    Calls Tryz.prog 8 #[.agg #[.int .i64 en, .string ⟨r.toArray⟩, .string ⟨c.toArray⟩]] w fun e w' => ∃ b : Bool, e = .returned (.bool b) ∧ GoodIs en r c b ∧ Below w.heap.size w w' := by
  obtain ⟨W1, hW1⟩ : ∃ W, W = w.alloc (.cells #[.int .i64 en, .string ⟨r.toArray⟩, .string ⟨c.toArray⟩] TPackS) := ⟨_, rfl⟩
  have b1 : Hid (Below w.heap.size w W1) := by rw [hW1]; exact Lib.hid (by go_grown)
  have B1 : Hid (Blk W1 w.heap.size TPackS #[.int .i64 en, .string ⟨r.toArray⟩, .string ⟨c.toArray⟩]) := by rw [hW1]; exact Lib.hid (Blk.new _ _ _)
  have HM1 := Lib.hid (hm.below b1.out); have HPW1 := Lib.hid (hpw.below b1.out); have HET1 := Lib.hid (het.below b1.out)
  have HW1 := Lib.hid hW1
  clear hW1 hm hpw het
  have x0 := (show _ = some (Value.int .i64 en) from B1.out.cell 0); have x1 := (show _ = some (Value.string ⟨r.toArray⟩) from B1.out.cell 1); have x2 := (show _ = some (Value.string ⟨c.toArray⟩) from B1.out.cell 2)
  go_enter Tryz.func8, Tryz.ntmps8
  go_upto_region 1 with (fail)
  rw [← HW1.out]
  go_wp2_with fail
  refine (openPack_any en r c W1 hr hc HM1.out).mono ?_; intro e2 w2 h2
  rcases h2 with ⟨a, rfl, hbad, hb2⟩ | ⟨p, g, A, A3, n, cc, c3, els, rfl, hin, hp, ht, hg, hcd, hpi, hsl, hb2⟩
  · have HBAD := Lib.hid hbad
    have B2 := Lib.hid (below_then b1.out hb2)
    obtain ⟨W3, hW3⟩ : ∃ W, W = w2.alloc (.cells #[.slice none 0 0, .int .i64 0, .slice none 0 0, .int .i64 0] TOpen) := ⟨_, rfl⟩
    have B3 := Lib.hid (show Below w.heap.size w W3 by rw [hW3]; exact B2.out.alloc B2.out.size _)
    have HE3 := Lib.hid (show EtIs W3 by rw [hW3]; exact (HET1.out.below hb2).below (by go_grown))
    have HW3 := Lib.hid hW3
    clear hW3 hb2 hbad x0 x1 x2
    go_upto_region 2 with (fail)
    rw [← HW3.out]
    go_wp2_with fail
    refine (packFaulty_hit a W3 HE3.out).mono ?_; rintro e w4 ⟨rfl, hb4⟩
    have B4 := Lib.hid (below_then B3.out hb4)
    clear hb4
    go_wp2
    go_ret
    exact ⟨false, rfl, HBAD.out.good, B4.out⟩
  · have B2 := Lib.hid (below_then b1.out hb2)
    obtain ⟨W3, hW3⟩ : ∃ W, W = w2.alloc (.cells #[.slice A n cc, .int .i64 els, .slice A3 g.length c3, .int .i64 en] TOpen) := ⟨_, rfl⟩
    have K3 := Lib.hid (show Blk W3 w2.heap.size TOpen #[.slice A n cc, .int .i64 els, .slice A3 g.length c3, .int .i64 en] by rw [hW3]; exact Blk.new _ _ _)
    have B3 := Lib.hid (show Below w.heap.size w W3 by rw [hW3]; exact B2.out.alloc B2.out.size _)
    have HP3 := Lib.hid (show PolIs W3 p (.agg #[.slice A n cc, .int .i64 els]) by rw [hW3]; exact hpi.below (by go_grown))
    have HS3 := Lib.hid (show Sl W3 4 (.slice A3 g.length c3) (insR g) by rw [hW3]; exact hsl.below (by go_grown))
    have HPW3 := Lib.hid (show Pow W3 by rw [hW3]; exact (HPW1.out.below hb2).below (by go_grown))
    have HGG := Lib.hid (show ∀ (s : Nat) (b : Bool), ChkOut g p s b → GoodIs en r c b from fun s b hk => .inr ⟨hin, p, g, s, hp, ht, hg, hcd, hk⟩)
    have HW3 := Lib.hid hW3
    clear hW3 hb2 hin hp ht hg hcd hpi hsl x0 x1 x2
    go_upto_region 2 with (fail)
    rw [← HW3.out]
    go_wp2_with fail
    refine (packFaulty_nil W3).mono ?_; rintro e w4 ⟨rfl, hb4⟩
    have B4 := Lib.hid (below_then B3.out hb4); have K4 := Lib.hid (K3.out.below hb4 K3.out.lt); have HP4 := Lib.hid (HP3.out.below hb4); have HS4 := Lib.hid (HS3.out.below hb4); have HPW4 := Lib.hid (HPW3.out.below hb4)
    clear hb4
    have y0 := (show _ = some (Value.slice A n cc) from K4.out.cell 0); have y1 := (show _ = some (Value.int .i64 els) from K4.out.cell 1); have y2 := (show _ = some (Value.slice A3 g.length c3) from K4.out.cell 2)
    go_wp2_with fail
    refine (iCheckCode_any _ g p _ w4 HS4.out HP4.out HPW4.out).mono ?_; rintro e w5 ⟨s, b, rfl, hk, hb5⟩
    have HGD := Lib.hid (HGG.out s b hk)
    have B5 := Lib.hid (below_then B4.out hb5)
    clear hb5 hk y0 y1 y2
    go_wp2
    go_ret
    exact ⟨b, rfl, HGD.out, B5.out⟩
end Go.Proofs.YtdjgicapbpoigaaGreatDoor
