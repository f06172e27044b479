/- How the laws draw a key and a pack, and a key and a text. -/
import Derived.Test.YtcomdkmglihdbaaGreatDoorBys
import Derived.Test.YtcomdkmglihdbaaGreatDoorRelA
namespace Go.Proofs.YtcomdkmglihdbaaGreatDoor
open Go.RowKit
set_option linter.unusedSimpArgs false
set_option linter.unusedVariables false

theorem xor8 (a b : UInt8) : bits .xor .u8 (a.toNat : Int) (b.toNat : Int) = ((a ^^^ b).toNat : Int) := by
  have h3 := (a ^^^ b).toNat_lt
  have ha := a.toNat_lt; have hb := b.toNat_lt
  simp only [bits, IntKind.bits, BitVec.ofInt_natCast]
  have h6 : (BitVec.ofNat 8 a.toNat ^^^ BitVec.ofNat 8 b.toNat).toNat = (a ^^^ b).toNat := by
    rw [BitVec.toNat_xor, BitVec.toNat_ofNat, BitVec.toNat_ofNat, UInt8.toNat_xor]
    rw [Nat.mod_eq_of_lt (by omega), Nat.mod_eq_of_lt (by omega)]
  refine (congrArg (fun t : Nat => IntKind.u8.wrap (t : Int)) h6).trans ?_
  generalize (a ^^^ b).toNat = n at h3
  unfold IntKind.wrap
  simp [IntKind.bits, IntKind.signed]
  omega
theorem byte_of {n : Int} (h : 0 ≤ n ∧ n ≤ 255) : ∃ x : UInt8, n = (x.toNat : Int) := ⟨UInt8.ofNat n.toNat, by simp; omega⟩

/-- A drawn key and a drawn pack. -/
def DrawPW (w : World) (e : Ending) (w' : World) : Prop := ∃ (key : List UInt8) (k : Pk), e = .returned (.tuple #[.string ⟨key.toArray⟩, .agg #[.int .i64 k.e, .string ⟨k.r.toArray⟩, .string ⟨k.c.toArray⟩]]) ∧ key.length ≤ 5 ∧ (0 ≤ k.e ∧ k.e ≤ 100) ∧ k.r.length ≤ 1400 ∧ k.c.length ≤ 2600 ∧ Below w.heap.size w w'
/-- How the memory stands behind the opening of a reader. -/
structure Do (w wr : World) (g q : Nat) : Prop where
  rd : Rd wr g q
  below : Below w.heap.size w wr
  low : w.heap.size ≤ g
theorem Do.step {w wr w1 : World} {g q q' : Nat} (h : Do w wr g q) (hg : wr.grownBy w1 (some g)) (hr : Rd w1 g q') : Do w w1 g q' :=
  ⟨hr, h.below.trans (below_of_grown hg h.low h.rd.lt), h.low⟩
theorem Do.next {w wr w1 : World} {g q : Nat} (h : Do w wr g q) (hb : Below wr.heap.size wr w1) : Do w w1 g q := ⟨h.rd.next hb, below_then h.below hb, h.low⟩

theorem written_len (key : List UInt8) (p : Pk) : (p.written key).length ≤ 4000 := by
  by_cases h : p.whole
  · rw [written_yes h]
    unfold Pk.text Pk.tail
    obtain ⟨⟨e1, e2⟩, ⟨r1, _⟩, ⟨c1, _⟩⟩ := h
    have h1 := cnt10_le p.r
    have h2 := cnt10_le p.c
    have i1 := itoa_len p.e (by omega) (by omega)
    have i2 := itoa_len (cnt10 p.r : Nat) (by omega) (by omega)
    have i3 := itoa_len (cnt10 p.c : Nat) (by omega) (by omega)
    have m := macT_len key p.body
    have hb : p.body.length ≤ 3800 := by
      rw [← pack_head]
      simp only [List.length_append, List.length_cons, List.length_nil]
      omega
    simp only [List.length_append, List.length_cons, List.length_nil]
    omega
  · rw [written_no h]; simp
set_option maxRecDepth 100000 in
set_option maxHeartbeats 4000000 in
theorem DrawPackWrite_any (v : Value) (ys : List Int) (w : World) (hs : Sl w 1 v (u8s ys)) (hb : ∀ y ∈ ys, 0 ≤ y ∧ y ≤ 255) :
    Calls Tryz.prog 5 #[v] w (DrawPW w) := by
  obtain ⟨W1, hW1⟩ : ∃ W, W = w.alloc (.cells #[.int .i64 0, .string ⟨#[]⟩, .string ⟨#[]⟩] TPackS) := ⟨_, rfl⟩
  have B1 : Hid (Blk W1 w.heap.size TPackS #[.int .i64 0, .string ⟨#[]⟩, .string ⟨#[]⟩]) := by rw [hW1]; exact Lib.hid (Blk.new _ _ _)
  have b1 : Hid (Below w.heap.size w W1) := by rw [hW1]; exact Lib.hid (by go_grown)
  have HS1 : Hid (Sl W1 1 v (u8s ys)) := Lib.hid (hs.below b1.out)
  have HB := Lib.hid hb
  have HW1 := Lib.hid hW1
  obtain ⟨A, n, c, rfl, -⟩ := hs
  clear hW1 hb
  go_enter Tryz.func5, Tryz.ntmps5
  go_upto_region 1 with (fail)
  rw [← HW1.out]
  go_wp2_with fail
  refine (l1Open_any _ ys W1 HS1.out HB.out).mono ?_; rintro e w2 ⟨rfl, r2, b2⟩
  obtain ⟨g, hg⟩ : ∃ g, g = W1.heap.size := ⟨_, rfl⟩
  have HG := Lib.hid hg
  have hz1 := B1.out.lt
  rw [← hg] at r2 hz1 ⊢
  have D2 : Hid (Do w w2 g 0) := Lib.hid ⟨r2, below_then b1.out b2, Nat.le_of_lt hz1⟩
  have B2 := Lib.hid (B1.out.below b2 B1.out.lt)
  clear r2 b2 hg HS1 B1
  go_wp2_with fail
  refine (of_any g 0 (some ⟨w2.heap.size, 0, none⟩) 3 3 [[107, 101, 121], [], [111, 116, 104, 101, 114]] _ (D2.out.rd.next (by go_grown)) (by omega) (strs_blkP rfl rfl (by omega)) (by omega) (fun b off e => by cases e; have := D2.out.rd.lt; omega)).mono ?_; rintro e w3 ⟨key, hkey, rfl, g3, r3⟩
  have hkl : key.length ≤ 5 := by simp at hkey; rcases hkey with rfl | rfl | rfl <;> simp
  have D3 := Lib.hid ((D2.out.next (by go_grown)).step g3 r3)
  have B3 := Lib.hid ((B2.out.alloc _).grown g3 (fun e => by cases e; omega))
  clear hkey g3 r3 D2 B2
  go_wp2_with fail
  refine (l11AnyPack_any g 1 w3 D3.out.rd (by omega)).mono ?_; rintro e w4 ⟨k, q, rfl, hke, hkr, hkc, g4, r4, hq⟩
  have D4 := Lib.hid (D3.out.step g4 r4)
  have B4 := Lib.hid (B3.out.grown g4 (fun e => by cases e; omega))
  obtain ⟨pe, pr, pc⟩ := k
  simp only at hke hkr hkc ⊢
  clear g4 r4 D3 B3
  have r0 := (show _ = some (Value.int .i64 0) from B4.out.cell 0); have r1 := (show _ = some (Value.string ⟨#[]⟩) from B4.out.cell 1); have r2 := (show _ = some (Value.string ⟨#[]⟩) from B4.out.cell 2)
  have rf0 := B4.out.frozen 0; have rf1 := B4.out.frozen 1; have rf2 := B4.out.frozen 2
  have HF := Lib.hid (set3_below (a := .int .i64 pe) (b := .string ⟨pr.toArray⟩) (c := .string ⟨pc.toArray⟩) D4.out.below)
  go_wp2
  exact bodyPost_ret (v := .tuple #[.string ⟨key.toArray⟩, .agg #[.int .i64 pe, .string ⟨pr.toArray⟩, .string ⟨pc.toArray⟩]]) (by simp [results, Tryz.results5, go_sem, r0, r1, r2]) rfl ⟨key, ⟨pe, pr, pc⟩, rfl, hkl, hke, hkr, hkc, HF.out⟩
/-- A drawn key and a drawn text. -/
def DrawPR (w : World) (e : Ending) (w' : World) : Prop := ∃ key text : List UInt8, e = .returned (.tuple #[.string ⟨key.toArray⟩, .string ⟨text.toArray⟩]) ∧ key.length ≤ 5 ∧ text.length ≤ 6000 ∧ Below w.heap.size w w'
def drT (b k n C g : Nat) (l : List UInt8) : Nat → World → Value → Prop
  | 0, _, u => u = .slice (some ⟨b, 0, none⟩) n C
  | 1, _, u => u = .int .i64 k
  | 2, _, u => u = .slice (some ⟨b, 0, none⟩) n C
  | 3, _, u => u = .int .i64 k
  | 4, _, u => u = .pointer (some ⟨b, k, none⟩)
  | 5, _, u => ∃ x : UInt8, u = .int .u8 x.toNat
  | 6, _, u => u = .pointer (some ⟨g, 0, none⟩)
  | 7, _, u => ∃ m : Int, (0 ≤ m ∧ m < 100) ∧ u = .int .i64 m
  | 8, _, u => ∃ m : Int, (1 ≤ m ∧ m ≤ 100) ∧ u = .int .i64 m
  | 9, _, u => ∃ x : UInt8, u = .int .u8 x.toNat
  | 10, _, u => ∃ x : UInt8, u = .int .u8 x.toNat
  | 11, _, u => u = .pointer (some ⟨b, k, none⟩)
  | _, _, _ => True
theorem drT_any {b k n C g : Nat} {l : List UInt8} {j : Nat} {w w' : World} {u : Value} (h : drT b k n C g l j w u) : drT b k n C g l j w' u := by
  unfold drT at *
  split <;> simp_all
theorem putL_neB {L : Nat → Bool} {i j : Nat} (h : j ≠ i) : putL L i j = L j := by unfold putL; simp [h]
theorem Bys.len_set {w : World} {b j : Nat} {l : List UInt8} {x : UInt8} (h : Bys w b l) : ∃ l', l'.length = l.length ∧ Bys (w.setCell ⟨b, j, none⟩ (.int .u8 x.toNat)) b l' := ⟨_, List.length_set, h.set x⟩
set_option maxRecDepth 100000 in
set_option maxHeartbeats 8000000 in
theorem DrawPackRead_any (v : Value) (ys : List Int) (w : World) (hs : Sl w 1 v (u8s ys)) (hb : ∀ y ∈ ys, 0 ≤ y ∧ y ≤ 255) :
    Calls Tryz.prog 10 #[v] w (DrawPR w) := by
  have HS := Lib.hid hs; have HB := Lib.hid hb
  obtain ⟨A, n, c, rfl, -⟩ := hs
  clear hb
  obtain ⟨g, hg⟩ : ∃ g, g = w.heap.size := ⟨_, rfl⟩
  have HG := Lib.hid hg
  go_enter Tryz.func10, Tryz.ntmps10
  go_wp2_with fail
  refine (l1Open_any _ ys w HS.out HB.out).mono ?_; rintro e w2 ⟨rfl, r2, b2⟩
  rw [← hg] at r2 ⊢
  have D2 : Hid (Do w w2 g 0) := Lib.hid ⟨r2, b2, by omega⟩
  clear r2 b2 hg HS
  go_wp2_with fail
  refine (of_any g 0 (some ⟨w2.heap.size, 0, none⟩) 2 2 [[107, 101, 121], [111, 116, 104, 101, 114]] _ (D2.out.rd.next (by go_grown)) (by omega) (strs_blkP rfl rfl (by omega)) (by omega) (fun b off e => by cases e; have := D2.out.rd.lt; omega)).mono ?_; rintro e w3 ⟨key, hkey, rfl, g3, r3⟩
  have hkl : key.length ≤ 5 := by simp at hkey; rcases hkey with rfl | rfl <;> simp
  have D3 := Lib.hid ((D2.out.next (by go_grown)).step g3 r3)
  clear hkey g3 r3 D2
  go_wp2_with fail
  refine (l11AnyPack_any g 1 w3 D3.out.rd (by omega)).mono ?_; rintro e w4 ⟨k, q, rfl, hke, hkr, hkc, g4, r4, hq⟩
  have D4 := Lib.hid (D3.out.step g4 r4)
  clear g4 r4 D3
  go_wp2_with fail
  refine (sPackWrite_any key k w4 (by omega) (by omega) (by omega) (by omega)).mono ?_; rintro e w5 ⟨rfl, hb5⟩
  have htl := written_len key k
  obtain ⟨T, hT⟩ : ∃ T, T = k.written key := ⟨_, rfl⟩
  rw [← hT] at htl ⊢
  have D5 := Lib.hid (D4.out.next hb5)
  clear hb5 D4 hT
  go_wp2_with fail
  refine (pick_any g q 5 _ D5.out.rd (by omega)).mono ?_; rintro e w6 ⟨k1, rfl, a1, a2, g6, r6⟩
  have D6 := Lib.hid (D5.out.step g6 r6)
  clear g6 r6 a2 D5
  by_cases h0 : k1 = 0
  · subst h0
    go_wp2_with fail
    refine (of_any g (q + 1) (some ⟨w6.heap.size, 0, none⟩) 2 2 [[107, 101, 121], [111, 116, 104, 101, 114]] _ (D6.out.rd.next (by go_grown)) (by omega) (strs_blkP rfl rfl (by omega)) (by omega) (fun b off e => by cases e; have := D6.out.rd.lt; omega)).mono ?_; rintro e w7 ⟨key2, hkey2, rfl, g7, r7⟩
    have hkl2 : key2.length ≤ 5 := by simp at hkey2; rcases hkey2 with rfl | rfl <;> simp
    have D7 := Lib.hid ((D6.out.next (by go_grown)).step g7 r7)
    clear hkey2 g7 r7 D6
    go_wp2
    exact bodyPost_ret (v := .tuple #[.string ⟨key2.toArray⟩, .string ⟨T.toArray⟩]) (by simp [results, Tryz.results10, go_sem]) rfl ⟨key2, T, rfl, hkl2, by omega, D7.out.below⟩
  · have h0b : (k1 == 0) = false := by simpa using h0
    have REST : Hid True := Lib.hid trivial
    by_cases h1 : k1 = 1 ∧ 0 < T.length
    · obtain ⟨rfl, hlen⟩ := h1
      have hlen1 : (0 : Int) < T.length := by omega
      go_wp2_with fail
      refine (pick_any g (q + 1) T.length _ D6.out.rd (by omega)).mono ?_; rintro e w7 ⟨at1, rfl, c1, c2, g7, r7⟩
      have c2' := c2 (by omega)
      obtain ⟨at_, rfl⟩ : ∃ j : Nat, at1 = j := ⟨at1.toNat, by omega⟩
      have D7 := Lib.hid (D6.out.step g7 r7)
      clear g7 r7 c2 D6
      obtain ⟨C, w8, hconv, hC1, hC2, hby, hb8⟩ := conv_bys w7 T (by omega)
      unfold maxLen at hC2
      have D8 := Lib.hid (D7.out.next hb8)
      obtain ⟨b, hbb⟩ : ∃ b, b = w7.heap.size := ⟨_, rfl⟩
      rw [← hbb] at hby hconv
      have hbg : g < b := by rw [hbb]; exact D7.out.rd.lt
      have hbl : b < w8.heap.size := hby.lt
      have HBY := Lib.hid hby
      have HBB := Lib.hid (show w.heap.size ≤ b by rw [hbb]; exact D7.out.below.size)
      clear hby hb8 D7 hbb
      go_upto_region 11 with (fail)
      refine wp_region_rel (drT b at_ T.length C g T) (fun _ => none) (fun L _ w' => (L 7 = false → Rd w' g (q + 1 + 1)) ∧ Below w.heap.size w w' ∧ g < b ∧ ∃ l', l'.length = T.length ∧ Bys w' b l') (fun _ _ _ => True) (by kernel_rfl) (by kernel_rfl) ⟨fun _ => D8.out.rd.next (Below.refl _ _).drew, D8.out.below.trans ((Below.refl w.heap.size _).drew), hbg, T, rfl, HBY.out.below (Below.refl w8.heap.size _).drew hbl⟩ (fun i j wa wb u _ _ _ _ h => drT_any h) ?_
      refine wpRel_step [] (by kernel_rfl) (fun L kk w9 vals hk hw hun hcl hdl hT => ?_) ?_
      · have HW := Lib.hid hw; have HUN := Lib.hid hun; have HCL := Lib.hid hcl; have HDL := Lib.hid hdl
        clear hw hun hcl hdl hT
        simp only [fillR, Act.put, List.setIfInBounds_toArray, List.set_cons_succ, List.set_cons_zero]
        go_wp2
        exact ⟨_, rfl, rfl, ⟨fun h => HW.out.1 ((putL_neB (by decide)).symm.trans h), HW.out.2⟩, trivial, fun _ => rfl⟩
      refine wpRel_step [] (by kernel_rfl) (fun L kk w9 vals hk hw hun hcl hdl hT => ?_) ?_
      · have HW := Lib.hid hw; have HUN := Lib.hid hun; have HCL := Lib.hid hcl; have HDL := Lib.hid hdl
        clear hw hun hcl hdl hT
        simp only [fillR, Act.put, List.setIfInBounds_toArray, List.set_cons_succ, List.set_cons_zero]
        go_wp2
        exact ⟨_, rfl, rfl, ⟨fun h => HW.out.1 ((putL_neB (by decide)).symm.trans h), HW.out.2⟩, trivial, fun _ => rfl⟩
      refine wpRel_step [] (by kernel_rfl) (fun L kk w9 vals hk hw hun hcl hdl hT => ?_) ?_
      · have HW := Lib.hid hw; have HUN := Lib.hid hun; have HCL := Lib.hid hcl; have HDL := Lib.hid hdl
        clear hw hun hcl hdl hT
        simp only [fillR, Act.put, List.setIfInBounds_toArray, List.set_cons_succ, List.set_cons_zero]
        go_wp2
        exact ⟨_, rfl, rfl, ⟨fun h => HW.out.1 ((putL_neB (by decide)).symm.trans h), HW.out.2⟩, trivial, fun _ => rfl⟩
      refine wpRel_step [] (by kernel_rfl) (fun L kk w9 vals hk hw hun hcl hdl hT => ?_) ?_
      · have HW := Lib.hid hw; have HUN := Lib.hid hun; have HCL := Lib.hid hcl; have HDL := Lib.hid hdl
        clear hw hun hcl hdl hT
        simp only [fillR, Act.put, List.setIfInBounds_toArray, List.set_cons_succ, List.set_cons_zero]
        go_wp2
        exact ⟨_, rfl, rfl, ⟨fun h => HW.out.1 ((putL_neB (by decide)).symm.trans h), HW.out.2⟩, trivial, fun _ => rfl⟩
      refine wpRel_step [39, 40] (by kernel_rfl) (fun L kk w9 vals hk hw hun hcl hdl hT => ?_) ?_
      · have t2 := hT 2 39 (by kernel_rfl) (.inl rfl)
        have t3 := hT 3 40 (by kernel_rfl) (.inl rfl)
        have HW := Lib.hid hw; have HUN := Lib.hid hun; have HCL := Lib.hid hcl; have HDL := Lib.hid hdl
        clear hw hun hcl hdl hT
        simp only [fillR, Act.put, List.setIfInBounds_toArray, List.set_cons_succ, List.set_cons_zero]
        rw [show vals 39 = Value.slice (some ⟨b, 0, none⟩) T.length C from t2]
        rw [show vals 40 = Value.int .i64 at_ from t3]
        clear t2 t3
        go_wp2
        exact ⟨_, rfl, rfl, ⟨fun h => HW.out.1 ((putL_neB (by decide)).symm.trans h), HW.out.2⟩, trivial, fun _ => rfl⟩
      refine wpRel_step [41] (by kernel_rfl) (fun L kk w9 vals hk hw hun hcl hdl hT => ?_) ?_
      · have t4 := hT 4 41 (by kernel_rfl) (.inl rfl)
        have HW := Lib.hid hw; have HUN := Lib.hid hun; have HCL := Lib.hid hcl; have HDL := Lib.hid hdl
        clear hw hun hcl hdl hT
        simp only [fillR, Act.put, List.setIfInBounds_toArray, List.set_cons_succ, List.set_cons_zero]
        rw [show vals 41 = Value.pointer (some ⟨b, at_, none⟩) from t4]
        clear t4
        obtain ⟨l', hl', hb'⟩ := HW.out.2.2.2
        obtain ⟨x, hx⟩ : ∃ x, l'[at_]? = some x := ⟨_, List.getElem?_eq_getElem (by omega)⟩
        have y0 := hb'.cell hx
        have HBB2 := Lib.hid hb'
        clear hb'
        go_wp2
        exact ⟨_, rfl, rfl, ⟨fun h => HW.out.1 ((putL_neB (by decide)).symm.trans h), HW.out.2⟩, trivial, fun _ => ⟨x, rfl⟩⟩
      refine wpRel_step [] (by kernel_rfl) (fun L kk w9 vals hk hw hun hcl hdl hT => ?_) ?_
      · have HW := Lib.hid hw; have HUN := Lib.hid hun; have HCL := Lib.hid hcl; have HDL := Lib.hid hdl
        clear hw hun hcl hdl hT
        simp only [fillR, Act.put, List.setIfInBounds_toArray, List.set_cons_succ, List.set_cons_zero]
        go_wp2
        exact ⟨_, rfl, rfl, ⟨fun h => HW.out.1 ((putL_neB (by decide)).symm.trans h), HW.out.2⟩, trivial, fun _ => rfl⟩
      refine wpRel_step [43] (by kernel_rfl) (fun L kk w9 vals hk hw hun hcl hdl hT => ?_) ?_
      · have t6 := hT 6 43 (by kernel_rfl) (.inl rfl)
        have HW := Lib.hid hw; have HUN := Lib.hid hun; have HCL := Lib.hid hcl; have HDL := Lib.hid hdl
        clear hw hun hcl hdl hT
        simp only [fillR, Act.put, List.setIfInBounds_toArray, List.set_cons_succ, List.set_cons_zero]
        rw [show vals 43 = Value.pointer (some ⟨g, 0, none⟩) from t6]
        clear t6
        go_wp2_with fail
        refine (pick_any g (q + 1 + 1) 100 w9 (HW.out.1 HUN.out) (by omega)).mono ?_; rintro e w10 ⟨m, rfl, m1, m2, g10, r10⟩
        have m2' := m2 (by omega)
        have hglt := (HW.out.1 HUN.out).lt
        have HB10 := Lib.hid (HW.out.2.1.trans (below_of_grown g10 (show w.heap.size ≤ g from D8.out.low) hglt))
        have HY10 : Hid (∃ l', l'.length = T.length ∧ Bys w10 b l') := Lib.hid (let ⟨l', h1, h2⟩ := HW.out.2.2.2; ⟨l', h1, h2.grown g10 (by omega)⟩)
        clear g10 r10 m2
        go_wp2
        exact ⟨_, rfl, rfl, ⟨fun h => (by simp [putL] at h), HB10.out, hbg, HY10.out⟩, trivial, fun _ => ⟨m, ⟨m1, m2'⟩, rfl⟩⟩
      refine wpRel_step [44] (by kernel_rfl) (fun L kk w9 vals hk hw hun hcl hdl hT => ?_) ?_
      · have t7 := hT 7 44 (by kernel_rfl) (.inl rfl)
        have HW := Lib.hid hw; have HUN := Lib.hid hun; have HCL := Lib.hid hcl; have HDL := Lib.hid hdl
        clear hw hun hcl hdl hT
        simp only [fillR, Act.put, List.setIfInBounds_toArray, List.set_cons_succ, List.set_cons_zero]
        obtain ⟨m, ⟨m1, m2⟩, hm⟩ := t7
        rw [hm]
        clear hm
        go_wp2
        exact ⟨_, rfl, rfl, ⟨fun h => HW.out.1 ((putL_neB (by decide)).symm.trans h), HW.out.2⟩, trivial, fun _ => ⟨1 + m, ⟨by omega, by omega⟩, by go_num⟩⟩
      refine wpRel_step [45] (by kernel_rfl) (fun L kk w9 vals hk hw hun hcl hdl hT => ?_) ?_
      · have t8 := hT 8 45 (by kernel_rfl) (.inl rfl)
        have HW := Lib.hid hw; have HUN := Lib.hid hun; have HCL := Lib.hid hcl; have HDL := Lib.hid hdl
        clear hw hun hcl hdl hT
        simp only [fillR, Act.put, List.setIfInBounds_toArray, List.set_cons_succ, List.set_cons_zero]
        obtain ⟨m, ⟨m1, m2⟩, hm⟩ := t8
        rw [hm]
        clear hm
        obtain ⟨x, hx⟩ := byte_of (n := m) ⟨by omega, by omega⟩
        go_wp2
        exact ⟨_, rfl, rfl, ⟨fun h => HW.out.1 ((putL_neB (by decide)).symm.trans h), HW.out.2⟩, trivial, fun _ => ⟨x, by first | rfl | (rw [hx]; go_num)⟩⟩
      refine wpRel_step [42, 46] (by kernel_rfl) (fun L kk w9 vals hk hw hun hcl hdl hT => ?_) ?_
      · have t5 := hT 5 42 (by kernel_rfl) (.inl rfl)
        have t9 := hT 9 46 (by kernel_rfl) (.inl rfl)
        have HW := Lib.hid hw; have HUN := Lib.hid hun; have HCL := Lib.hid hcl; have HDL := Lib.hid hdl
        clear hw hun hcl hdl hT
        simp only [fillR, Act.put, List.setIfInBounds_toArray, List.set_cons_succ, List.set_cons_zero]
        obtain ⟨x, hx⟩ := t5
        obtain ⟨y, hy⟩ := t9
        rw [hx, hy]
        clear hx hy
        go_wp2
        exact ⟨_, rfl, rfl, ⟨fun h => HW.out.1 ((putL_neB (by decide)).symm.trans h), HW.out.2⟩, trivial, fun _ => ⟨x ^^^ y, by rw [← xor8]⟩⟩
      refine wpRel_step [37, 38] (by kernel_rfl) (fun L kk w9 vals hk hw hun hcl hdl hT => ?_) ?_
      · have t0 := hT 0 37 (by kernel_rfl) (.inl rfl)
        have t1 := hT 1 38 (by kernel_rfl) (.inl rfl)
        have HW := Lib.hid hw; have HUN := Lib.hid hun; have HCL := Lib.hid hcl; have HDL := Lib.hid hdl
        clear hw hun hcl hdl hT
        simp only [fillR, Act.put, List.setIfInBounds_toArray, List.set_cons_succ, List.set_cons_zero]
        rw [show vals 37 = Value.slice (some ⟨b, 0, none⟩) T.length C from t0]
        rw [show vals 38 = Value.int .i64 at_ from t1]
        clear t0 t1
        go_wp2
        exact ⟨_, rfl, rfl, ⟨fun h => HW.out.1 ((putL_neB (by decide)).symm.trans h), HW.out.2⟩, trivial, fun _ => rfl⟩
      refine wpRel_step [48, 47] (by kernel_rfl) (fun L kk w9 vals hk hw hun hcl hdl hT => ?_) ?_
      · have t11 := hT 11 48 (by kernel_rfl) (.inl rfl)
        have t10 := hT 10 47 (by kernel_rfl) (.inl rfl)
        have HW := Lib.hid hw; have HUN := Lib.hid hun; have HCL := Lib.hid hcl; have HDL := Lib.hid hdl
        clear hw hun hcl hdl hT
        simp only [fillR, Act.put, List.setIfInBounds_toArray, List.set_cons_succ, List.set_cons_zero]
        rw [show vals 48 = Value.pointer (some ⟨b, at_, none⟩) from t11]
        obtain ⟨x, hx⟩ := t10
        rw [hx]
        clear hx t11
        obtain ⟨l', hl', hb'⟩ := HW.out.2.2.2
        obtain ⟨x0, hx0⟩ : ∃ x, l'[at_]? = some x := ⟨_, List.getElem?_eq_getElem (by omega)⟩
        have y0 := hb'.cell hx0; have yf := hb'.frozen (show at_ < l'.length by omega)
        have HST := Lib.hid (hb'.len_set (j := at_) (x := x))
        have h7 : L 7 = true := HDL.out 7 (by kernel_rfl)
        have HBW := Lib.hid (HW.out.2.1.setCell (p := ⟨b, at_, none⟩) HBB.out (.int .u8 x.toNat))
        clear hb'
        go_wp2
        exact ⟨undef, rfl, rfl, ⟨fun h => (by rw [putL_neB (by decide), h7] at h; cases h), HBW.out, hbg, (let ⟨l2, h1, h2⟩ := HST.out; ⟨l2, by omega, h2⟩)⟩, trivial, fun h => absurd rfl h⟩
      refine wpRel_end [37, 38, 39, 40, 41, 42, 43, 44, 45, 46, 47, 48] (by kernel_rfl) (fun L w9 vals hl hw hT => ?_)
      obtain ⟨-, hbw, -, l', hl', hby'⟩ := hw
      have hback := (hby'.below (Below.refl w9.heap.size _).drew hby'.lt).back (c := C)
      rw [hl'] at hback
      have HBW := Lib.hid hbw
      clear hl hT hby' hbw
      simp only [fillR, Act.put, List.setIfInBounds_toArray, List.set_cons_succ, List.set_cons_zero]
      go_wp2_with fail
      go_region
      all_goals go_wp2
      all_goals exact bodyPost_ret (v := .tuple #[.string ⟨key.toArray⟩, .string ⟨l'.toArray⟩]) (by simp [results, Tryz.results10, go_sem]) rfl ⟨key, l', rfl, hkl, by omega, HBW.out.drew⟩
    · by_cases h1' : k1 = 1
      · subst h1'
        have hlen0 : ¬ 0 < T.length := by omega
        have hlen1 : ¬ (0 : Int) < T.length := by omega
        go_wp2_with fail
        refine (l11Bend_any g (q + 1) ⟨T.toArray⟩ (some ⟨w6.heap.size, 0, none⟩) 4 4 [[120], [10], [32], [48]] 6 _ (D6.out.rd.next (by go_grown)) (by omega) (by simp [ByteArray.size]; omega) (strs_blkP rfl rfl (by omega)) (by omega) (fun b off e => by cases e; have := D6.out.rd.lt; omega) (by simp)).mono ?_; rintro e w7 ⟨t, q7, rfl, ht, g7, r7, hq7⟩
        have D7 := Lib.hid ((D6.out.next (by go_grown)).step g7 r7)
        obtain ⟨tl⟩ := t
        obtain ⟨tl, rfl⟩ : ∃ l : List UInt8, tl = l.toArray := ⟨tl.toList, by simp⟩
        have htl2 : tl.length ≤ 6000 := by simp [ByteArray.size] at ht; omega
        clear g7 r7 D6
        go_wp2
        exact bodyPost_ret (v := .tuple #[.string ⟨key.toArray⟩, .string ⟨tl.toArray⟩]) (by simp [results, Tryz.results10, go_sem]) rfl ⟨key, tl, rfl, hkl, htl2, D7.out.below⟩
      · have h1b : (k1 == 1) = false := by simpa using h1'
        go_wp2_with fail
        refine (l11Bend_any g (q + 1) ⟨T.toArray⟩ (some ⟨w6.heap.size, 0, none⟩) 4 4 [[120], [10], [32], [48]] 6 _ (D6.out.rd.next (by go_grown)) (by omega) (by simp [ByteArray.size]; omega) (strs_blkP rfl rfl (by omega)) (by omega) (fun b off e => by cases e; have := D6.out.rd.lt; omega) (by simp)).mono ?_; rintro e w7 ⟨t, q7, rfl, ht, g7, r7, hq7⟩
        have D7 := Lib.hid ((D6.out.next (by go_grown)).step g7 r7)
        obtain ⟨tl⟩ := t
        obtain ⟨tl, rfl⟩ : ∃ l : List UInt8, tl = l.toArray := ⟨tl.toList, by simp⟩
        have htl2 : tl.length ≤ 6000 := by simp [ByteArray.size] at ht; omega
        clear g7 r7 D6
        go_wp2
        exact bodyPost_ret (v := .tuple #[.string ⟨key.toArray⟩, .string ⟨tl.toArray⟩]) (by simp [results, Tryz.results10, go_sem]) rfl ⟨key, tl, rfl, hkl, htl2, D7.out.below⟩
end Go.Proofs.YtcomdkmglihdbaaGreatDoor
