/- Joined texts: PackF CodeI ChkJ GoodA GoodI. -/
import Derived.Test.YtdjgicapbpoigaaGreatDoorErrAs
import Derived.Test.YtdjgicapbpoigaaGreatDoorPlaceI
import Derived.Test.YtdjgicapbpoigaaGreatDoorCodeWA
import Derived.Test.YtdjgicapbpoigaaGreatDoorChkIB
import Derived.Test.YtdjgicapbpoigaaGreatDoorPolK
import Derived.Test.YtdjgicapbpoigaaGreatDoorLinesI
import Derived.Test.YtdjgicapbpoigaaGreatDoorCurNA
import Derived.Test.YtdjgicapbpoigaaGreatDoorGoodSA
-- Whether an error is a pack's fault.
namespace Go.Proofs.YtdjgicapbpoigaaGreatDoor
open Go.RowKit
set_option linter.unusedSimpArgs false
set_option linter.unusedVariables false

def EtIs (w : World) : Prop := w.cell? ⟨0, 0, none⟩ = some (.iface 174 (.agg #[.pointer (some ⟨7, 48, none⟩)]))
theorem EtIs.lt {w : World} (h : EtIs w) : 0 < w.heap.size := by
 rcases Nat.lt_or_ge 0 w.heap.size with h0 | h0
 · exact h0
 · unfold EtIs at h; simp [World.cell?, Array.getElem?_eq_none h0] at h
theorem EtIs.below {w w' : World} (h : EtIs w) (hb : Below w.heap.size w w') : EtIs w' := (hb.cell (p := ⟨0, 0, none⟩) h.lt).trans h
theorem EtIs.below2 {w w' : World} {B : Nat} (h : EtIs w) (hb : Below B w w') (hB : w.heap.size ≤ B) : EtIs w' := (hb.cell (p := ⟨0, 0, none⟩) (Nat.lt_of_lt_of_le h.lt hB)).trans h

set_option maxHeartbeats 1000000 in
theorem packFaulty_nil (w : World) :
   Calls Tryz.prog 17 #[.nilIface] w fun e w' => e = .returned (.bool false) ∧ Below w.heap.size w w' := by
 go_enter Tryz.func17, Tryz.ntmps17
 go_wp2_with fail
 refine (as_nil _ _).mono ?_; rintro e w' ⟨rfl, rfl⟩
 go_wp2
 go_ret
 exact ⟨rfl, by go_grown⟩
set_option maxHeartbeats 1000000 in
theorem packFaulty_hit (a : Addr) (w : World) (he : EtIs w) :
   Calls Tryz.prog 17 #[.iface 71 (.pointer (some a))] w fun e w' => e = .returned (.bool true) ∧ Below w.heap.size w w' := by
 obtain ⟨W1, hW1⟩ : ∃ W, W = w.alloc (.cells #[.pointer none] 71) := ⟨_, rfl⟩
 have B1 : Hid (Blk W1 w.heap.size 71 #[.pointer none]) := by rw [hW1]; exact Lib.hid (Blk.new _ _ _)
 have b1 : Hid (Below w.heap.size w W1) := by rw [hW1]; exact Lib.hid (by go_grown)
 have HE := Lib.hid (he.below2 b1.out (Nat.le_refl _))
 have HW1 := Lib.hid hW1
 clear hW1 he
 go_enter Tryz.func17, Tryz.ntmps17
 go_wp2_with fail
 rw [← HW1.out]
 refine (as_hit a ⟨w.heap.size, 0, none⟩ (.pointer none) W1 HE.out (B1.out.cell 0) (B1.out.frozen 0)).mono ?_; rintro e w' ⟨rfl, hw'⟩
 have HB : Hid (Below w.heap.size w w') := by
   rw [hw']
   have hs := b1.out.size
   exact Lib.hid (((((b1.out.alloc hs _).alloc (by simp; omega) _).alloc (by simp; omega) _).alloc (by simp; omega) _).setCell (p := ⟨w.heap.size, 0, none⟩) (Nat.le_refl _) _)
 clear hw'
 go_wp2
 go_ret
 exact ⟨rfl, HB.out⟩

end Go.Proofs.YtdjgicapbpoigaaGreatDoor

-- impl's programs: CodeRead.
namespace Go.Proofs.YtdjgicapbpoigaaGreatDoor
open Go.RowKit
set_option linter.unusedSimpArgs false
set_option linter.unusedVariables false

structure Cr (w wr : World) (rest : List UInt8) (v : Value) (ws : List In4) : Prop where
 r : Blk wr w.heap.size 91 #[.string ⟨rest.toArray⟩]
 own : wr.ownsRow (w.heap.size + 1) 63 4 v ws.length (insR ws).flatten
 b : Below w.heap.size w wr
theorem Cr.ownL {w wr : World} {rest : List UInt8} {v : Value} {ws : List In4} {L : Nat} (h : Cr w wr rest v ws) (hL : Hid (ws.length = L)) : wr.ownsRow (w.heap.size + 1) 63 4 v L (insR ws).flatten := hL.out ▸ h.own
theorem Cr.room {w wr : World} {rest : List UInt8} {v : Value} {ws : List In4} (h : Cr w wr rest v ws) : w.heap.size + 1 ≤ wr.heap.size := by have := h.r.lt; omega
theorem Cr.place {w wr w1 : World} {rest r : List UInt8} {v : Value} {ws : List In4} (h : Cr w wr rest v ws) (hb : Blk w1 w.heap.size 91 #[.string ⟨r.toArray⟩]) (hg : wr.grownBy w1 (some w.heap.size)) : Cr w w1 r v ws :=
 ⟨hb, h.own.kept hg (by
   rcases ho : v.ownBlock with _ | b
   · exact .inl rfl
   · exact .inr (by have := (h.own.lt b ho).1; intro e; cases e; omega)), h.b.grown hg h.b.size (fun k hk => by cases hk; omega)⟩
theorem Cr.app {w wr w2 : World} {rest : List UInt8} {v v2 : Value} {ws : List In4} {x : In4} (h : Cr w wr rest v ws) (ho : w2.ownsRow (w.heap.size + 1) 63 4 v2 (ws.length + 1) (insR ws ++ [x.cells]).flatten) (hb : Below (w.heap.size + 1) wr w2) : Cr w w2 rest v2 (ws ++ [x]) :=
 ⟨h.r.below hb (by omega), by simpa [insR] using ho, h.b.trans (hb.mono (by omega))⟩
theorem Cr.appL {w wr w2 : World} {rest : List UInt8} {v v2 : Value} {ws : List In4} {x : In4} {L : Nat} (h : Cr w wr rest v ws) (hL : Hid (ws.length = L)) (ho : w2.ownsRow (w.heap.size + 1) 63 4 v2 (L + 1) (insR ws ++ [x.cells]).flatten) (hb : Below (w.heap.size + 1) wr w2) : Cr w w2 rest v2 (ws ++ [x]) := h.app (hL.out.symm ▸ ho) hb
theorem Cr.next {w wr w1 : World} {rest : List UInt8} {v : Value} {ws : List In4} (h : Cr w wr rest v ws) (hb : Below wr.heap.size wr w1) : Cr w w1 rest v ws :=
 ⟨h.r.below hb h.r.lt, own_below h.own hb, below_then h.b hb⟩
def lenI : Value → Nat
 | .slice _ n _ => n
 | _ => 0
theorem place_less {rest r : List UInt8} {x : In4} (h : PlaceAt rest x r) : r.length < rest.length := by
 have := insText_pos x
 rw [h.2]; simp; omega

set_option maxHeartbeats 4000000 in
theorem CodeRead_any (s : ByteArray) (w : World) (hsz : s.size ≤ 1048576) :
   Calls Tryz.prog 32 #[.string s] w (CodePost s.data.toList 63 w) := by
 have hlen : s.data.toList.length = s.size := by simp
 have HLE := Lib.hid hlen; clear hlen
 by_cases hbig : s.size ≤ 2600
 · have hb0 : (⟨s.data.toList.toArray⟩ : ByteArray) = s := by cases s; simp
   have HB0 := Lib.hid hb0; clear hb0
   go_enter Tryz.func32, Tryz.ntmps32
   go_wp2
   go_loopw [4] (fun v wr => ∃ (ws : List In4) (rest : List UInt8), ws.length ≤ 160 ∧ rest.length ≤ 2600 ∧ Hid (ParsedC s.data.toList ws rest) ∧ Cr w wr rest v ws) (fun v _ => 160 - lenI v)
   case atStart => exact ⟨[], s.data.toList, by simp, by rw [HLE.out]; exact hbig, ParsedC.start _, ⟨by have h := Blk.new w 91 #[.string s]; simpa using h, World.ownsRow_nil _ _ _ _, by go_grown⟩⟩
   case round =>
     obtain ⟨ws, rest, h160, hrl, hP, hst⟩ := hrel
     obtain ⟨A2, n2, c2, rfl, hA2⟩ := SlA.of_own hst.own (insR_len ws) (insR_rows ws)
     have HL : Hid (ws.length = n2) := by have := hA2.len; rw [insR_len] at this; exact this
     have hc2 := hA2.cap
     have hm2 := hA2.max
     have h160' : n2 ≤ 160 := HL.out ▸ h160
     unfold maxLen at hm2
     clear h160
     cases hemp : rest.isEmpty
     · have hne : rest ≠ [] := by intro e; rw [e] at hemp; cases hemp
       have HNE := Lib.hid hne; clear hne
       go_wp2_with (go_at_call 45; refine (done_any ⟨rest.toArray⟩ _ _ _ (hst.r.cell 0)).mono ?_; rintro e w0 ⟨rfl, rfl⟩)
       refine (insPlace_any rest w.heap.size _ hst.r (by omega)).mono ?_
       rintro e w1 (⟨x, r, hpl, rfl, hb1, hg1⟩ | ⟨hno, a, b, c, d, rfl, hg1⟩)
       · have hs1 := hst.place hb1 hg1
         have HPL := Lib.hid hpl; clear hpl hb1 hg1
         have hxl := place_less HPL.out
         by_cases h16 : n2 = 160
         · have hn := (hP.out.next HPL.out).too_many (by simp; have := HL.out; omega)
           have HN := Lib.hid hn; clear hn
           have h16d : ((n2 : Int) == 160) = true := by simp; omega
           go_wp2
           all_goals
             go_ret2
             exact .inr ⟨HN.out, _, rfl, World.ownsRow_nil _ _ _ _, hs1.b.alloc hs1.b.size _⟩
         · have h16d : ((n2 : Int) == 160) = false := by simp; omega
           have hsA := hs1.next (w1 := w1.alloc (.cells #[.int .i64 x.op, .int .i64 x.k, .int .i64 x.yes, .int .i64 x.no] 63)) (by go_grown)
           have HPN := Lib.hid (hP.out.next HPL.out)
           have HSA := Lib.hid hsA; clear hsA
           go_wp2_with (at_builtin; go_must (refine wpList_app1 (w0 := w1.alloc (.cells #[.int .i64 x.op, .int .i64 x.k, .int .i64 x.yes, .int .i64 x.no] 63)) rfl (.tmp 29) (.tmp 31) _ rfl (w.heap.size + 1) 63 Tryz.underlying38 info_Ins rfl (by omega) (by omega) _ n2 (insR ws) rfl (HSA.out.ownL HL) rfl (by simp [Value.oneCell']) (by show Value.slice (some ⟨_, 0, none⟩) 1 1 = _; simp) (by omega) HSA.out.room ?_); intro v2 w2 hown2 hb2 _; obtain ⟨g2, cap2, rfl, hg2, hg3⟩ := hown2.form (by omega))
           refine ⟨⟨ws ++ [x], r, by simp; have := HL.out; omega, by omega, HPN.out, HSA.out.appL HL (by simpa [In4.cells] using hown2) hb2⟩, by simp [lenI]; omega⟩
       · have hn := hP.out.no_place HNE.out hno
         have HN := Lib.hid hn; clear hn hno
         have hbw := hst.b.grown hg1 hst.b.size (fun k hk => by cases hk; omega)
         go_wp2
         all_goals
           go_ret2
           exact .inr ⟨HN.out, _, rfl, World.ownsRow_nil _ _ _ _, hbw.alloc hbw.size _⟩
     · have hr0 : rest = [] := List.isEmpty_iff.1 hemp
       have hP0 : ParsedC s.data.toList ws [] := hr0 ▸ hP.out
       have HP0 := Lib.hid hP0; clear hP0 hr0
       have hs := SlA.of_own hst.own (insR_len ws) (insR_rows ws)
       cases hwb : waysB ws
       · have hn := HP0.out.end_no (fun h => by rw [waysB_iff.2 h] at hwb; cases hwb)
         have HN := Lib.hid hn; clear hn
         go_wp2_with (first
           | (go_at_call 45; refine (done_any ⟨rest.toArray⟩ _ _ _ (hst.r.cell 0)).mono ?_; rintro e w0 ⟨rfl, rfl⟩)
           | (go_at_call 48; refine (codeWays_any _ ws _ hs).mono ?_; rintro e w3 ⟨rfl, hb3⟩; rw [hwb]))
         all_goals
           go_ret2
           exact .inr ⟨HN.out, _, rfl, World.ownsRow_nil _ _ _ _, below_then hst.b hb3⟩
       · have hy := HP0.out.end_yes (waysB_iff.1 hwb) (by rw [HLE.out]; exact hbig)
         have HY := Lib.hid hy; clear hy
         go_wp2_with (first
           | (go_at_call 45; refine (done_any ⟨rest.toArray⟩ _ _ _ (hst.r.cell 0)).mono ?_; rintro e w0 ⟨rfl, rfl⟩)
           | (go_at_call 48; refine (codeWays_any _ ws _ hs).mono ?_; rintro e w3 ⟨rfl, hb3⟩; rw [hwb]))
         all_goals
           go_ret2
           exact .inl ⟨ws, _, HY.out.1, HY.out.2, rfl, own_base (own_below hst.own hb3) (by omega), below_then hst.b hb3⟩
 · have hno : ¬ ∃ h, codeOk h ∧ s.data.toList = codeText h := fun ⟨h, h1, h2⟩ => hbig (by have := h1.2; rw [← h2, HLE.out] at this; exact this)
   have HN := Lib.hid hno; clear hno
   have hd : (2600 : Int) < s.size := by omega
   go_enter Tryz.func32, Tryz.ntmps32
   go_wp2
   all_goals
     go_ret2
     exact .inr ⟨HN.out, _, rfl, World.ownsRow_nil _ _ _ _, Below.refl _ _⟩
end Go.Proofs.YtdjgicapbpoigaaGreatDoor

-- impl's check: CheckCode, CheckSteps.
namespace Go.Proofs.YtdjgicapbpoigaaGreatDoor
open Go.RowKit
set_option linter.unusedSimpArgs false
set_option linter.unusedVariables false

set_option maxHeartbeats 2000000 in
theorem iCheckCode_any (cv : Value) (g : List In4) (p : Pol) (v : Value) (w : World) (hv : Sl w 4 cv (insR g)) (hP : PolIs w p v) (hpw : Pow w) :
   Calls Tryz.prog 18 #[cv, v] w (CheckCodePost g p w) := by
 have HV := Lib.hid hv; have HP := Lib.hid hP
 obtain ⟨rv, css, rfl, ⟨A, n, c, rfl, hSA⟩, hR⟩ := hP
 have hb0 : Below w.heap.size w (w.alloc (.cells #[.slice A n c, .int .i64 p.els] 35)) := by go_grown
 have B0 := Blk.new w 35 #[.slice A n c, .int .i64 p.els]
 have HB := Lib.hid B0
 have HPW := Lib.hid hpw
 obtain ⟨VA, vn, vc, rfl, hVA⟩ := hv
 clear hSA hR hVA B0 hpw
 go_enter Tryz.func18, Tryz.ntmps18
 go_wp2_with fail
 refine (CodeOk_any _ g _ (HV.out.below hb0) (HPW.out.below hb0)).mono ?_; rintro e w1 ⟨rfl, hb1⟩
 have hb01 := below_then hb0 hb1
 have hB1 := HB.out.below hb1 (by simp)
 have z1 := hb1.size
 simp only [World.size_alloc] at z1
 have hlt1 : w.heap.size < w1.heap.size := by omega
 have e0 := (show _ = some (Value.slice A n c) from hB1.cell 0); have e1 := (show _ = some (Value.int .i64 p.els) from hB1.cell 1)
 have HB1 := Lib.hid hB1
 clear hB1 hb1
 cases hc : codeOkB g with
 | false =>
   have HO := Lib.hid (show ChkOut g p 0 false from .inr ⟨(fun h => by rw [codeOkB_iff.2 h.1] at hc; cases hc), rfl, rfl⟩)
   clear hc
   go_wp2
   go_ret
   exact ⟨0, false, rfl, HO.out, hb01⟩
 | true =>
   have HC := Lib.hid (codeOkB_iff.1 hc)
   clear hc
   go_wp2_with fail
   refine (iPolicyOk_any p _ _ (HP.out.below hb01) (HPW.out.below hb01)).mono ?_; rintro e w2 ⟨rfl, hb2⟩
   have hb02 := below_then hb01 hb2
   have hB2 := HB1.out.below hb2 hlt1
   have e0 := (show _ = some (Value.slice A n c) from hB2.cell 0); have e1 := (show _ = some (Value.int .i64 p.els) from hB2.cell 1)
   clear hB2 hb2 HB1
   cases hp : polOkB p with
   | false =>
     have HO := Lib.hid (show ChkOut g p 0 false from .inr ⟨(fun h => by rw [h.2] at hp; cases hp), rfl, rfl⟩)
     clear hp
     go_wp2
     go_ret
     exact ⟨0, false, rfl, HO.out, hb02⟩
   | true =>
     have HPO := Lib.hid hp
     clear hp
     go_wp2_with fail
     refine (check_any _ g p _ _ (HV.out.below hb02) (HP.out.below hb02) HC.out HPO.out).mono ?_; rintro e w3 ⟨cg, s, b, cv', rv', rfl, hck, hbk, hb3⟩
     have HO := Lib.hid (show ChkOut g p s b from .inl ⟨HC.out, HPO.out, hck⟩)
     have q3 := (show _ = some (Value.int .i64 (s : Int)) from hbk.cell 3); have q4 := (show _ = some (Value.bool (!b)) from hbk.cell 4)
     have hb03 := below_then hb02 hb3
     clear hck hbk hb3
     cases b
     all_goals
       go_wp2
       go_ret
       exact ⟨s, _, rfl, HO.out, hb03⟩

end Go.Proofs.YtdjgicapbpoigaaGreatDoor

-- impl.PolicyRead on any text; openPack.
namespace Go.Proofs.YtdjgicapbpoigaaGreatDoor
open Go.RowKit
set_option linter.unusedSimpArgs false
set_option linter.unusedVariables false

def MaxIs (w : World) : Prop := ∃ m : Int, w.cell? ⟨1, 0, none⟩ = some (.int .i64 m)
theorem MaxIs.below {w w' : World} (h : MaxIs w) (hb : Below w.heap.size w w') : MaxIs w' := by
 obtain ⟨m, hm⟩ := h
 exact ⟨m, (hb.cell (p := ⟨1, 0, none⟩) (World.block_lt_of_cell? w ⟨1, 0, none⟩ hm)).trans hm⟩
def PolRdI (l : List UInt8) (w : World) (e : Ending) (w' : World) : Prop := ∃ (p : Pol) (A : Option Addr) (n c : Nat) (els at_ : Int), e = .returned (.tuple #[.agg #[.slice A n c, .int .i64 els], .int .i64 at_]) ∧ (at_ = 0 → polOkB p = true ∧ polText p = l ∧ PolIs w' p (.agg #[.slice A n c, .int .i64 els])) ∧ (at_ ≠ 0 → ¬ isPol l) ∧ Below w.heap.size w w'
theorem iPolicyRead_all (l : List UInt8) (w : World) (hs : l.length ≤ 1048576) (hm : MaxIs w) :
   Calls Tryz.prog 21 #[.string ⟨l.toArray⟩] w (PolRdI l w) := by
 by_cases h : isPol l
 · obtain ⟨p, hp, rfl⟩ := h
   refine (PolicyRead_yes p w hp hm).mono ?_
   rintro e w' ⟨pv, rfl, hi, hb⟩
   have hi2 := hi
   obtain ⟨rv, css, rfl, ⟨A, n, c, rfl, _⟩, _⟩ := hi
   exact ⟨p, A, n, c, p.els, 0, rfl, fun _ => ⟨hp, rfl, hi2⟩, fun h => absurd rfl h, hb⟩
 · refine (PolicyRead_no l w hs h hm).mono ?_
   rintro e w' ⟨at_, rfl, ha, hb⟩
   exact ⟨⟨[], 0⟩, none, 0, 0, 0, at_, rfl, fun h => absurd h ha, fun _ => h, hb⟩
abbrev TOpen : TypeId := 46
def BadPk (en : Int) (r c : List UInt8) : Prop := inB en 1 99 = false ∨ ¬ isPol r ∨ ¬ ∃ g, codeOk g ∧ c = codeText g
def OpPost (en : Int) (r c : List UInt8) (w : World) (e : Ending) (w' : World) : Prop :=
 (∃ a : Addr, e = .returned (.tuple #[.agg #[.slice none 0 0, .int .i64 0, .slice none 0 0, .int .i64 0], .iface 71 (.pointer (some a))]) ∧ BadPk en r c ∧ Below w.heap.size w w') ∨
 (∃ (p : Pol) (g : List In4) (A A3 : Option Addr) (n cc c3 : Nat) (els : Int), e = .returned (.tuple #[.agg #[.slice A n cc, .int .i64 els, .slice A3 g.length c3, .int .i64 en], .nilIface]) ∧ inB en 1 99 = true ∧ polOkB p = true ∧ polText p = r ∧ codeOk g ∧ c = codeText g ∧ PolIs w' p (.agg #[.slice A n cc, .int .i64 els]) ∧ Sl w' 4 (.slice A3 g.length c3) (insR g) ∧ Below w.heap.size w w')
theorem open_set {w W : World} (h : Below w.heap.size w W) (a b c d : Value) : Below w.heap.size w ((((W.setCell ⟨w.heap.size + 1, 0, none⟩ a).setCell ⟨w.heap.size + 1, 1, none⟩ b).setCell ⟨w.heap.size + 1, 2, none⟩ c).setCell ⟨w.heap.size + 1, 3, none⟩ d) :=
 (((h.setCell (p := ⟨w.heap.size + 1, 0, none⟩) (Nat.le_succ _) _).setCell (p := ⟨w.heap.size + 1, 1, none⟩) (Nat.le_succ _) _).setCell (p := ⟨w.heap.size + 1, 2, none⟩) (Nat.le_succ _) _).setCell (p := ⟨w.heap.size + 1, 3, none⟩) (Nat.le_succ _) _
theorem Sl.apartO {w w' : World} {k : Nat} {t : TypeId} {b1 c1 d1 : Value} {v : Value} {cs : List (List Value)} (h : Sl w 4 v cs) (hr : ∀ r ∈ cs, r.length = 4 ∧ ∃ x : Int, r[0]? = some (.int .i64 x)) (hk : Blk w k t #[.slice none 0 0, b1, c1, d1]) (hg : w.grownBy w' (some k)) : Sl w' 4 v cs := by
 obtain ⟨A, n, c, rfl, hA⟩ := h
 rcases Nat.eq_zero_or_pos n with h0 | h0
 · subst h0
   exact ⟨A, 0, c, rfl, hA.len, hA.cap, hA.max, fun h => absurd h (by omega)⟩
 · refine ⟨A, n, c, rfl, hA.grown hg fun b off e => ?_⟩
   obtain ⟨b', off', e', hb, he⟩ := hA.at_ h0
   rw [e] at e'
   cases e'
   intro e2
   subst e2
   have hl := hA.len
   have hr0 : cs[0]? = some (cs[0]'(by omega)) := List.getElem?_eq_getElem _
   obtain ⟨hlen, x, hx⟩ := hr _ (List.getElem_mem (l := cs) (n := 0) (by omega))
   have h6 := he 0 _ hr0 3 _ (List.getElem?_eq_getElem (by rw [hlen]; omega))
   rw [hk.cell] at h6
   have h7 := (Array.getElem?_eq_some_iff.1 h6).1
   simp at h7
   have ho : off = 0 := by omega
   subst ho
   have h8 := he 0 _ hr0 0 _ hx
   rw [hk.cell] at h8
   simp at h8
theorem PolIs.apartO {w w' : World} {k : Nat} {t : TypeId} {b1 c1 d1 : Value} {p : Pol} {v : Value} (h : PolIs w p v) (hk : Blk w k t #[.slice none 0 0, b1, c1, d1]) (hg : w.grownBy w' (some k)) : PolIs w' p v := by
 obtain ⟨rv, css, rfl, hs, hR⟩ := h
 refine ⟨rv, css, rfl, hs.apartO (fun r hr => ?_) hk hg, hR.1, fun i r cs h1 h2 => ?_⟩
 · obtain ⟨i, hi, rfl⟩ := List.getElem_of_mem hr
   have hl := hR.1
   obtain ⟨tv, e, _⟩ := hR.2 i _ _ (List.getElem?_eq_getElem (by omega)) (List.getElem?_eq_getElem hi)
   rw [e]
   exact ⟨rfl, _, rfl⟩
 · obtain ⟨tv, e, ht⟩ := hR.2 i r cs h1 h2
   refine ⟨tv, e, ht.apartO (fun r hr => ?_) hk hg⟩
   obtain ⟨t, _, rfl⟩ := List.mem_map.1 hr
   exact ⟨rfl, _, rfl⟩
theorem ins_first (g : List In4) : ∀ r ∈ insR g, r.length = 4 ∧ ∃ x : Int, r[0]? = some (.int .i64 x) := fun r hr => by
 obtain ⟨t, _, rfl⟩ := List.mem_map.1 hr
 exact ⟨rfl, _, rfl⟩
theorem open_grown (W : World) (k : Nat) (a b c d : Value) : W.grownBy ((((W.setCell ⟨k, 0, none⟩ a).setCell ⟨k, 1, none⟩ b).setCell ⟨k, 2, none⟩ c).setCell ⟨k, 3, none⟩ d) (some k) :=
 (((grown_set W k 0 a).trans (grown_set _ k 1 b)).trans (grown_set _ k 2 c)).trans (grown_set _ k 3 d)
theorem open_fault {w W : World} {a b c d : Value} (hB : Below w.heap.size w W) (hO : Blk W (w.heap.size + 1) TOpen #[a, b, c, d]) (n : Int) : Blk (((((W.setCell ⟨w.heap.size + 1, 0, none⟩ (.slice none 0 0)).setCell ⟨w.heap.size + 1, 1, none⟩ (.int .i64 0)).setCell ⟨w.heap.size + 1, 2, none⟩ (.slice none 0 0)).setCell ⟨w.heap.size + 1, 3, none⟩ (.int .i64 0)).alloc (.cells #[.int .i64 n] 73)) (w.heap.size + 1) TOpen #[.slice none 0 0, .int .i64 0, .slice none 0 0, .int .i64 0] ∧ Below w.heap.size w (((((W.setCell ⟨w.heap.size + 1, 0, none⟩ (.slice none 0 0)).setCell ⟨w.heap.size + 1, 1, none⟩ (.int .i64 0)).setCell ⟨w.heap.size + 1, 2, none⟩ (.slice none 0 0)).setCell ⟨w.heap.size + 1, 3, none⟩ (.int .i64 0)).alloc (.cells #[.int .i64 n] 73)) :=
 ⟨((((hO.set_ 0 _).set_ 1 _).set_ 2 _).set_ 3 _).alloc _, (open_set hB _ _ _ _).alloc (open_set hB _ _ _ _).size _⟩
set_option maxHeartbeats 4000000 in
theorem openPack_any (en : Int) (r c : List UInt8) (w : World) (hr : r.length ≤ 1048576) (hc : c.length ≤ 1048576) (hm : MaxIs w) :
   Calls Tryz.prog 16 #[.agg #[.int .i64 en, .string ⟨r.toArray⟩, .string ⟨c.toArray⟩]] w (OpPost en r c w) := by
 obtain ⟨W2, hW2⟩ : ∃ W, W = (w.alloc (.cells #[.int .i64 en, .string ⟨r.toArray⟩, .string ⟨c.toArray⟩] TPackS)).alloc (.cells #[.slice none 0 0, .int .i64 0, .slice none 0 0, .int .i64 0] TOpen) := ⟨_, rfl⟩
 have bW : Hid (Below w.heap.size w W2) := by rw [hW2]; exact Lib.hid (by go_grown)
 have KP : Hid (Blk W2 w.heap.size TPackS #[.int .i64 en, .string ⟨r.toArray⟩, .string ⟨c.toArray⟩]) := by rw [hW2]; exact Lib.hid ((Blk.new _ _ _).alloc _)
 have KO : Hid (Blk W2 (w.heap.size + 1) TOpen #[.slice none 0 0, .int .i64 0, .slice none 0 0, .int .i64 0]) := by
   rw [hW2]
   have := Blk.new (w.alloc (.cells #[.int .i64 en, .string ⟨r.toArray⟩, .string ⟨c.toArray⟩] TPackS)) TOpen #[.slice none 0 0, .int .i64 0, .slice none 0 0, .int .i64 0]
   simpa using Lib.hid this
 have HM2 := Lib.hid (hm.below bW.out)
 have HW2 := Lib.hid hW2
 clear hW2 hm
 have x0 := (show _ = some (Value.int .i64 en) from KP.out.cell 0)
 go_enter Tryz.func16, Tryz.ntmps16
 go_upto_region 1 with (fail)
 rw [← HW2.out]
 by_cases hin : inB en 1 99 = true
 case neg =>
   have hin0 : inB en 1 99 = false := by simpa using hin
   have r0 := (show _ = some (Value.slice none 0 0) from KO.out.cell 0); have r1 := (show _ = some (Value.int .i64 0) from KO.out.cell 1); have r2 := (show _ = some (Value.slice none 0 0) from KO.out.cell 2); have r3 := (show _ = some (Value.int .i64 0) from KO.out.cell 3)
   have rf0 := KO.out.frozen 0; have rf1 := KO.out.frozen 1; have rf2 := KO.out.frozen 2; have rf3 := KO.out.frozen 3
   have hz := KO.out.lt
   rcases Int.lt_or_le en 1 with h1 | h1
   · skip
     obtain ⟨W8, hW8⟩ : ∃ X, X = ((((W2.setCell ⟨w.heap.size + 1, 0, none⟩ (.slice none 0 0)).setCell ⟨w.heap.size + 1, 1, none⟩ (.int .i64 0)).setCell ⟨w.heap.size + 1, 2, none⟩ (.slice none 0 0)).setCell ⟨w.heap.size + 1, 3, none⟩ (.int .i64 0)).alloc (.cells #[.int .i64 1] 73) := ⟨_, rfl⟩
     obtain ⟨K8, B8⟩ := open_fault bW.out KO.out 1
     rw [← hW8] at K8 B8
     have HW8 := Lib.hid hW8; have HK8 := Lib.hid K8; have HB8 := Lib.hid B8
     clear hW8 K8 B8
     go_wp2
     rw [← HW8.out]
     have s0 := (show W8.cell? ⟨w.heap.size + 1, 0, none⟩ = some (Value.slice none 0 0) from HK8.out.cell 0); have s1 := (show W8.cell? ⟨w.heap.size + 1, 1, none⟩ = some (Value.int .i64 0) from HK8.out.cell 1); have s2 := (show W8.cell? ⟨w.heap.size + 1, 2, none⟩ = some (Value.slice none 0 0) from HK8.out.cell 2); have s3 := (show W8.cell? ⟨w.heap.size + 1, 3, none⟩ = some (Value.int .i64 0) from HK8.out.cell 3)
     exact bodyPost_ret (v := .tuple #[.agg #[.slice none 0 0, .int .i64 0, .slice none 0 0, .int .i64 0], .iface 71 (.pointer (some ⟨W2.heap.size, 0, none⟩))]) (by simp [results, Tryz.results16, go_sem, s0, s1, s2, s3]) rfl (.inl ⟨_, rfl, .inl hin0, HB8.out⟩)
   · have h2 : ¬ en < 1 := by omega
     have h3 : 99 < en := by
       rcases Int.lt_or_le 99 en with h | h
       · exact h
       · exact absurd (inB_iff.2 ⟨h1, h⟩) hin
     obtain ⟨W8, hW8⟩ : ∃ X, X = ((((W2.setCell ⟨w.heap.size + 1, 0, none⟩ (.slice none 0 0)).setCell ⟨w.heap.size + 1, 1, none⟩ (.int .i64 0)).setCell ⟨w.heap.size + 1, 2, none⟩ (.slice none 0 0)).setCell ⟨w.heap.size + 1, 3, none⟩ (.int .i64 0)).alloc (.cells #[.int .i64 1] 73) := ⟨_, rfl⟩
     obtain ⟨K8, B8⟩ := open_fault bW.out KO.out 1
     rw [← hW8] at K8 B8
     have HW8 := Lib.hid hW8; have HK8 := Lib.hid K8; have HB8 := Lib.hid B8
     clear hW8 K8 B8
     go_wp2
     rw [← HW8.out]
     have s0 := (show W8.cell? ⟨w.heap.size + 1, 0, none⟩ = some (Value.slice none 0 0) from HK8.out.cell 0); have s1 := (show W8.cell? ⟨w.heap.size + 1, 1, none⟩ = some (Value.int .i64 0) from HK8.out.cell 1); have s2 := (show W8.cell? ⟨w.heap.size + 1, 2, none⟩ = some (Value.slice none 0 0) from HK8.out.cell 2); have s3 := (show W8.cell? ⟨w.heap.size + 1, 3, none⟩ = some (Value.int .i64 0) from HK8.out.cell 3)
     exact bodyPost_ret (v := .tuple #[.agg #[.slice none 0 0, .int .i64 0, .slice none 0 0, .int .i64 0], .iface 71 (.pointer (some ⟨W2.heap.size, 0, none⟩))]) (by simp [results, Tryz.results16, go_sem, s0, s1, s2, s3]) rfl (.inl ⟨_, rfl, .inl hin0, HB8.out⟩)
 obtain ⟨hin1, hin2⟩ := inB_iff.1 hin
 have hin3 : ¬ en < 1 := by omega
 have hin4 : ¬ 99 < en := by omega
 have x1 := (show _ = some (Value.string ⟨r.toArray⟩) from KP.out.cell 1)
 go_wp2_with fail
 refine (iPolicyRead_all r W2 hr HM2.out).mono ?_; rintro e w3 ⟨p, A, n, cc, els, at_, rfl, hat, hnat, b3⟩
 have HAT := Lib.hid hat; have HNAT := Lib.hid hnat
 have B3 := Lib.hid (below_then bW.out b3); have KP3 := Lib.hid (KP.out.below b3 KP.out.lt); have KO3 := Lib.hid (KO.out.below b3 KO.out.lt)
 obtain ⟨W3, hW3⟩ : ∃ W, W = w3.alloc (.cells #[.slice A n cc, .int .i64 els] TPolC) := ⟨_, rfl⟩
 have b4 : Below w3.heap.size w3 W3 := by rw [hW3]; go_grown
 have B4 := Lib.hid (B3.out.trans (b4.mono B3.out.size)); have KP4 := Lib.hid (KP3.out.below b4 KP3.out.lt); have KO4 := Lib.hid (KO3.out.below b4 KO3.out.lt)
 have KQ4 : Hid (Blk W3 w3.heap.size TPolC #[.slice A n cc, .int .i64 els]) := by rw [hW3]; exact Lib.hid (Blk.new _ _ _)
 have HPI : Hid (at_ = 0 → PolIs W3 p (.agg #[.slice A n cc, .int .i64 els])) := Lib.hid (fun h => (HAT.out h).2.2.below b4)
 have HW3 := Lib.hid hW3
 clear hW3 hat hnat b3 b4 x0 x1 B3 KP3 KO3
 go_upto_region 4 with (fail)
 rw [← HW3.out]
 clear HW3
 by_cases ha : at_ = 0
 case neg =>
   have had : (at_ != 0) = true := by simpa using ha
   have r0 := (show _ = some (Value.slice none 0 0) from KO4.out.cell 0); have r1 := (show _ = some (Value.int .i64 0) from KO4.out.cell 1); have r2 := (show _ = some (Value.slice none 0 0) from KO4.out.cell 2); have r3 := (show _ = some (Value.int .i64 0) from KO4.out.cell 3)
   have rf0 := KO4.out.frozen 0; have rf1 := KO4.out.frozen 1; have rf2 := KO4.out.frozen 2; have rf3 := KO4.out.frozen 3
   have hz := KO4.out.lt
   obtain ⟨W8, hW8⟩ : ∃ X, X = ((((W3.setCell ⟨w.heap.size + 1, 0, none⟩ (.slice none 0 0)).setCell ⟨w.heap.size + 1, 1, none⟩ (.int .i64 0)).setCell ⟨w.heap.size + 1, 2, none⟩ (.slice none 0 0)).setCell ⟨w.heap.size + 1, 3, none⟩ (.int .i64 0)).alloc (.cells #[.int .i64 2] 73) := ⟨_, rfl⟩
   obtain ⟨K8, B8⟩ := open_fault B4.out KO4.out 2
   rw [← hW8] at K8 B8
   have HW8 := Lib.hid hW8; have HK8 := Lib.hid K8; have HB8 := Lib.hid B8
   clear hW8 K8 B8
   go_wp2
   rw [← HW8.out]
   have s0 := (show W8.cell? ⟨w.heap.size + 1, 0, none⟩ = some (Value.slice none 0 0) from HK8.out.cell 0); have s1 := (show W8.cell? ⟨w.heap.size + 1, 1, none⟩ = some (Value.int .i64 0) from HK8.out.cell 1); have s2 := (show W8.cell? ⟨w.heap.size + 1, 2, none⟩ = some (Value.slice none 0 0) from HK8.out.cell 2); have s3 := (show W8.cell? ⟨w.heap.size + 1, 3, none⟩ = some (Value.int .i64 0) from HK8.out.cell 3)
   exact bodyPost_ret (v := .tuple #[.agg #[.slice none 0 0, .int .i64 0, .slice none 0 0, .int .i64 0], .iface 71 (.pointer (some ⟨W3.heap.size, 0, none⟩))]) (by simp [results, Tryz.results16, go_sem, s0, s1, s2, s3]) rfl (.inl ⟨_, rfl, .inr (.inl (HNAT.out ha)), HB8.out⟩)
 have had : (at_ != 0) = false := by simpa using ha
 have x2 := (show _ = some (Value.string ⟨c.toArray⟩) from KP4.out.cell 2)
 go_wp2_with fail
 refine (CodeRead_any ⟨c.toArray⟩ W3 (by show c.toArray.size ≤ _; simpa using hc)).mono ?_; intro e5 w5 h5
 obtain ⟨g, v5, ok, rfl, hgy, hgn, ho5, hb5⟩ := codePost_short h5
 have HGY : Hid (ok = true → codeOk g ∧ c = codeText g) := Lib.hid (by simpa using hgy); have HGN : Hid (ok = false → ¬ ∃ g, codeOk g ∧ c = codeText g) := Lib.hid (by simpa using hgn)
 obtain ⟨A5, c5, rfl⟩ := own_slice ho5
 have B5 := Lib.hid (below_then B4.out hb5); have KP5 := Lib.hid (KP4.out.below hb5 KP4.out.lt); have KO5 := Lib.hid (KO4.out.below hb5 KO4.out.lt); have KQ5 := Lib.hid (KQ4.out.below hb5 KQ4.out.lt)
 have HP5 := Lib.hid ((HPI.out ha).below hb5)
 have HS5 := Lib.hid (show Sl w5 4 (.slice A5 g.length c5) (insR g) from SlA.of_own ho5 (insR_len g) (insR_rows g))
 have r0 := (show _ = some (Value.slice none 0 0) from KO5.out.cell 0); have r1 := (show _ = some (Value.int .i64 0) from KO5.out.cell 1); have r2 := (show _ = some (Value.slice none 0 0) from KO5.out.cell 2); have r3 := (show _ = some (Value.int .i64 0) from KO5.out.cell 3)
 have rf0 := KO5.out.frozen 0; have rf1 := KO5.out.frozen 1; have rf2 := KO5.out.frozen 2; have rf3 := KO5.out.frozen 3
 have hz := KO5.out.lt
 clear h5 hgy hgn ho5 hb5 x2 had
 cases ok with
 | false =>
   obtain ⟨W8, hW8⟩ : ∃ X, X = ((((w5.setCell ⟨w.heap.size + 1, 0, none⟩ (.slice none 0 0)).setCell ⟨w.heap.size + 1, 1, none⟩ (.int .i64 0)).setCell ⟨w.heap.size + 1, 2, none⟩ (.slice none 0 0)).setCell ⟨w.heap.size + 1, 3, none⟩ (.int .i64 0)).alloc (.cells #[.int .i64 3] 73) := ⟨_, rfl⟩
   obtain ⟨K8, B8⟩ := open_fault B5.out KO5.out 3
   rw [← hW8] at K8 B8
   have HW8 := Lib.hid hW8; have HK8 := Lib.hid K8; have HB8 := Lib.hid B8
   clear hW8 K8 B8
   go_wp2
   rw [← HW8.out]
   have s0 := (show W8.cell? ⟨w.heap.size + 1, 0, none⟩ = some (Value.slice none 0 0) from HK8.out.cell 0); have s1 := (show W8.cell? ⟨w.heap.size + 1, 1, none⟩ = some (Value.int .i64 0) from HK8.out.cell 1); have s2 := (show W8.cell? ⟨w.heap.size + 1, 2, none⟩ = some (Value.slice none 0 0) from HK8.out.cell 2); have s3 := (show W8.cell? ⟨w.heap.size + 1, 3, none⟩ = some (Value.int .i64 0) from HK8.out.cell 3)
   exact bodyPost_ret (v := .tuple #[.agg #[.slice none 0 0, .int .i64 0, .slice none 0 0, .int .i64 0], .iface 71 (.pointer (some ⟨w5.heap.size, 0, none⟩))]) (by simp [results, Tryz.results16, go_sem, s0, s1, s2, s3]) rfl (.inl ⟨_, rfl, .inr (.inr (HGN.out (by simp))), HB8.out⟩)
 | true =>
   have x0 := (show w5.cell? ⟨w.heap.size, 0, none⟩ = some (Value.int .i64 en) from KP5.out.cell 0)
   have y0 := (show w5.cell? ⟨w3.heap.size, 0, none⟩ = some (Value.slice A n cc) from KQ5.out.cell 0); have y1 := (show w5.cell? ⟨w3.heap.size, 1, none⟩ = some (Value.int .i64 els) from KQ5.out.cell 1)
   obtain ⟨W6, hW6⟩ : ∃ W, W = (((w5.setCell ⟨w.heap.size + 1, 0, none⟩ (.slice A n cc)).setCell ⟨w.heap.size + 1, 1, none⟩ (.int .i64 els)).setCell ⟨w.heap.size + 1, 2, none⟩ (.slice A5 g.length c5)).setCell ⟨w.heap.size + 1, 3, none⟩ (.int .i64 en) := ⟨_, rfl⟩
   have B6 : Hid (Below w.heap.size w W6) := by rw [hW6]; exact Lib.hid (open_set B5.out _ _ _ _)
   have K6 : Hid (Blk W6 (w.heap.size + 1) TOpen #[.slice A n cc, .int .i64 els, .slice A5 g.length c5, .int .i64 en]) := by rw [hW6]; exact Lib.hid ((((KO5.out.set_ 0 _).set_ 1 _).set_ 2 _).set_ 3 _)
   have HPK : Hid (PolIs W6 p (.agg #[.slice A n cc, .int .i64 els])) := by rw [hW6]; exact Lib.hid (HP5.out.apartO KO5.out (open_grown _ _ _ _ _ _))
   have HSK : Hid (Sl W6 4 (.slice A5 g.length c5) (insR g)) := by rw [hW6]; exact Lib.hid (HS5.out.apartO (ins_first g) KO5.out (open_grown _ _ _ _ _ _))
   have HW6 := Lib.hid hW6
   clear hW6
   go_wp2
   rw [← HW6.out]
   have s0 := (show W6.cell? ⟨w.heap.size + 1, 0, none⟩ = some (Value.slice A n cc) from K6.out.cell 0); have s1 := (show W6.cell? ⟨w.heap.size + 1, 1, none⟩ = some (Value.int .i64 els) from K6.out.cell 1); have s2 := (show W6.cell? ⟨w.heap.size + 1, 2, none⟩ = some (Value.slice A5 g.length c5) from K6.out.cell 2); have s3 := (show W6.cell? ⟨w.heap.size + 1, 3, none⟩ = some (Value.int .i64 en) from K6.out.cell 3)
   have hpol := (HAT.out ha)
   have hcode := HGY.out (by simp)
   exact bodyPost_ret (v := .tuple #[.agg #[.slice A n cc, .int .i64 els, .slice A5 g.length c5, .int .i64 en], .nilIface]) (by simp [results, Tryz.results16, go_sem, s0, s1, s2, s3]) rfl (.inr ⟨p, g, A, A5, n, cc, c5, els, rfl, hin, hpol.1, hpol.2.1, hcode.1, hcode.2, HPK.out, HSK.out, B6.out⟩)
end Go.Proofs.YtdjgicapbpoigaaGreatDoor

-- impl.PackGood, exactly.
namespace Go.Proofs.YtdjgicapbpoigaaGreatDoor
open Go.RowKit
set_option linter.unusedSimpArgs false
set_option linter.unusedVariables false

theorem BadPk.good {en : Int} {r c : List UInt8} (h : BadPk en r c) : GoodIs en r c false := .inl ⟨rfl, h⟩
set_option maxHeartbeats 4000000 in
theorem iPackGood_all (en : Int) (r c : List UInt8) (w : World) (hr : r.length ≤ 1048576) (hc : c.length ≤ 1048576) (hm : MaxIs w) (hpw : Pow w) (het : EtIs w) :
   Calls Tryz.prog 8 #[.agg #[.int .i64 en, .string ⟨r.toArray⟩, .string ⟨c.toArray⟩]] w fun e w' => ∃ b : Bool, e = .returned (.bool b) ∧ GoodIs en r c b ∧ Below w.heap.size w w' := by
 obtain ⟨W1, hW1⟩ : ∃ W, W = w.alloc (.cells #[.int .i64 en, .string ⟨r.toArray⟩, .string ⟨c.toArray⟩] TPackS) := ⟨_, rfl⟩
 have b1 : Hid (Below w.heap.size w W1) := by rw [hW1]; exact Lib.hid (by go_grown)
 have B1 : Hid (Blk W1 w.heap.size TPackS #[.int .i64 en, .string ⟨r.toArray⟩, .string ⟨c.toArray⟩]) := by rw [hW1]; exact Lib.hid (Blk.new _ _ _)
 have HM1 := Lib.hid (hm.below b1.out); have HPW1 := Lib.hid (hpw.below b1.out); have HET1 := Lib.hid (het.below b1.out)
 have HW1 := Lib.hid hW1
 clear hW1 hm hpw het
 have x0 := (show _ = some (Value.int .i64 en) from B1.out.cell 0); have x1 := (show _ = some (Value.string ⟨r.toArray⟩) from B1.out.cell 1); have x2 := (show _ = some (Value.string ⟨c.toArray⟩) from B1.out.cell 2)
 go_enter Tryz.func8, Tryz.ntmps8
 go_upto_region 1 with (fail)
 rw [← HW1.out]
 go_wp2_with fail
 refine (openPack_any en r c W1 hr hc HM1.out).mono ?_; intro e2 w2 h2
 rcases h2 with ⟨a, rfl, hbad, hb2⟩ | ⟨p, g, A, A3, n, cc, c3, els, rfl, hin, hp, ht, hg, hcd, hpi, hsl, hb2⟩
 · have HBAD := Lib.hid hbad
   have B2 := Lib.hid (below_then b1.out hb2)
   obtain ⟨W3, hW3⟩ : ∃ W, W = w2.alloc (.cells #[.slice none 0 0, .int .i64 0, .slice none 0 0, .int .i64 0] TOpen) := ⟨_, rfl⟩
   have B3 := Lib.hid (show Below w.heap.size w W3 by rw [hW3]; exact B2.out.alloc B2.out.size _)
   have HE3 := Lib.hid (show EtIs W3 by rw [hW3]; exact (HET1.out.below hb2).below (by go_grown))
   have HW3 := Lib.hid hW3
   clear hW3 hb2 hbad x0 x1 x2
   go_upto_region 2 with (fail)
   rw [← HW3.out]
   go_wp2_with fail
   refine (packFaulty_hit a W3 HE3.out).mono ?_; rintro e w4 ⟨rfl, hb4⟩
   have B4 := Lib.hid (below_then B3.out hb4)
   clear hb4
   go_wp2
   go_ret
   exact ⟨false, rfl, HBAD.out.good, B4.out⟩
 · have B2 := Lib.hid (below_then b1.out hb2)
   obtain ⟨W3, hW3⟩ : ∃ W, W = w2.alloc (.cells #[.slice A n cc, .int .i64 els, .slice A3 g.length c3, .int .i64 en] TOpen) := ⟨_, rfl⟩
   have K3 := Lib.hid (show Blk W3 w2.heap.size TOpen #[.slice A n cc, .int .i64 els, .slice A3 g.length c3, .int .i64 en] by rw [hW3]; exact Blk.new _ _ _)
   have B3 := Lib.hid (show Below w.heap.size w W3 by rw [hW3]; exact B2.out.alloc B2.out.size _)
   have HP3 := Lib.hid (show PolIs W3 p (.agg #[.slice A n cc, .int .i64 els]) by rw [hW3]; exact hpi.below (by go_grown))
   have HS3 := Lib.hid (show Sl W3 4 (.slice A3 g.length c3) (insR g) by rw [hW3]; exact hsl.below (by go_grown))
   have HPW3 := Lib.hid (show Pow W3 by rw [hW3]; exact (HPW1.out.below hb2).below (by go_grown))
   have HGG := Lib.hid (show ∀ (s : Nat) (b : Bool), ChkOut g p s b → GoodIs en r c b from fun s b hk => .inr ⟨hin, p, g, s, hp, ht, hg, hcd, hk⟩)
   have HW3 := Lib.hid hW3
   clear hW3 hb2 hin hp ht hg hcd hpi hsl x0 x1 x2
   go_upto_region 2 with (fail)
   rw [← HW3.out]
   go_wp2_with fail
   refine (packFaulty_nil W3).mono ?_; rintro e w4 ⟨rfl, hb4⟩
   have B4 := Lib.hid (below_then B3.out hb4); have K4 := Lib.hid (K3.out.below hb4 K3.out.lt); have HP4 := Lib.hid (HP3.out.below hb4); have HS4 := Lib.hid (HS3.out.below hb4); have HPW4 := Lib.hid (HPW3.out.below hb4)
   clear hb4
   have y0 := (show _ = some (Value.slice A n cc) from K4.out.cell 0); have y1 := (show _ = some (Value.int .i64 els) from K4.out.cell 1); have y2 := (show _ = some (Value.slice A3 g.length c3) from K4.out.cell 2)
   go_wp2_with fail
   refine (iCheckCode_any _ g p _ w4 HS4.out HP4.out HPW4.out).mono ?_; rintro e w5 ⟨s, b, rfl, hk, hb5⟩
   have HGD := Lib.hid (HGG.out s b hk)
   have B5 := Lib.hid (below_then B4.out hb5)
   clear hb5 hk y0 y1 y2
   go_wp2
   go_ret
   exact ⟨b, rfl, HGD.out, B5.out⟩
end Go.Proofs.YtdjgicapbpoigaaGreatDoor
