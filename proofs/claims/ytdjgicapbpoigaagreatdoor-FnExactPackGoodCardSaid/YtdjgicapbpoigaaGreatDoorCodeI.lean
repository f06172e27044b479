/- impl's programs: CodeRead. -/
import Derived.Test.YtdjgicapbpoigaaGreatDoorPlaceI
import Derived.Test.YtdjgicapbpoigaaGreatDoorCodeWA
namespace Go.Proofs.YtdjgicapbpoigaaGreatDoor
open Go.RowKit
set_option linter.unusedSimpArgs false
set_option linter.unusedVariables false

/-- How the world stands while places are read. -/
structure Cr (w wr : World) (rest : List UInt8) (v : Value) (ws : List In4) : Prop where
  r : Blk wr w.heap.size 91 #[.string ⟨rest.toArray⟩]
  own : wr.ownsRow (w.heap.size + 1) 63 4 v ws.length (insR ws).flatten
  b : Below w.heap.size w wr
theorem Cr.ownL {w wr : World} {rest : List UInt8} {v : Value} {ws : List In4} {L : Nat} (h : Cr w wr rest v ws) (hL : Hid (ws.length = L)) : wr.ownsRow (w.heap.size + 1) 63 4 v L (insR ws).flatten := hL.out ▸ h.own
theorem Cr.room {w wr : World} {rest : List UInt8} {v : Value} {ws : List In4} (h : Cr w wr rest v ws) : w.heap.size + 1 ≤ wr.heap.size := by have := h.r.lt; omega
theorem Cr.place {w wr w1 : World} {rest r : List UInt8} {v : Value} {ws : List In4} (h : Cr w wr rest v ws) (hb : Blk w1 w.heap.size 91 #[.string ⟨r.toArray⟩]) (hg : wr.grownBy w1 (some w.heap.size)) : Cr w w1 r v ws :=
  ⟨hb, h.own.kept hg (by
    rcases ho : v.ownBlock with _ | b
    · exact .inl rfl
    · exact .inr (by have := (h.own.lt b ho).1; intro e; cases e; omega)), h.b.grown hg h.b.size (fun k hk => by cases hk; omega)⟩
theorem Cr.app {w wr w2 : World} {rest : List UInt8} {v v2 : Value} {ws : List In4} {x : In4} (h : Cr w wr rest v ws) (ho : w2.ownsRow (w.heap.size + 1) 63 4 v2 (ws.length + 1) (insR ws ++ [x.cells]).flatten) (hb : Below (w.heap.size + 1) wr w2) : Cr w w2 rest v2 (ws ++ [x]) :=
  ⟨h.r.below hb (by omega), by simpa [insR] using ho, h.b.trans (hb.mono (by omega))⟩
theorem Cr.appL {w wr w2 : World} {rest : List UInt8} {v v2 : Value} {ws : List In4} {x : In4} {L : Nat} (h : Cr w wr rest v ws) (hL : Hid (ws.length = L)) (ho : w2.ownsRow (w.heap.size + 1) 63 4 v2 (L + 1) (insR ws ++ [x.cells]).flatten) (hb : Below (w.heap.size + 1) wr w2) : Cr w w2 rest v2 (ws ++ [x]) := h.app (hL.out.symm ▸ ho) hb
theorem Cr.next {w wr w1 : World} {rest : List UInt8} {v : Value} {ws : List In4} (h : Cr w wr rest v ws) (hb : Below wr.heap.size wr w1) : Cr w w1 rest v ws :=
  ⟨h.r.below hb h.r.lt, own_below h.own hb, below_then h.b hb⟩
def lenI : Value → Nat
  | .slice _ n _ => n
  | _ => 0
theorem place_less {rest r : List UInt8} {x : In4} (h : PlaceAt rest x r) : r.length < rest.length := by
  have := insText_pos x
  rw [h.2]; simp; omega

set_option maxHeartbeats 4000000 in
theorem CodeRead_any (s : ByteArray) (w : World) (hsz : s.size ≤ 1048576) :
    Calls Tryz.prog 32 #[.string s] w (CodePost s.data.toList 63 w) := by
  have hlen : s.data.toList.length = s.size := by simp
  have HLE := Lib.hid hlen; clear hlen
  by_cases hbig : s.size ≤ 2600
  · have hb0 : (⟨s.data.toList.toArray⟩ : ByteArray) = s := by cases s; simp
    have HB0 := Lib.hid hb0; clear hb0
    go_enter Tryz.func32, Tryz.ntmps32
    go_wp2
    go_loopw [4] (fun v wr => ∃ (ws : List In4) (rest : List UInt8), ws.length ≤ 160 ∧ rest.length ≤ 2600 ∧ Hid (ParsedC s.data.toList ws rest) ∧ Cr w wr rest v ws) (fun v _ => 160 - lenI v)
    case atStart => exact ⟨[], s.data.toList, by simp, by rw [HLE.out]; exact hbig, ParsedC.start _, ⟨by have h := Blk.new w 91 #[.string s]; simpa using h, World.ownsRow_nil _ _ _ _, by go_grown⟩⟩
    case round =>
      obtain ⟨ws, rest, h160, hrl, hP, hst⟩ := hrel
      obtain ⟨A2, n2, c2, rfl, hA2⟩ := SlA.of_own hst.own (insR_len ws) (insR_rows ws)
      have HL : Hid (ws.length = n2) := by have := hA2.len; rw [insR_len] at this; exact this
      have hc2 := hA2.cap
      have hm2 := hA2.max
      have h160' : n2 ≤ 160 := HL.out ▸ h160
      unfold maxLen at hm2
      clear h160
      cases hemp : rest.isEmpty
      · have hne : rest ≠ [] := by intro e; rw [e] at hemp; cases hemp
        have HNE := Lib.hid hne; clear hne
        go_wp2_with (go_at_call 45; refine (done_any ⟨rest.toArray⟩ _ _ _ (hst.r.cell 0)).mono ?_; rintro e w0 ⟨rfl, rfl⟩)
        refine (insPlace_any rest w.heap.size _ hst.r (by omega)).mono ?_
        rintro e w1 (⟨x, r, hpl, rfl, hb1, hg1⟩ | ⟨hno, a, b, c, d, rfl, hg1⟩)
        · have hs1 := hst.place hb1 hg1
          have HPL := Lib.hid hpl; clear hpl hb1 hg1
          have hxl := place_less HPL.out
          by_cases h16 : n2 = 160
          · have hn := (hP.out.next HPL.out).too_many (by simp; have := HL.out; omega)
            have HN := Lib.hid hn; clear hn
            have h16d : ((n2 : Int) == 160) = true := by simp; omega
            go_wp2
            all_goals
              go_ret2
              exact .inr ⟨HN.out, _, rfl, World.ownsRow_nil _ _ _ _, hs1.b.alloc hs1.b.size _⟩
          · have h16d : ((n2 : Int) == 160) = false := by simp; omega
            have hsA := hs1.next (w1 := w1.alloc (.cells #[.int .i64 x.op, .int .i64 x.k, .int .i64 x.yes, .int .i64 x.no] 63)) (by go_grown)
            have HPN := Lib.hid (hP.out.next HPL.out)
            have HSA := Lib.hid hsA; clear hsA
            go_wp2_with (at_builtin; go_must (refine wpList_app1 (w0 := w1.alloc (.cells #[.int .i64 x.op, .int .i64 x.k, .int .i64 x.yes, .int .i64 x.no] 63)) rfl (.tmp 29) (.tmp 31) _ rfl (w.heap.size + 1) 63 Tryz.underlying38 info_Ins rfl (by omega) (by omega) _ n2 (insR ws) rfl (HSA.out.ownL HL) rfl (by simp [Value.oneCell']) (by show Value.slice (some ⟨_, 0, none⟩) 1 1 = _; simp) (by omega) HSA.out.room ?_); intro v2 w2 hown2 hb2 _; obtain ⟨g2, cap2, rfl, hg2, hg3⟩ := hown2.form (by omega))
            refine ⟨⟨ws ++ [x], r, by simp; have := HL.out; omega, by omega, HPN.out, HSA.out.appL HL (by simpa [In4.cells] using hown2) hb2⟩, by simp [lenI]; omega⟩
        · have hn := hP.out.no_place HNE.out hno
          have HN := Lib.hid hn; clear hn hno
          have hbw := hst.b.grown hg1 hst.b.size (fun k hk => by cases hk; omega)
          go_wp2
          all_goals
            go_ret2
            exact .inr ⟨HN.out, _, rfl, World.ownsRow_nil _ _ _ _, hbw.alloc hbw.size _⟩
      · have hr0 : rest = [] := List.isEmpty_iff.1 hemp
        have hP0 : ParsedC s.data.toList ws [] := hr0 ▸ hP.out
        have HP0 := Lib.hid hP0; clear hP0 hr0
        have hs := SlA.of_own hst.own (insR_len ws) (insR_rows ws)
        cases hwb : waysB ws
        · have hn := HP0.out.end_no (fun h => by rw [waysB_iff.2 h] at hwb; cases hwb)
          have HN := Lib.hid hn; clear hn
          go_wp2_with (first
            | (go_at_call 45; refine (done_any ⟨rest.toArray⟩ _ _ _ (hst.r.cell 0)).mono ?_; rintro e w0 ⟨rfl, rfl⟩)
            | (go_at_call 48; refine (codeWays_any _ ws _ hs).mono ?_; rintro e w3 ⟨rfl, hb3⟩; rw [hwb]))
          all_goals
            go_ret2
            exact .inr ⟨HN.out, _, rfl, World.ownsRow_nil _ _ _ _, below_then hst.b hb3⟩
        · have hy := HP0.out.end_yes (waysB_iff.1 hwb) (by rw [HLE.out]; exact hbig)
          have HY := Lib.hid hy; clear hy
          go_wp2_with (first
            | (go_at_call 45; refine (done_any ⟨rest.toArray⟩ _ _ _ (hst.r.cell 0)).mono ?_; rintro e w0 ⟨rfl, rfl⟩)
            | (go_at_call 48; refine (codeWays_any _ ws _ hs).mono ?_; rintro e w3 ⟨rfl, hb3⟩; rw [hwb]))
          all_goals
            go_ret2
            exact .inl ⟨ws, _, HY.out.1, HY.out.2, rfl, own_base (own_below hst.own hb3) (by omega), below_then hst.b hb3⟩
  · have hno : ¬ ∃ h, codeOk h ∧ s.data.toList = codeText h := fun ⟨h, h1, h2⟩ => hbig (by have := h1.2; rw [← h2, HLE.out] at this; exact this)
    have HN := Lib.hid hno; clear hno
    have hd : (2600 : Int) < s.size := by omega
    go_enter Tryz.func32, Tryz.ntmps32
    go_wp2
    all_goals
      go_ret2
      exact .inr ⟨HN.out, _, rfl, World.ownsRow_nil _ _ _ _, Below.refl _ _⟩
end Go.Proofs.YtdjgicapbpoigaaGreatDoor

