/- How impl lays the points of a graph: spread and lay. -/
import Derived.Test.YtoibocaaeimplaaDoorBlkOf
import Derived.Deep.LoopGhost
namespace Go.Proofs.YtoibocaaeimplaaDoor
open Go.RowKit
set_option linter.unusedSimpArgs false
set_option linter.unusedVariables false

theorem Blks.ptr {w : World} {base : Nat} {g : List Pt} {hs ss : List Nat} {ys ns : List Bool} (h : Blks w base g hs ss ys ns) {i x : Nat} {p : Pt} (hi : hs[i]? = some x) (hp : g[i]? = some p) {s : Nat} {yv nv : Bool} (he : ss.getD i 0 = s) (hy : ys.getD i false = yv) (hn : ns.getD i false = nv) :
    Blk w x 83 (bkCells p s (wayV hs p p.yes) (wayV hs p p.no) yv nv) := by
  have := h.at_ i x p hi hp
  rwa [he, hy, hn] at this
theorem wayV_look {hs : List Nat} {p : Pt} {y x : Nat} (h0 : p.op ≠ 0) (hy : hs[y]? = some x) : wayV hs p (y : Int) = .pointer (some ⟨x, 0, none⟩) := by
  unfold wayV; rw [if_neg h0, Int.toNat_natCast, hy]; rfl
theorem pRow_cell {w : World} {R k x : Nat} {hs : List Nat} {t : TypeId} (h : Blk w R t (pRow hs)) (hk : hs[k]? = some x) : w.cell? ⟨R, k, none⟩ = some (.pointer (some ⟨x, 0, none⟩)) := by
  rw [h.cell, pRow_get, hk]; rfl
theorem far_cases {v : Bool} {a : Int} : v = true ∨ (v = false ∧ ¬ (a > 6)) ∨ (v = false ∧ a > 6) := by
  cases v
  · by_cases h : a > 6
    · exact .inr (.inr ⟨rfl, h⟩)
    · exact .inr (.inl ⟨rfl, h⟩)
  · exact .inl rfl
/-- What a round of 'spread' does to the count of near ways. -/
structure StepN (P : Nat → Bool) (l : List Bool) (k : Nat) (v : Bool) (c : Bool) : Prop where
  same : c = false → stepF P l (k + 1) = stepF P l k
  set_ : c = true → stepF P l (k + 1) = (stepF P l k).set k true ∧ nearN (stepF P l (k + 1)) + 1 = nearN (stepF P l k)
theorem StepN.of {P : Nat → Bool} {l : List Bool} {k : Nat} {v : Bool} (h : l[k]? = some v) : StepN P l k v (!v && P k) := by
  refine ⟨fun hc => stepF_same h ?_, fun hc => ?_⟩
  · cases v
    · simpa using hc
    · rfl
  · cases v
    · have hP : P k = true := by simpa using hc
      have e : stepF P l (k + 1) = (stepF P l k).set k true := by rw [stepF_set h, hP]; rfl
      exact ⟨e, by rw [e]; exact nearN_set (stepF_at h)⟩
    · simp at hc

/-- What 'spread' has told so far. -/
def SpreadOk (g : List Pt) (ys ns : List Bool) (k : Nat) (ch : Bool) : Prop :=
  (ch = false ∧ nearN (stepF (farY g ys ns) ys k) + nearN (stepF (farN g ys ns) ns k) = nearN ys + nearN ns) ∨ (ch = true ∧ nearN (stepF (farY g ys ns) ys k) + nearN (stepF (farN g ys ns) ns k) < nearN ys + nearN ns)
theorem SpreadOk.next {g : List Pt} {ys ns : List Bool} {k : Nat} {ch yv nv cy cn : Bool} (h : SpreadOk g ys ns k ch) (hy : StepN (farY g ys ns) ys k yv cy) (hn : StepN (farN g ys ns) ns k nv cn) : SpreadOk g ys ns (k + 1) (ch || cy || cn) := by
  have e1 : (cy = false ∧ nearN (stepF (farY g ys ns) ys (k + 1)) = nearN (stepF (farY g ys ns) ys k)) ∨ (cy = true ∧ nearN (stepF (farY g ys ns) ys (k + 1)) + 1 = nearN (stepF (farY g ys ns) ys k)) := by
    cases hc : cy
    · exact .inl ⟨rfl, by rw [hy.same hc]⟩
    · exact .inr ⟨rfl, (hy.set_ hc).2⟩
  have e2 : (cn = false ∧ nearN (stepF (farN g ys ns) ns (k + 1)) = nearN (stepF (farN g ys ns) ns k)) ∨ (cn = true ∧ nearN (stepF (farN g ys ns) ns (k + 1)) + 1 = nearN (stepF (farN g ys ns) ns k)) := by
    cases hc : cn
    · exact .inl ⟨rfl, by rw [hn.same hc]⟩
    · exact .inr ⟨rfl, (hn.set_ hc).2⟩
  unfold SpreadOk at h ⊢
  rcases e1 with ⟨rfl, e1⟩ | ⟨rfl, e1⟩ <;> rcases e2 with ⟨rfl, e2⟩ | ⟨rfl, e2⟩ <;> rcases h with ⟨rfl, h⟩ | ⟨rfl, h⟩
  all_goals first
    | exact .inl ⟨rfl, by omega⟩
    | exact .inr ⟨rfl, by omega⟩
theorem SpreadOk.fin {g : List Pt} {ys ns : List Bool} {ch : Bool} (h : SpreadOk g ys ns g.length ch) : ch = false ↔ (nextY g ys ns = ys ∧ nextN g ys ns = ns) := by
  unfold nextY nextN
  have n1 := stepF_near (farY g ys ns) ys g.length
  have n2 := stepF_near (farN g ys ns) ns g.length
  constructor
  · intro hok
    rcases h with ⟨_, h⟩ | ⟨h, _⟩
    · refine ⟨Decidable.byContradiction fun hne => ?_, Decidable.byContradiction fun hne => ?_⟩
      · have := n1.2 hne; omega
      · have := n2.2 hne; omega
    · rw [hok] at h; cases h
  · rintro ⟨h1, h2⟩
    rcases h with ⟨h, _⟩ | ⟨_, h⟩
    · exact h
    · rw [h1, h2] at h; omega

set_option maxRecDepth 100000 in
set_option maxHeartbeats 8000000 in
theorem spread_any (R n base : Nat) (g : List Pt) (hs ss : List Nat) (ys ns : List Bool) (w : World) (hR : Blk w R 53 (pRow hs)) (hB : Blks w base g hs ss ys ns) (hl : hs.length = n) (hgl : g.length = n) (hg : graphOk g) (hst : Starts g ys ns ss) :
    Calls Tryd.prog 53 #[.slice (some ⟨R, 0, none⟩) n n] w fun e w' => ∃ ch : Bool, e = .returned (.bool ch) ∧ Blk w' R 53 (pRow hs) ∧ Blks w' base g hs ss (nextY g ys ns) (nextN g ys ns) ∧ (ch = false ↔ (nextY g ys ns = ys ∧ nextN g ys ns = ns)) ∧ Below base w w' := by
  have hn120 : n ≤ 120 := by rw [← hgl]; exact hg.1.2
  have HR := Lib.hid hR; have HB := Lib.hid hB; have HL := Lib.hid hl; have HN := Lib.hid hgl; have HG := Lib.hid hg; have HST := Lib.hid hst; clear hR hB hl hgl hg hst
  go_enter Tryd.func53, Tryd.ntmps53
  go_wp2
  go_loopw [3, 9] (fun c i wr => ∃ (k : Nat) (ch : Bool), k ≤ n ∧ i = .int .i64 k ∧ c = .bool ch ∧ Blk wr R 53 (pRow hs) ∧ Blks wr base g hs ss (stepF (farY g ys ns) ys k) (stepF (farN g ys ns) ns k) ∧ SpreadOk g ys ns k ch ∧ Below base w wr) (fun _ i _ => n - (intOf i).toNat)
  case atStart => exact ⟨0, false, Nat.zero_le _, rfl, rfl, HR.out, by rw [stepF_zero, stepF_zero]; exact HB.out, .inl ⟨rfl, by rw [stepF_zero, stepF_zero]⟩, Below.refl _ _⟩
  case round =>
    obtain ⟨k, ch, hk, rfl, rfl, hR, hB, hok, hbw⟩ := hrel
    by_cases hkn : k < n
    · have hki : (k : Int) < n := by omega
      obtain ⟨p, hgp⟩ : ∃ p, g[k]? = some p := ⟨_, List.getElem?_eq_getElem (by rw [HN.out]; omega)⟩
      obtain ⟨x, hx⟩ : ∃ x, hs[k]? = some x := ⟨_, List.getElem?_eq_getElem (by rw [HL.out]; omega)⟩
      obtain ⟨yv, hyv⟩ := bRow_some (rs := ys) (n := n) (by have := hB.yl; rw [stepF_len] at this; rw [this, HL.out]) hkn
      obtain ⟨nv, hnv⟩ := bRow_some (rs := ns) (n := n) (by have := hB.nl; rw [stepF_len] at this; rw [this, HL.out]) hkn
      have d0 := pRow_cell hR hx
      have hbk := hB.ptr hx hgp (getD_of (HST.out k (by rw [HN.out]; exact hkn))) (getD_of (stepF_at (P := farY g ys ns) hyv)) (getD_of (stepF_at (P := farN g ys ns) hnv))
      have sy := StepN.of (P := farY g ys ns) hyv
      have sn := StepN.of (P := farN g ys ns) hnv
      have hlow := hB.low x (List.mem_of_getElem? hx)
      by_cases h0 : p.op = 0
      · have hd : (p.op == 0) = true := by simp [h0]
        have c3 := hbk.cell 3
        simp [bkCells] at c3
        have HE1 := Lib.hid (stepF_same (P := farY g ys ns) hyv (by simp [farY, hgp, h0])); have HE2 := Lib.hid (stepF_same (P := farN g ys ns) hnv (by simp [farN, hgp, h0]))
        have HRx := Lib.hid hR; have HBx := Lib.hid hB; have HOx := Lib.hid hok
        clear hR hB hok hbk sy sn hgp hx hyv hnv h0
        go_wp2
        exact ⟨⟨k + 1, ch, by omega, by go_num, rfl, HRx.out, by rw [HE1.out, HE2.out]; exact HBx.out, by unfold SpreadOk; rw [HE1.out, HE2.out]; exact HOx.out, hbw⟩, by simp [intOf]; omega⟩
      · have hd : (p.op == 0) = false := by simp [h0]
        obtain ⟨y, nn, hy, hnn, hyk, hnk⟩ := look_ways HG.out hgp h0
        obtain ⟨xy, hxy⟩ : ∃ x, hs[y]? = some x := ⟨_, List.getElem?_eq_getElem (by rw [HL.out]; omega)⟩
        obtain ⟨xn, hxn⟩ : ∃ x, hs[nn]? = some x := ⟨_, List.getElem?_eq_getElem (by rw [HL.out]; omega)⟩
        obtain ⟨py, hpy⟩ : ∃ p, g[y]? = some p := ⟨_, List.getElem?_eq_getElem (by rw [HN.out]; omega)⟩
        obtain ⟨pn, hpn⟩ : ∃ p, g[nn]? = some p := ⟨_, List.getElem?_eq_getElem (by rw [HN.out]; omega)⟩
        have ty : wr.cell? ⟨xy, 7, none⟩ = some (.int .i64 (stAt g ys ns y : Nat)) := (hB.ptr hxy hpy (getD_of (HST.out y (by rw [HN.out]; omega))) rfl rfl).cell 7
        have tn : wr.cell? ⟨xn, 7, none⟩ = some (.int .i64 (stAt g ys ns nn : Nat)) := (hB.ptr hxn hpn (getD_of (HST.out nn (by rw [HN.out]; omega))) rfl rfl).cell 7
        have hbk2 := hbk
        rw [hy, hnn, wayV_look h0 hxy, wayV_look h0 hxn] at hbk2
        have hne1 : ¬ xy = x := fun e => by subst e; have := nodup_get hB.nd hxy hx; omega
        have hne2 : ¬ xn = x := fun e => by subst e; have := nodup_get hB.nd hxn hx; omega
        have FY : farY g ys ns k = decide ((stAt g ys ns y : Int) - (stAt g ys ns k + testAt g k) > 6) := by unfold farY; rw [hgp]; simp [h0, hy]
        have FN : farN g ys ns k = decide ((stAt g ys ns nn : Int) - (stAt g ys ns k + testAt g k) > 6) := by unfold farN; rw [hgp]; simp [h0, hnn]
        rw [tstP_at hgp] at FY FN
        rw [FY] at sy
        rw [FN] at sn
        have s1 : stAt g ys ns k ≤ 600 := Nat.le_trans (stAt_le g ys ns k) (by rw [HN.out]; omega)
        have s2 : stAt g ys ns y ≤ 600 := Nat.le_trans (stAt_le g ys ns y) (by rw [HN.out]; omega)
        have s3 : stAt g ys ns nn ≤ 600 := Nat.le_trans (stAt_le g ys ns nn) (by rw [HN.out]; omega)
        have s4 := tstP_le p
        have HSO := Lib.hid (hok.next sy sn)
        have hRx : R ≠ x := blk_apart hR hbk (by decide)
        have HRN := Lib.hid hRx
        clear hRx
        obtain ⟨-, -, -, c3, -, -, -, c7, c8, c9, c10, c11⟩ := bk_cells hbk2
        have f10 := hbk2.frozen 10
        have f11 := hbk2.frozen 11
        have HRx := Lib.hid hR; have HBx := Lib.hid hB; have HX := Lib.hid hx; have SY := Lib.hid sy; have SN := Lib.hid sn
        have HLK := Lib.hid (lookAt_any x p (stAt g ys ns k) (wayV hs p p.yes) (wayV hs p p.no) yv nv wr hbk (by omega))
        clear hR hB hok hbk hbk2 sy sn hgp hx hyv hnv h0 FY FN hxy hxn hpy hpn hy hnn
        generalize stAt g ys ns k = SK at *
        generalize stAt g ys ns y = SYv at *
        generalize stAt g ys ns nn = SNv at *
        generalize tstP p = TK at *
        rcases far_cases (v := yv) (a := (SYv : Int) - (SK + TK)) with rfl | ⟨rfl, hfy⟩ | ⟨rfl, hfy⟩
        case' inl => have e1 : stepF (farY g ys ns) ys (k + 1) = stepF (farY g ys ns) ys k := SY.out.same rfl
        case' inr.inl =>
          have hcy : decide ((SYv : Int) - (SK + TK) > 6) = false := by simp; omega
          have e1 : stepF (farY g ys ns) ys (k + 1) = stepF (farY g ys ns) ys k := SY.out.same (by rw [hcy]; rfl)
        case' inr.inr =>
          have hcy : decide ((SYv : Int) - (SK + TK) > 6) = true := by simp; omega
          have e1 : stepF (farY g ys ns) ys (k + 1) = (stepF (farY g ys ns) ys k).set k true := (SY.out.set_ (by rw [hcy]; rfl)).1
        all_goals
          rcases far_cases (v := nv) (a := (SNv : Int) - (SK + TK)) with rfl | ⟨rfl, hfn⟩ | ⟨rfl, hfn⟩
          rotate_left 1
          · have hcn : decide ((SNv : Int) - (SK + TK) > 6) = false := by simp; omega
            have e2 : stepF (farN g ys ns) ns (k + 1) = stepF (farN g ys ns) ns k := SN.out.same (by rw [hcn]; rfl)
            have HE1 := Lib.hid e1; have HE2 := Lib.hid e2
            have HSO1 := HSO.out
            try rw [hcy] at HSO1
            try rw [hcn] at HSO1
            have HSO2 := Lib.hid HSO1
            clear e1 e2 HSO1 HSO SY SN
            try clear hcy
            try clear hcn
            go_wp2_with (go_at_call 54; refine HLK.out.mono ?_; rintro e w' ⟨rfl, rfl⟩)
            refine ⟨⟨k + 1, _, by omega, by go_num, rfl, ?_, by rw [HE1.out, HE2.out]; first | exact HBx.out | exact HBx.out.set_yes HX.out true | exact HBx.out.set_no HX.out true | exact (HBx.out.set_yes HX.out true).set_no HX.out true, by simpa using HSO2.out, ?_⟩, by simp [intOf]; omega⟩
            all_goals first
              | exact HRx.out
              | exact HRx.out.far (p := ⟨x, 10, none⟩) HRN.out _
              | exact HRx.out.far (p := ⟨x, 11, none⟩) HRN.out _
              | exact (HRx.out.far (p := ⟨x, 10, none⟩) HRN.out _).far (p := ⟨x, 11, none⟩) HRN.out _
              | exact hbw
              | exact hbw.setCell (p := ⟨x, 10, none⟩) hlow _
              | exact hbw.setCell (p := ⟨x, 11, none⟩) hlow _
              | exact (hbw.setCell (p := ⟨x, 10, none⟩) hlow _).setCell (p := ⟨x, 11, none⟩) hlow _
          · have hcn : decide ((SNv : Int) - (SK + TK) > 6) = true := by simp; omega
            have e2 : stepF (farN g ys ns) ns (k + 1) = (stepF (farN g ys ns) ns k).set k true := (SN.out.set_ (by rw [hcn]; rfl)).1
            have HE1 := Lib.hid e1; have HE2 := Lib.hid e2
            have HSO1 := HSO.out
            try rw [hcy] at HSO1
            try rw [hcn] at HSO1
            have HSO2 := Lib.hid HSO1
            clear e1 e2 HSO1 HSO SY SN
            try clear hcy
            try clear hcn
            go_wp2_with (go_at_call 54; refine HLK.out.mono ?_; rintro e w' ⟨rfl, rfl⟩)
            refine ⟨⟨k + 1, _, by omega, by go_num, rfl, ?_, by rw [HE1.out, HE2.out]; first | exact HBx.out | exact HBx.out.set_yes HX.out true | exact HBx.out.set_no HX.out true | exact (HBx.out.set_yes HX.out true).set_no HX.out true, by simpa using HSO2.out, ?_⟩, by simp [intOf]; omega⟩
            all_goals first
              | exact HRx.out
              | exact HRx.out.far (p := ⟨x, 10, none⟩) HRN.out _
              | exact HRx.out.far (p := ⟨x, 11, none⟩) HRN.out _
              | exact (HRx.out.far (p := ⟨x, 10, none⟩) HRN.out _).far (p := ⟨x, 11, none⟩) HRN.out _
              | exact hbw
              | exact hbw.setCell (p := ⟨x, 10, none⟩) hlow _
              | exact hbw.setCell (p := ⟨x, 11, none⟩) hlow _
              | exact (hbw.setCell (p := ⟨x, 10, none⟩) hlow _).setCell (p := ⟨x, 11, none⟩) hlow _
          · have e2 : stepF (farN g ys ns) ns (k + 1) = stepF (farN g ys ns) ns k := SN.out.same rfl
            have HE1 := Lib.hid e1; have HE2 := Lib.hid e2
            have HSO1 := HSO.out
            try rw [hcy] at HSO1
            try rw [hcn] at HSO1
            have HSO2 := Lib.hid HSO1
            clear e1 e2 HSO1 HSO SY SN
            try clear hcy
            try clear hcn
            go_wp2_with (go_at_call 54; refine HLK.out.mono ?_; rintro e w' ⟨rfl, rfl⟩)
            refine ⟨⟨k + 1, _, by omega, by go_num, rfl, ?_, by rw [HE1.out, HE2.out]; first | exact HBx.out | exact HBx.out.set_yes HX.out true | exact HBx.out.set_no HX.out true | exact (HBx.out.set_yes HX.out true).set_no HX.out true, by simpa using HSO2.out, ?_⟩, by simp [intOf]; omega⟩
            all_goals first
              | exact HRx.out
              | exact HRx.out.far (p := ⟨x, 10, none⟩) HRN.out _
              | exact HRx.out.far (p := ⟨x, 11, none⟩) HRN.out _
              | exact (HRx.out.far (p := ⟨x, 10, none⟩) HRN.out _).far (p := ⟨x, 11, none⟩) HRN.out _
              | exact hbw
              | exact hbw.setCell (p := ⟨x, 10, none⟩) hlow _
              | exact hbw.setCell (p := ⟨x, 11, none⟩) hlow _
              | exact (hbw.setCell (p := ⟨x, 10, none⟩) hlow _).setCell (p := ⟨x, 11, none⟩) hlow _
    · obtain rfl : k = n := by omega
      have HO := Lib.hid hok; have HRx := Lib.hid hR; have HBx := Lib.hid hB; clear hok hR hB
      go_wp2
      go_ret
      exact ⟨ch, rfl, HRx.out, by unfold nextY nextN; rw [HN.out]; exact HBx.out, by have := HO.out; rw [← HN.out] at this; exact this.fin, hbw⟩
end Go.Proofs.YtoibocaaeimplaaDoor
