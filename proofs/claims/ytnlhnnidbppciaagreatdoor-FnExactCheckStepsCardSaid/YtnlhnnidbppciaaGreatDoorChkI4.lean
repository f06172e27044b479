/- impl's check in the rules. -/
import Derived.Test.YtnlhnnidbppciaaGreatDoorChkI3
namespace Go.Proofs.YtnlhnnidbppciaaGreatDoor
open Go.RowKit
set_option linter.unusedSimpArgs false
set_option linter.unusedVariables false

section
variable (cg : Nat) (cv : Value) (last : Int) (rs : List Rl)
set_option maxRecDepth 100000 in
set_option maxHeartbeats 8000000 in
theorem iRule_any (rv : Value) (hrw : ∀ r ∈ rs, RlW r) (hrl : rs.length ≤ 1000) : ∀ n, RuleIH cg cv rv last rs n := by
  intro n
  induction n with
  | zero =>
    intro s a k v l kv w hn hs ha hk hkl hC hR hK hKW hO
    exact (iRule_off cg cv rv last s a k v kv false w hC (by omega) (.inl (by omega))).mono fun e w' ⟨h1, s', b, ⟨h2, h3⟩, h4, h5⟩ => ⟨h1, s', b, by rw [h2, h3]; exact .over (by omega), by rw [h3]; rw [h3] at h4; exact h4, h5⟩
  | succ n ih =>
    intro s a k v l kv w hn hs ha hk hkl hC hR hK hKW hO
    have hcg := hC.lt
    have HI := Lib.hid ih; have HR := Lib.hid hR; have HK := Lib.hid hK; have HKW := Lib.hid hKW; have HO := Lib.hid hO; have HRW := Lib.hid hrw
    obtain ⟨A, nr, cr, rfl, hnr, hcr, hcm⟩ := hR.form
    have HNR := Lib.hid hnr
    obtain ⟨X, hX⟩ : ∃ X, X = (w.alloc (.cells #[.pointer (some ⟨cg, 0, none⟩)] 92)).alloc (.cells #[.int .i64 (a : Int), .int .i64 (k : Int), .int .i64 v] 218) := ⟨_, rfl⟩
    have hbX : Below w.heap.size w X := by rw [hX]; go_grown
    have hzX : X.heap.size = w.heap.size + 1 + 1 := by rw [hX]; simp
    have bP : Blk X w.heap.size 92 #[.pointer (some ⟨cg, 0, none⟩)] := by rw [hX]; exact (Blk.new w _ _).alloc _
    have bS : Blk X (w.heap.size + 1) 218 #[.int .i64 (a : Int), .int .i64 (k : Int), .int .i64 v] := by
      rw [hX]
      have := Blk.new (w.alloc (.cells #[.pointer (some ⟨cg, 0, none⟩)] 92)) 218 #[.int .i64 (a : Int), .int .i64 (k : Int), .int .i64 v]
      simpa using this
    have HX := Lib.hid hX; have HBP := Lib.hid bP; have HBS := Lib.hid bS; have HZX := Lib.hid hzX; have HCX := Lib.hid (hC.same hbX); have HGX := Lib.hid (grown_of_below hbX (some cg))
    clear ih hC hR hK hKW hO hrw hnr hX bP bS hzX hbX
    go_enter Tryz.func167, Tryz.ntmps167
    go_wp2_with fail
    rw [← HX.out]
    go_loopg [] (rs.length - a) (fun gk wr => ∃ (s1 a1 k1 : Nat), gk = rs.length - a1 ∧ s ≤ s1 ∧ s1 ≤ 6000 ∧ a1 ≤ rs.length ∧ k1 ≤ 200 ∧ Hid (∀ r, rs[a1]? = some r → k1 ≤ (looksOf r).length) ∧ Hid (Blk wr cg 91 #[cv, .slice A nr cr, .int .i64 last, .int .i64 (s1 : Int), .bool false]) ∧ Hid (Blk wr w.heap.size 92 #[.pointer (some ⟨cg, 0, none⟩)]) ∧ Hid (Blk wr (w.heap.size + 1) 218 #[.int .i64 (a1 : Int), .int .i64 (k1 : Int), .int .i64 v]) ∧ Hid (w.grownBy wr (some cg)) ∧ Hid (∀ t b, RuleRun rs last a1 k1 v l s1 t b → RuleRun rs last a k v l s t b))
    case atStart => exact ⟨s, a, k, rfl, Nat.le_refl _, hs, ha, hk, Lib.hid hkl, HCX, HBP, HBS, HGX, Lib.hid (fun t b h => h)⟩
    case round =>
      clear HCX HBP HBS HGX HX HZX
      obtain ⟨s1, a1, k1, hgk, hs1, hs16, ha1, hk1, HKL, HC, HP, HS, HG, HT⟩ := hrel
      have HGK := Lib.hid hgk
      clear hgk
      have hp := HP.out.lt; have hsl := HS.out.lt; have hcl := HC.out.lt
      have p0 := (show _ = some (Value.pointer (some ⟨cg, 0, none⟩)) from HP.out.cell 0)
      by_cases h6 : 6000 ≤ s1
      · go_wp2_with fail
        refine (iStep_off cg cv _ last s1 false _ HC.out (by omega) (.inl h6)).mono ?_; rintro e w1 ⟨rfl, hb1, hg1⟩
        have HF := Lib.hid (show IPost cg cv (.slice A nr cr) last (fun s' b => RuleRun rs last a k v l s s' b) w (.returned (.tuple #[])) w1 from ⟨rfl, s1 + 1, false, HT.out _ _ (.over h6), hb1, HG.out.trans hg1⟩)
        clear hb1 hg1
        go_wp2
        go_end0
        exact HF.out
      · have hs7 : s1 < 6000 := by omega
        go_wp2_with fail
        refine (iStep_on cg cv _ last s1 _ HC.out hs7).mono ?_; rintro e w1 ⟨rfl, hb1, hg1⟩
        have hP1 := HP.out.grown hg1 (by simp; omega); have hS1 := HS.out.grown hg1 (by simp; omega)
        have p0 := (show _ = some (Value.pointer (some ⟨cg, 0, none⟩)) from hP1.cell 0)
        have q0 := (show _ = some (Value.int .i64 (a1 : Int)) from hS1.cell 0); have q1 := (show _ = some (Value.int .i64 (k1 : Int)) from hS1.cell 1); have q2 := (show _ = some (Value.int .i64 v) from hS1.cell 2)
        have c1 := (show _ = some (Value.slice A nr cr) from hb1.cell 1); have c2 := (show _ = some (Value.int .i64 last) from hb1.cell 2); have c4 := (show _ = some (Value.bool false) from hb1.cell 4); have cf4 := hb1.frozen 4
        have HB1 := Lib.hid hb1; have HP1 := Lib.hid hP1; have HS1 := Lib.hid hS1; have HG1 := Lib.hid (HG.out.trans hg1)
        have hz1 := hg1.size
        have hk2 : ∀ (n : Nat) (u : Value), ((w1.drewN n).setCell ⟨cg, 4, none⟩ u).cell? ⟨cg, 2, none⟩ = some (.int .i64 last) := fun n u => ((HB1.out.drewN n).set_ 4 u).cell 2
        have hcl1 : cg < w1.heap.size := by omega
        have hp1 : w.heap.size < w1.heap.size := by omega
        have hsl1 : w.heap.size + 1 < w1.heap.size := by omega
        have hn1 : ¬ w.heap.size = cg := by omega
        have hn2 : ¬ cg = w.heap.size := by omega
        have hn3 : ¬ w.heap.size + 1 = cg := by omega
        have hn4 : ¬ cg = w.heap.size + 1 := by omega
        clear hb1 hP1 hS1 hg1 h6 HC HP HS
        by_cases hal : a1 = nr
        · have hd : ((a1 : Int) == (nr : Int)) = true := by simp [hal]
          have HA := Lib.hid (show rs.length ≤ a1 by rw [← HNR.out]; omega)
          clear hal
          go_wp2
          go_quiet ((fail))
          go_wp2
          by_cases hv : v = last
          · have HD := Lib.hid (show decide (v = last) = true by simp [hv])
            have hne : (last != v) = false := by simp [hv]
            clear hv
            go_region_held3 (fun w' => w'.cell? ⟨w.heap.size, 0, none⟩ = some (.pointer (some ⟨cg, 0, none⟩)) ∧ w'.cell? ⟨cg, 2, none⟩ = some (.int .i64 last) ∧ w'.cell? ⟨w.heap.size + 1, 2, none⟩ = some (.int .i64 v)) (go_keep) (fail)
            go_wp2
            go_end0
            exact ⟨rfl, s1 + 1, true, HT.out _ _ (by have := RuleRun.done (rs := rs) (last := last) (k := k1) (v := v) (l := l) hs7 HA.out; rw [HD.out] at this; exact this), HB1.out.set_ 4 (.bool false), (HG1.out.trans (grown_of_below (kDrew _ _ _) _)).trans (grown_set _ _ _ _)⟩
          · have HD := Lib.hid (show decide (v = last) = false by simp [hv])
            have hne : (last != v) = true := by simp; exact fun e => hv e.symm
            clear hv
            go_region_held3 (fun w' => w'.cell? ⟨w.heap.size, 0, none⟩ = some (.pointer (some ⟨cg, 0, none⟩)) ∧ w'.cell? ⟨cg, 2, none⟩ = some (.int .i64 last) ∧ w'.cell? ⟨w.heap.size + 1, 2, none⟩ = some (.int .i64 v)) (go_keep) (fail)
            go_wp2
            go_end0
            exact ⟨rfl, s1 + 1, false, HT.out _ _ (by have := RuleRun.done (rs := rs) (last := last) (k := k1) (v := v) (l := l) hs7 HA.out; rw [HD.out] at this; exact this), HB1.out.set_ 4 (.bool true), (HG1.out.trans (grown_of_below (kDrew _ _ _) _)).trans (grown_set _ _ _ _)⟩
        · have hd : ((a1 : Int) == (nr : Int)) = false := by simp; omega
          have han : a1 < nr := by have := HNR.out; omega
          clear hal
          obtain ⟨r, hr⟩ : ∃ r, rs[a1]? = some r := ⟨_, List.getElem?_eq_getElem (by rw [← HNR.out]; exact han)⟩
          have hrw := HRW.out r (List.mem_of_getElem? hr)
          obtain ⟨rb, roff, n', c', A2, n2, c2', nb, e, -, -, -, hbl, hbn, hnb, r0, r1, r2⟩ := ckN_get (HR.out.grown HG1.out) hr
          obtain ⟨rfl, rfl, rfl⟩ : A = some ⟨rb, roff, none⟩ ∧ nr = n' ∧ cr = c' := by simpa using e
          have HRR := Lib.hid hr; have HRWr := Lib.hid hrw; have HNB := Lib.hid hnb
          clear e hr hrw hnb hk2
          go_wp2
          go_quiet ((fail))
          rename_i nq
          go_wp2
          obtain ⟨V, hV⟩ : ∃ V, V = w1.drewN nq := ⟨_, rfl⟩
          rw [← hV]
          have hbV : Below w1.heap.size w1 V := by rw [hV]; exact kDrew _ _ _
          have hzV : V.heap.size = w1.heap.size := by rw [hV]; rfl
          have HV := Lib.hid hV; have HZV := Lib.hid hzV
          have p0 := (show V.cell? ⟨w.heap.size, 0, none⟩ = _ from (hbV.cell (p := ⟨w.heap.size, 0, none⟩) hp1).trans p0); have c1 := (show V.cell? ⟨cg, 1, none⟩ = _ from (hbV.cell (p := ⟨cg, 1, none⟩) hcl1).trans c1); have q0 := (show V.cell? ⟨w.heap.size + 1, 0, none⟩ = _ from (hbV.cell (p := ⟨w.heap.size + 1, 0, none⟩) hsl1).trans q0)
          have r0 := (show V.cell? ⟨rb, roff + a1 * 3, none⟩ = _ from (hbV.cell (p := ⟨rb, roff + a1 * 3, none⟩) hbl).trans r0); have r1 := (show V.cell? ⟨rb, roff + a1 * 3 + 1, none⟩ = _ from (hbV.cell (p := ⟨rb, roff + a1 * 3 + 1, none⟩) hbl).trans r1); have r2 := (show V.cell? ⟨rb, roff + a1 * 3 + 2, none⟩ = _ from (hbV.cell (p := ⟨rb, roff + a1 * 3 + 2, none⟩) hbl).trans r2)
          have nw1 := World.new_ne V _ p0; have nw2 := World.new_ne V _ c1; have nw3 := World.new_ne V _ q0; have nw4 := World.new_ne V _ r0; have nw5 := World.new_ne V _ r1; have nw6 := World.new_ne V _ r2
          have HB2 := Lib.hid (HB1.out.same hbV); have HP2 := Lib.hid (HP1.out.same hbV); have HS2 := Lib.hid (HS1.out.same hbV); have HG2 := Lib.hid (HG1.out.trans (grown_of_below hbV _))
          clear hV hzV hbV HB1 HP1 HS1
          go_region_held3 (fun w' => w'.cell? ⟨w.heap.size, 0, none⟩ = some (.pointer (some ⟨cg, 0, none⟩)) ∧ w'.cell? ⟨cg, 1, none⟩ = some (.slice (some ⟨rb, roff, none⟩) nr cr) ∧ w'.cell? ⟨w.heap.size + 1, 0, none⟩ = some (.int .i64 (a1 : Int)) ∧ w'.cell? ⟨rb, roff + a1 * 3, none⟩ = some (.slice A2 n2 c2') ∧ w'.cell? ⟨rb, roff + a1 * 3 + 1, none⟩ = some (.int .i64 r.verdict) ∧ w'.cell? ⟨rb, roff + a1 * 3 + 2, none⟩ = some (.bool nb)) (go_keep) (fail)
          obtain ⟨Z, hZ⟩ : ∃ Z, Z = (V.alloc (.cells #[.slice A2 n2 c2', .int .i64 r.verdict, .bool nb] 153)).drew := ⟨_, rfl⟩
          have hbZ : Below V.heap.size V Z := by rw [hZ]; go_grown
          have hzZ : Z.heap.size = V.heap.size + 1 := by rw [hZ]; simp
          have bZ : Blk Z V.heap.size 153 #[.slice A2 n2 c2', .int .i64 r.verdict, .bool nb] := by rw [hZ]; exact (Blk.new V _ _).drew
          have HZ := Lib.hid hZ
          have hvz := HZV.out
          have i1 : cg < Z.heap.size := by omega
          have i2 : w.heap.size < Z.heap.size := by omega
          have i3 : w.heap.size + 1 < Z.heap.size := by omega
          have i4 : V.heap.size < Z.heap.size := by omega
          have i5 : ¬ V.heap.size = cg := by omega
          have i6 : ¬ V.heap.size = w.heap.size + 1 := by omega
          have BZ := HB2.out.same hbZ; have PZ := HP2.out.same hbZ; have SZ := HS2.out.same hbZ
          have p0 := (show Z.cell? ⟨w.heap.size, 0, none⟩ = some (.pointer (some ⟨cg, 0, none⟩)) from PZ.cell 0)
          have q0 := (show Z.cell? ⟨w.heap.size + 1, 0, none⟩ = some (.int .i64 (a1 : Int)) from SZ.cell 0); have q1 := (show Z.cell? ⟨w.heap.size + 1, 1, none⟩ = some (.int .i64 (k1 : Int)) from SZ.cell 1); have q2 := (show Z.cell? ⟨w.heap.size + 1, 2, none⟩ = some (.int .i64 v) from SZ.cell 2)
          have t0 := (show Z.cell? ⟨V.heap.size, 0, none⟩ = some (.slice A2 n2 c2') from bZ.cell 0); have t1 := (show Z.cell? ⟨V.heap.size, 1, none⟩ = some (.int .i64 r.verdict) from bZ.cell 1); have t2 := (show Z.cell? ⟨V.heap.size, 2, none⟩ = some (.bool nb) from bZ.cell 2)
          have c4 := (show Z.cell? ⟨cg, 4, none⟩ = some (.bool false) from BZ.cell 4); have cf4 := BZ.frozen 4
          have sf0 := SZ.frozen 0; have sf1 := SZ.frozen 1; have sf2 := SZ.frozen 2
          have HBZ := Lib.hid BZ; have HPZ := Lib.hid PZ; have HSZ := Lib.hid SZ; have HGZ := Lib.hid (HG2.out.trans (grown_of_below hbZ _)); have HG1Z := Lib.hid ((grown_of_below (show Below w1.heap.size w1 V by rw [HV.out]; exact kDrew _ _ _) (some cg)).trans (grown_of_below hbZ _))
          rw [← hZ]
          clear hZ hbZ hzZ bZ BZ PZ SZ r0 r1 r2 c1 c2 nw1 nw2 nw3 nw4 nw5 nw6 hvz
          rcases HNB.out with ⟨rfl, hnev⟩ | ⟨rfl, hnev, hlk⟩
          · have HNV := Lib.hid hnev
            clear hnev
            go_wp2
            go_roundg (rs.length - (a1 + 1))
            case measure => have h1 := HGK.out; have h2 := HNR.out; omega
            case rel => exact ⟨s1 + 1, a1 + 1, 0, rfl, by omega, by omega, by have := HNR.out; omega, by omega, Lib.hid (fun r' _ => Nat.zero_le _), Lib.hid (((HBZ.out.far (p := ⟨w.heap.size + 1, 0, none⟩) hn4 _).far (p := ⟨w.heap.size + 1, 1, none⟩) hn4 _).far (p := ⟨w.heap.size + 1, 2, none⟩) hn4 _), Lib.hid (((HPZ.out.far (p := ⟨w.heap.size + 1, 0, none⟩) (by simp) _).far (p := ⟨w.heap.size + 1, 1, none⟩) (by simp) _).far (p := ⟨w.heap.size + 1, 2, none⟩) (by simp) _), Lib.hid (((HSZ.out.set_ 0 (.int .i64 ((a1 : Int) + 1))).set_ 1 (.int .i64 0)).set_ 2 (.int .i64 v)), Lib.hid (grown_new (grown_new (grown_new HGZ.out (by omega) _) (by omega) _) (by omega) _), Lib.hid (fun t b h => HT.out t b (.never hs7 HRR.out HNV.out h))⟩
          · have HNV := Lib.hid hnev
            have hlz := hlk.grown HG1Z.out
            obtain ⟨A', n', c'', e, hA, hne⟩ := hlz
            obtain ⟨rfl, rfl, rfl⟩ : A2 = A' ∧ n2 = n' ∧ c2' = c'' := by simpa using e
            have hn2 : (looksOf r).length = n2 := by have := hA.len; rwa [knR_len] at this
            have hlen2 := looksOf_len HRWr.out
            have hkn := HKL.out r HRR.out
            rw [hn2] at hkn hlen2
            have hac := hA.cap
            have ham := hA.max
            unfold maxLen at ham
            have HN2 := Lib.hid hn2
            clear hnev hlk e hn2
            by_cases hk2 : k1 = n2
            · have hd2 : ((k1 : Int) == (n2 : Int)) = true := by simp [hk2]
              have HLE := Lib.hid (show (looksOf r).length ≤ k1 by rw [HN2.out]; omega)
              clear hk2 hA hne
              by_cases hv : v = r.verdict
              · have HD := Lib.hid (show decide (v = r.verdict) = true by simp [hv])
                have hne : (r.verdict != v) = false := by simp [hv]
                clear hv
                go_wp2
                go_end0
                exact ⟨rfl, s1 + 1, true, HT.out _ _ (by have := RuleRun.fits (rs := rs) (last := last) (k := k1) (v := v) (l := l) hs7 HRR.out HNV.out HLE.out; rw [HD.out] at this; exact this), HBZ.out.set_ 4 (.bool false), HGZ.out.trans (grown_set _ _ _ _)⟩
              · have HD := Lib.hid (show decide (v = r.verdict) = false by simp [hv])
                have hne : (r.verdict != v) = true := by simp; exact fun e => hv e.symm
                clear hv
                go_wp2
                go_end0
                exact ⟨rfl, s1 + 1, false, HT.out _ _ (by have := RuleRun.fits (rs := rs) (last := last) (k := k1) (v := v) (l := l) hs7 HRR.out HNV.out HLE.out; rw [HD.out] at this; exact this), HBZ.out.set_ 4 (.bool true), HGZ.out.trans (grown_set _ _ _ _)⟩
            · have hd2 : ((k1 : Int) == (n2 : Int)) = false := by simp; omega
              have hkl2 : k1 < n2 := by omega
              obtain ⟨xb, xo, ⟨⟨qf, qm, qo, qv⟩, m⟩, rfl, hxb, hq, hxc⟩ := kn_get (cg := 0) hA hkl2
              obtain ⟨x0, x1, x2, x3, x4⟩ := hxc Z _ (Below.refl _ _) hxb
              simp only at x0 x1 x2 x3 x4
              have hlw := looksOf_word HRWr.out _ (List.mem_of_getElem? hq)
              simp only at hlw
              have hbW : Below Z.heap.size Z (Z.alloc (.cells #[.int .i64 qf, .int .i64 qm, .int .i64 qo, .int .i64 qv, .bool m] 213)) := by go_grown
              have hbW2 := Blk.new Z 213 #[.int .i64 qf, .int .i64 qm, .int .i64 qo, .int .i64 qv, .bool m]
              have h9 := iBothRule_of cg cv (.slice (some ⟨rb, roff, none⟩) nr cr) last rs n HI.out s1 a1 k1 v l kv (Z.alloc (.cells #[.int .i64 qf, .int .i64 qm, .int .i64 qo, .int .i64 qv, .bool m] 213)) r ⟨qf, qm, qo, qv⟩ m Z.heap.size w.heap.size hrl (by omega) hs7 HRR.out HNV.out hq (by have := HNR.out; omega) (by omega) hlw.1 (hlw.2 HNV.out) (HBZ.out.same hbW) (HR.out.grown (HGZ.out.trans (grown_of_below hbW _))) (HK.out.grown (HGZ.out.trans (grown_of_below hbW _))) HKW.out HO.out hbW2 (HPZ.out.same hbW) (by omega) hn1
              have H9 := Lib.hid h9; have HBW := Lib.hid hbW
              clear h9 hbW hbW2 hq hxc hlw hA hne hk2
              go_wp2_with fail
              refine H9.out.mono ?_; rintro e w3 ⟨rfl, s', b', hrun, hb3, hg3⟩
              have HF := Lib.hid (show IPost cg cv (.slice (some ⟨rb, roff, none⟩) nr cr) last (fun s' b => RuleRun rs last a k v l s s' b) w (.returned (.tuple #[])) w3 from ⟨rfl, s', b', HT.out _ _ hrun, hb3, (HGZ.out.trans (grown_of_below HBW.out _)).trans hg3⟩)
              clear hrun hb3 hg3
              go_wp2
              go_end0
              exact HF.out
end
end Go.Proofs.YtnlhnnidbppciaaGreatDoor
