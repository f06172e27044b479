/- impl's check in a program: from place to place. -/
import Derived.Test.YtnlhnnidbppciaaGreatDoorChkI6
namespace Go.Proofs.YtnlhnnidbppciaaGreatDoor
open Go.RowKit
set_option linter.unusedSimpArgs false
set_option linter.unusedVariables false

section
variable (cg : Nat) (cv rv : Value) (last : Int) (rs : List Rl) (g : List In4)
set_option maxRecDepth 100000 in
set_option maxHeartbeats 8000000 in
theorem iPlace_any (hg : waysOk g) (hrw : ∀ r ∈ rs, RlW r) (hrl : rs.length ≤ 1000) : ∀ n, PlaceIH cg cv rv last rs g n := by
  intro n
  induction n with
  | zero =>
    intro s a f m l kv w hn hs ha hC hV hR hK hKW hO
    exact (iPlace_off cg cv rv last s a f m kv false w hC (by omega) (.inl (by omega))).mono fun e w' ⟨h1, s', b, ⟨h2, h3⟩, h4, h5⟩ => ⟨h1, s', b, by rw [h2, h3]; exact .over (by omega), by rw [h3]; rw [h3] at h4; exact h4, h5⟩
  | succ n ih =>
    intro s a f m l kv w hn hs ha hC hV hR hK hKW hO
    have hcg := hC.lt
    have hgl := hg.2.1
    obtain ⟨VA, gn, gc, rfl, hSA0, hne0⟩ := id hV
    have hgn : g.length = gn := by have := hSA0.len; rwa [insR_len] at this
    have hgc := hSA0.cap
    have hgm := hSA0.max
    unfold maxLen at hgm
    obtain ⟨cb, coff, x00, rfl, hcb, -, -⟩ := ins_get hSA0 (k := 0) (by have := hg.1; omega)
    have hcn := hne0 (by have := hg.1; omega) cb coff rfl
    have HGN := Lib.hid hgn
    have HI := Lib.hid ih; have HV := Lib.hid hV; have HR := Lib.hid hR; have HK := Lib.hid hK; have HKW := Lib.hid hKW; have HO := Lib.hid hO; have HRW := Lib.hid hrw; have HG := Lib.hid hg
    obtain ⟨X, hX⟩ : ∃ X, X = w.alloc (.cells #[.int .i64 (a : Int), .int .i64 f, .int .i64 m] 157) := ⟨_, rfl⟩
    have hbX : Below w.heap.size w X := by rw [hX]; go_grown
    have hzX : X.heap.size = w.heap.size + 1 := by rw [hX]; simp
    have bS : Blk X w.heap.size 157 #[.int .i64 (a : Int), .int .i64 f, .int .i64 m] := by rw [hX]; exact Blk.new w _ _
    have HX := Lib.hid hX; have HBS := Lib.hid bS; have HZX := Lib.hid hzX; have HCX := Lib.hid (hC.same hbX); have HGX := Lib.hid (grown_of_below hbX (some cg))
    clear ih hC hV hR hK hKW hO hrw hg hgn hX bS hzX hbX hSA0 hne0
    go_enter Tryz.func116, Tryz.ntmps116
    go_wp2_with fail
    rw [← HX.out]
    go_loopg [] (6001 - s) (fun gk wr => ∃ (s1 a1 : Nat) (f1 m1 : Int), gk = 6001 - s1 ∧ s ≤ s1 ∧ s1 ≤ 6000 ∧ a1 < g.length ∧ Hid (Blk wr cg 91 #[.slice (some ⟨cb, coff, none⟩) gn gc, rv, .int .i64 last, .int .i64 (s1 : Int), .bool false]) ∧ Hid (Blk wr w.heap.size 157 #[.int .i64 (a1 : Int), .int .i64 f1, .int .i64 m1]) ∧ Hid (w.grownBy wr (some cg)) ∧ Hid (∀ t b, WayRun g rs last a1 f1 m1 l s1 t b → WayRun g rs last a f m l s t b))
    case atStart => exact ⟨s, a, f, m, rfl, Nat.le_refl _, hs, ha, HCX, HBS, HGX, Lib.hid (fun t b h => h)⟩
    case round =>
      clear HCX HBS HGX HX HZX ha
      obtain ⟨s1, a1, f1, m1, hgk, hs1, hs16, ha1, HC, HS, HG1, HT⟩ := hrel
      have HGK := Lib.hid hgk
      clear hgk
      have hsl := HS.out.lt; have hcl := HC.out.lt
      by_cases h6 : 6000 ≤ s1
      · go_wp2_with fail
        refine (iStep_off cg _ rv last s1 false _ HC.out (by omega) (.inl h6)).mono ?_; rintro e w1 ⟨rfl, hb1, hg1⟩
        have HF := Lib.hid (show IPost cg (.slice (some ⟨cb, coff, none⟩) gn gc) rv last (fun s' b => WayRun g rs last a f m l s s' b) w (.returned (.tuple #[])) w1 from ⟨rfl, s1 + 1, false, HT.out _ _ (.over h6), hb1, HG1.out.trans hg1⟩)
        clear hb1 hg1
        go_wp2
        go_end0
        exact HF.out
      · have hs7 : s1 < 6000 := by omega
        obtain ⟨x, hx⟩ : ∃ x, g[a1]? = some x := ⟨_, List.getElem?_eq_getElem ha1⟩
        obtain ⟨kn, yn, nn, hxe, hkn, hyn, hnn, hag, hop1, h12, h34, h5⟩ := place_at HG.out hx
        obtain ⟨op, k, yes, no⟩ := x
        simp only [In4.mk.injEq, true_and] at hxe
        obtain ⟨rfl, rfl, rfl⟩ := hxe
        simp only at hop1 h12 h34 h5
        go_wp2_with fail
        refine (iStep_on cg _ rv last s1 _ HC.out hs7).mono ?_; rintro e w1 ⟨rfl, hb1, hg1⟩
        have hS1 := HS.out.grown hg1 (by simp; omega)
        have hgw1 := HG1.out.trans hg1
        obtain ⟨VA', gn', gc', e9, hSA, hne⟩ := HV.out.grown hgw1
        obtain ⟨rfl, rfl, rfl⟩ : some (⟨cb, coff, none⟩ : Addr) = VA' ∧ gn = gn' ∧ gc = gc' := by simpa using e9
        obtain ⟨cb', coff', x', e8, hcb1, hx', hcell⟩ := ins_get hSA (k := a1) (by have := HGN.out; omega)
        obtain ⟨rfl, rfl⟩ : cb = cb' ∧ coff = coff' := by simpa using e8
        rw [hx] at hx'
        obtain rfl := Option.some.inj hx'
        obtain ⟨r0, r1, r2, r3⟩ := hcell w1 _ (Below.refl _ _) hcb1
        simp only at r0 r1 r2 r3
        have c0 := (show w1.cell? ⟨cg, 0, none⟩ = some (Value.slice (some ⟨cb, coff, none⟩) gn gc) from hb1.cell 0)
        have q0 := (show w1.cell? ⟨w.heap.size, 0, none⟩ = some (Value.int .i64 (a1 : Int)) from hS1.cell 0)
        have nw1 := World.new_ne w1 _ c0; have nw2 := World.new_ne w1 _ q0; have nw3 := World.new_ne w1 _ r0; have nw4 := World.new_ne w1 _ r1; have nw5 := World.new_ne w1 _ r2; have nw6 := World.new_ne w1 _ r3
        have hz1 := hg1.size
        have HB1 := Lib.hid hb1; have HS1 := Lib.hid hS1; have HGW := Lib.hid hgw1; have HXX := Lib.hid hx
        have H12 := Lib.hid h12; have H34 := Lib.hid h34; have H5 := Lib.hid h5; have HOP := Lib.hid hop1
        have han : a1 < gn := by have := HGN.out; omega
        clear hb1 hS1 hg1 hgw1 e9 hSA hne e8 hx' hx hcell h12 h34 h5 hop1 h6 HC HS
        go_wp2
        go_region_held3 (fun w' => w'.cell? ⟨cg, 0, none⟩ = some (.slice (some ⟨cb, coff, none⟩) gn gc) ∧ w'.cell? ⟨w.heap.size, 0, none⟩ = some (.int .i64 (a1 : Int)) ∧ w'.cell? ⟨cb, coff + a1 * 4, none⟩ = some (.int .i64 op) ∧ w'.cell? ⟨cb, coff + a1 * 4 + 1, none⟩ = some (.int .i64 (kn : Int)) ∧ w'.cell? ⟨cb, coff + a1 * 4 + 2, none⟩ = some (.int .i64 (yn : Int)) ∧ w'.cell? ⟨cb, coff + a1 * 4 + 3, none⟩ = some (.int .i64 (nn : Int))) (go_keep) (fail)
        obtain ⟨Z, hZ⟩ : ∃ Z, Z = (w1.alloc (.cells #[.int .i64 op, .int .i64 (kn : Int), .int .i64 (yn : Int), .int .i64 (nn : Int)] 72)).drew := ⟨_, rfl⟩
        have hbZ : Below w1.heap.size w1 Z := by rw [hZ]; go_grown
        have hzZ : Z.heap.size = w1.heap.size + 1 := by rw [hZ]; simp
        have bZ : Blk Z w1.heap.size 72 #[.int .i64 op, .int .i64 (kn : Int), .int .i64 (yn : Int), .int .i64 (nn : Int)] := by rw [hZ]; exact (Blk.new w1 _ _).drew
        have i1 : cg < Z.heap.size := by omega
        have i2 : w.heap.size < Z.heap.size := by omega
        have i4 : w1.heap.size < Z.heap.size := by omega
        have i5 : ¬ w1.heap.size = cg := by omega
        have i6 : ¬ w1.heap.size = w.heap.size := by omega
        have i7 : ¬ w.heap.size = cg := by omega
        have i8 : ¬ cg = w.heap.size := by omega
        have i9 : ¬ w.heap.size = w1.heap.size := by omega
        have BZ := HB1.out.same hbZ; have SZ := HS1.out.same hbZ
        have q0 := (show Z.cell? ⟨w.heap.size, 0, none⟩ = some (.int .i64 (a1 : Int)) from SZ.cell 0); have q1 := (show Z.cell? ⟨w.heap.size, 1, none⟩ = some (.int .i64 f1) from SZ.cell 1); have q2 := (show Z.cell? ⟨w.heap.size, 2, none⟩ = some (.int .i64 m1) from SZ.cell 2)
        have t0 := (show Z.cell? ⟨w1.heap.size, 0, none⟩ = some (.int .i64 op) from bZ.cell 0); have t1 := (show Z.cell? ⟨w1.heap.size, 1, none⟩ = some (.int .i64 (kn : Int)) from bZ.cell 1); have t2 := (show Z.cell? ⟨w1.heap.size, 2, none⟩ = some (.int .i64 (yn : Int)) from bZ.cell 2); have t3 := (show Z.cell? ⟨w1.heap.size, 3, none⟩ = some (.int .i64 (nn : Int)) from bZ.cell 3)
        have sf0 := SZ.frozen 0; have sf1 := SZ.frozen 1; have sf2 := SZ.frozen 2
        have HBZ := Lib.hid BZ; have HSZ := Lib.hid SZ; have HGZ := Lib.hid (HGW.out.trans (grown_of_below hbZ _))
        rw [← hZ]
        clear hZ hbZ hzZ bZ BZ SZ r0 r1 r2 r3 c0 nw1 nw2 nw3 nw4 nw5 nw6
        have hset : ∀ (u0 u1 u2 : Value), Blk (((Z.setCell ⟨w.heap.size, 0, none⟩ u0).setCell ⟨w.heap.size, 1, none⟩ u1).setCell ⟨w.heap.size, 2, none⟩ u2) cg 91 #[.slice (some ⟨cb, coff, none⟩) gn gc, rv, .int .i64 last, .int .i64 ((s1 + 1 : Nat) : Int), .bool false] ∧ w.grownBy (((Z.setCell ⟨w.heap.size, 0, none⟩ u0).setCell ⟨w.heap.size, 1, none⟩ u1).setCell ⟨w.heap.size, 2, none⟩ u2) (some cg) ∧ Blk (((Z.setCell ⟨w.heap.size, 0, none⟩ u0).setCell ⟨w.heap.size, 1, none⟩ u1).setCell ⟨w.heap.size, 2, none⟩ u2) w.heap.size 157 #[u0, u1, u2] := fun u0 u1 u2 =>
          ⟨((HBZ.out.far (p := ⟨w.heap.size, 0, none⟩) i8 _).far (p := ⟨w.heap.size, 1, none⟩) i8 _).far (p := ⟨w.heap.size, 2, none⟩) i8 _, grown_new (grown_new (grown_new HGZ.out (Nat.le_refl _) _) (Nat.le_refl _) _) (Nat.le_refl _) _, ((HSZ.out.set_ 0 u0).set_ 1 u1).set_ 2 u2⟩
        have HSET := Lib.hid hset
        clear hset
        by_cases o1 : op = 1
        · subst o1
          go_wp2
          go_roundg (6001 - (s1 + 1))
          case measure => have := HGK.out; omega
          case rel => exact ⟨s1 + 1, a1 + 1, (kn : Int), 4294967295, rfl, by omega, by omega, H12.out (by simp), Lib.hid (HSET.out _ _ _).1, Lib.hid (HSET.out (.int .i64 ((a1 : Int) + 1)) _ _).2.2, Lib.hid (HSET.out _ _ _).2.1, Lib.hid (fun t b h => HT.out t b (.load hs7 HXX.out rfl h))⟩
        · by_cases o2 : op = 2
          · subst o2
            go_wp2
            go_roundg (6001 - (s1 + 1))
            case measure => have := HGK.out; omega
            case rel => exact ⟨s1 + 1, a1 + 1, f1, _, rfl, by omega, by omega, H12.out (by simp), Lib.hid (HSET.out _ _ _).1, Lib.hid (HSET.out (.int .i64 ((a1 : Int) + 1)) _ _).2.2, Lib.hid (HSET.out _ _ _).2.1, Lib.hid (fun t b h => HT.out t b (.mask hs7 HXX.out rfl h))⟩
          · by_cases o5 : op = 5
            · subst o5
              have he : a1 + (1 + kn) = a1 + 1 + kn := by omega
              have HEE := Lib.hid he
              clear he
              go_wp2
              go_roundg (6001 - (s1 + 1))
              case measure => have := HGK.out; omega
              case rel => exact ⟨s1 + 1, a1 + (1 + kn), f1, m1, rfl, by omega, by omega, by have := H5.out (by simp); have := HEE.out; omega, Lib.hid (HBZ.out.far (p := ⟨w.heap.size, 0, none⟩) i8 _), Lib.hid (HSZ.out.set_ 0 (.int .i64 ((a1 : Int) + (1 + (kn : Int))))), Lib.hid (grown_new HGZ.out (Nat.le_refl _) _), Lib.hid (fun t b h => HT.out t b (.jump hs7 HXX.out rfl (by have := h; rw [HEE.out] at this; exact this)))⟩
            · by_cases o6 : op = 6
              · subst o6
                have h9 : Calls Tryz.prog 167 #[.pointer (some ⟨cg, 0, none⟩), .agg #[.int .i64 0, .int .i64 0, .int .i64 (kn : Int)], kv] Z (IPost cg (.slice (some ⟨cb, coff, none⟩) gn gc) rv last (fun s' b => RuleRun rs last 0 0 (kn : Int) l (s1 + 1) s' b) Z) := iRule_any cg (.slice (some ⟨cb, coff, none⟩) gn gc) last rs rv HRW.out hrl n (s1 + 1) 0 0 (kn : Int) l kv Z (by omega) (by omega) (by omega) (by omega) (fun r _ => Nat.zero_le _) HBZ.out (HR.out.grown HGZ.out) (HK.out.grown HGZ.out) HKW.out HO.out
                have H9 := Lib.hid h9
                clear h9
                go_wp2_with fail
                refine H9.out.mono ?_; rintro e w3 ⟨rfl, s', b', hrun, hb3, hg3⟩
                have HF := Lib.hid (show IPost cg (.slice (some ⟨cb, coff, none⟩) gn gc) rv last (fun s' b => WayRun g rs last a f m l s s' b) w (.returned (.tuple #[])) w3 from ⟨rfl, s', b', HT.out _ _ (.end_ hs7 HXX.out rfl hrun), hb3, HGZ.out.trans hg3⟩)
                clear hrun hb3 hg3
                go_wp2
                go_end0
                exact HF.out
              · have o34 : op = 3 ∨ op = 4 := by have := HOP.out; omega
                have h9 := iBranch_of cg (.slice (some ⟨cb, coff, none⟩) gn gc) rv last rs g HG.out n HI.out s1 a1 f1 m1 l kv Z ⟨op, (kn : Int), (yn : Int), (nn : Int)⟩ (by omega) hs7 HXX.out o34 HBZ.out (HV.out.grown HGZ.out) (HR.out.grown HGZ.out) (HK.out.grown HGZ.out) HKW.out HO.out
                clear o34
                have H9 := Lib.hid h9
                clear h9
                go_wp2_with fail
                refine H9.out.mono ?_; rintro e w3 ⟨rfl, s', b', hrun, hb3, hg3⟩
                have HF := Lib.hid (show IPost cg (.slice (some ⟨cb, coff, none⟩) gn gc) rv last (fun s' b => WayRun g rs last a f m l s s' b) w (.returned (.tuple #[])) w3 from ⟨rfl, s', b', HT.out _ _ (hrun), hb3, HGZ.out.trans hg3⟩)
                clear hrun hb3 hg3
                go_wp2
                go_end0
                exact HF.out
end
end Go.Proofs.YtnlhnnidbppciaaGreatDoor
