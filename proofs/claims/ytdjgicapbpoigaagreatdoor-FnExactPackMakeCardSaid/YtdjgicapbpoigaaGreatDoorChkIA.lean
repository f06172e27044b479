/- Joined texts: ChkI ChkI2 ChkI3 ChkI4 ChkI5. -/
import Derived.Test.YtdjgicapbpoigaaGreatDoorChkSA
import Derived.Deep.LoopGhost
import Derived.Laws.StructEq
import Derived.Deep.RegionHeld3
namespace Go.Proofs.YtdjgicapbpoigaaGreatDoor
open Go.RowKit
set_option linter.unusedSimpArgs false
set_option linter.unusedVariables false

def KnI (cg : Nat) (w : World) : Value → List (Lk × Bool) → Prop
 | v, [] => v = .pointer none
 | v, x :: l => ∃ b u, v = .pointer (some ⟨b, 0, none⟩) ∧ b ≠ cg ∧ Blk w b 258 #[.int .i64 x.1.field, .int .i64 x.1.mask, .int .i64 x.1.op, .int .i64 x.1.value, .bool x.2, u] ∧ KnI cg w u l
theorem KnI.grown {cg : Nat} {w w' : World} : ∀ {l : List (Lk × Bool)} {v : Value}, KnI cg w v l → w.grownBy w' (some cg) → KnI cg w' v l
 | [], _, h, _ => h
 | x :: l, v, ⟨b, u, e, hb, hk, hr⟩, hg => ⟨b, u, e, hb, hk.grown hg (fun e => hb (Option.some.inj e)), KnI.grown hr hg⟩
theorem KnI.below {cg : Nat} {w w' : World} {l : List (Lk × Bool)} {v : Value} (h : KnI cg w v l) (hb : Below w.heap.size w w') : KnI cg w' v l := h.grown (grown_of_below hb _)
theorem kDrew (B : Nat) (w : World) (n : Nat) : Below B w (w.drewN n) := ⟨rfl, rfl, rfl, Nat.le_refl _, fun _ _ => rfl⟩
theorem look_eq (xf xm xo xv qf qm qo qv : Int) (W : World) : (Op.equalIn 10000 190 (.agg #[.int .i64 xf, .int .i64 xm, .int .i64 xo, .int .i64 xv]) (.agg #[.int .i64 qf, .int .i64 qm, .int .i64 qo, .int .i64 qv])).run Tryz.prog W = .ok (decide (LkSame ⟨xf, xm, xo, xv⟩ ⟨qf, qm, qo, qv⟩)) W := by
 rw [run_equalIn_agg (d := 9999) (ht := by kernel_rfl) (hp := by kernel_rfl)]
 have hi := Tryz.underlying3
 simp [Program.fieldsOf, Tryz.underlying190, Op.eqFields, go_sem, hi]
 simp only [LkSame]
 by_cases h1 : xf = qf <;> by_cases h2 : xm = qm <;> by_cases h3 : xo = qo <;> by_cases h4 : xv = qv <;> simp [h1, h2, h3, h4]

theorem room_cons {suf : List (Lk × Bool)} {q : Lk} {f m o v zl zh za : Int} {h fb : Bool} (hn : ¬ LkSame ⟨f, m, o, v⟩ q) (hs : seen suf q = none ∧ lowOf suf q = zl ∧ highOf suf q = zh ∧ oneOf suf q = if fb then some za else none) :
   ((f ≠ q.field ∨ m ≠ q.mask ∨ (o = 1 ∧ h = false) ∨ (o ≠ 1 ∧ o ≠ 3)) → seen ((⟨f, m, o, v⟩, h) :: suf) q = none ∧ lowOf ((⟨f, m, o, v⟩, h) :: suf) q = zl ∧ highOf ((⟨f, m, o, v⟩, h) :: suf) q = zh ∧ oneOf ((⟨f, m, o, v⟩, h) :: suf) q = if fb then some za else none) ∧
   (f = q.field → m = q.mask → o = 1 → h = true → seen ((⟨f, m, o, v⟩, h) :: suf) q = none ∧ lowOf ((⟨f, m, o, v⟩, h) :: suf) q = zl ∧ highOf ((⟨f, m, o, v⟩, h) :: suf) q = zh ∧ oneOf ((⟨f, m, o, v⟩, h) :: suf) q = if true then some v else none) ∧
   (f = q.field → m = q.mask → o = 3 → h = true → seen ((⟨f, m, o, v⟩, h) :: suf) q = none ∧ lowOf ((⟨f, m, o, v⟩, h) :: suf) q = max zl (v + 1) ∧ highOf ((⟨f, m, o, v⟩, h) :: suf) q = zh ∧ oneOf ((⟨f, m, o, v⟩, h) :: suf) q = if fb then some za else none) ∧
   (f = q.field → m = q.mask → o = 3 → h = false → seen ((⟨f, m, o, v⟩, h) :: suf) q = none ∧ lowOf ((⟨f, m, o, v⟩, h) :: suf) q = zl ∧ highOf ((⟨f, m, o, v⟩, h) :: suf) q = min zh v ∧ oneOf ((⟨f, m, o, v⟩, h) :: suf) q = if fb then some za else none) := by
 obtain ⟨h1, h2, h3, h4⟩ := hs
 have hseen : seen ((⟨f, m, o, v⟩, h) :: suf) q = none := by simp only [seen]; rw [if_neg hn]; exact h1
 refine ⟨fun hc => ⟨hseen, ?_, ?_, ?_⟩, fun a b c d => ⟨hseen, ?_, ?_, ?_⟩, fun a b c d => ⟨hseen, ?_, ?_, ?_⟩, fun a b c d => ⟨hseen, ?_, ?_, ?_⟩⟩
 · simp only [lowOf]; rw [if_neg, h2]; rintro ⟨a, b, c, d⟩; simp only at a b c d; rcases hc with hc | hc | ⟨hc, _⟩ | ⟨_, hc⟩; exact hc a; exact hc b; omega; exact hc c
 · simp only [highOf]; rw [if_neg, h3]; rintro ⟨a, b, c, d⟩; simp only at a b c d; rcases hc with hc | hc | ⟨hc, _⟩ | ⟨_, hc⟩; exact hc a; exact hc b; omega; exact hc c
 · simp only [oneOf]; rw [if_neg, h4]; rintro ⟨a, b, c, d⟩; simp only at a b c d; rcases hc with hc | hc | ⟨_, hc⟩ | ⟨hc, _⟩; exact hc a; exact hc b; (rw [d] at hc; cases hc); exact hc c
 · simp only [lowOf]; rw [if_neg, h2]; rintro ⟨_, _, e, _⟩; simp only at e; omega
 · simp only [highOf]; rw [if_neg, h3]; rintro ⟨_, _, e, _⟩; simp only at e; omega
 · simp only [oneOf]; rw [if_pos ⟨a, b, c, d⟩]; rfl
 · simp only [lowOf]; rw [if_pos ⟨a, b, c, d⟩, h2]; show max (v + 1) zl = max zl (v + 1); omega
 · simp only [highOf]; rw [if_neg, h3]; rintro ⟨_, _, _, e⟩; simp only at e; rw [d] at e; cases e
 · simp only [oneOf]; rw [if_neg, h4]; rintro ⟨_, _, e, _⟩; simp only at e; omega
 · simp only [lowOf]; rw [if_neg, h2]; rintro ⟨_, _, _, e⟩; simp only at e; rw [d] at e; cases e
 · simp only [highOf]; rw [if_pos ⟨a, b, c, d⟩, h3]; show min v zh = min zh v; omega
 · simp only [oneOf]; rw [if_neg, h4]; rintro ⟨_, _, e, _⟩; simp only at e; omega

def TellPost (l : List (Lk × Bool)) (q : Lk) (w : World) (e : Ending) (w' : World) : Prop := ∃ hb tb : Bool, e = .returned (.tuple #[.bool hb, .bool tb]) ∧ ((tellO l q = none ∧ tb = false) ∨ (tellO l q = some hb ∧ tb = true)) ∧ Below w.heap.size w w'

set_option maxRecDepth 100000 in
set_option maxHeartbeats 4000000 in
theorem tell_any (cg : Nat) (kv : Value) (l : List (Lk × Bool)) (q : Lk) (w : World) (hk : KnI cg w kv l.reverse) (hw : KnW l) (ho : Once l) (hq : q.op = 1 ∨ q.op = 3) :
   Calls Tryz.prog 154 #[kv, .agg #[.int .i64 q.field, .int .i64 q.mask, .int .i64 q.op, .int .i64 q.value]] w (TellPost l q w) := by
 have HK := Lib.hid hk; have HW := Lib.hid hw; have HO := Lib.hid ho
 obtain ⟨qf, qm, qo, qv⟩ := q
 simp only at hq ⊢
 obtain ⟨X, hX⟩ : ∃ X, X = w.alloc (.cells #[.int .i64 qf, .int .i64 qm, .int .i64 qo, .int .i64 qv] 190) := ⟨_, rfl⟩
 have hbX : Below w.heap.size w X := by rw [hX]; go_grown
 have hzX : X.heap.size = w.heap.size + 1 := by rw [hX]; simp
 have hlX : w.heap.size < X.heap.size := by omega
 have BX : Blk X w.heap.size 190 #[.int .i64 qf, .int .i64 qm, .int .i64 qo, .int .i64 qv] := by rw [hX]; exact Blk.new _ _ _
 have HX := Lib.hid hX; have HB := Lib.hid BX; have HQ := Lib.hid hq
 have b1 := (show _ = some (Value.int .i64 qm) from BX.cell 1)
 clear hX BX hq hzX hk hw ho
 go_enter Tryz.func154, Tryz.ntmps154
 go_wp2
 rw [← HX.out]
 go_quiet ((fail))
 rename_i nq
 have hbq : Below X.heap.size X (X.drewN nq) := kDrew _ _ _
 clear b1
 go_wp2
 go_loopg [6, 7, 8, 9, 10] l.length (fun gk lo hi al fo f wr => ∃ (todo suf : List (Lk × Bool)) (zl zh za : Int) (fb : Bool) (kv : Value), gk = todo.length ∧ lo = .int .i64 zl ∧ hi = .int .i64 zh ∧ al = .int .i64 za ∧ fo = .bool fb ∧ f = kv ∧ Hid (l = todo.reverse ++ suf) ∧ Hid (KnI cg w kv todo) ∧ Hid (seen suf ⟨qf, qm, qo, qv⟩ = none ∧ lowOf suf ⟨qf, qm, qo, qv⟩ = zl ∧ highOf suf ⟨qf, qm, qo, qv⟩ = zh ∧ oneOf suf ⟨qf, qm, qo, qv⟩ = if fb then some za else none) ∧ Below X.heap.size X wr)
 case atStart => exact ⟨l.reverse, [], 0, qm, 0, false, _, by simp, rfl, rfl, rfl, rfl, rfl, Lib.hid (by simp), HK, Lib.hid ⟨rfl, rfl, rfl, rfl⟩, hbq⟩
 case round =>
   obtain ⟨todo, suf, zl, zh, za, fb, kv, hgk, rfl, rfl, rfl, rfl, rfl, HLL, HKV, HS, hb⟩ := hrel
   have hsz := hb.size
   have hz0 : w.heap.size < wr.heap.size := by omega
   have hbw := hbX.trans (hb.mono (Nat.le_of_lt hlX))
   have B1 := HB.out.below hb hlX
   have b0 := (show _ = some (Value.int .i64 qf) from B1.cell 0); have b1 := (show _ = some (Value.int .i64 qm) from B1.cell 1); have b2 := (show _ = some (Value.int .i64 qo) from B1.cell 2); have b3 := (show _ = some (Value.int .i64 qv) from B1.cell 3)
   have HGK := Lib.hid hgk
   clear B1 hgk hbq
   cases todo with
   | nil =>
     obtain rfl := (show _ = Value.pointer none from HKV.out)
     have HE := Lib.hid (tellO_room (l := l) (q := ⟨qf, qm, qo, qv⟩) (by rw [HLL.out]; exact HS.out.1))
     have HLO := Lib.hid (show roomLow l ⟨qf, qm, qo, qv⟩ = if fb then za else zl by unfold roomLow; rw [HLL.out]; simp only [List.reverse_nil, List.nil_append]; rw [HS.out.2.2.2, HS.out.2.1]; cases fb <;> rfl)
     have HHI := Lib.hid (show roomHigh l ⟨qf, qm, qo, qv⟩ = if fb then za else zh by unfold roomHigh; rw [HLL.out]; simp only [List.reverse_nil, List.nil_append]; rw [HS.out.2.2.2, HS.out.2.2.1]; cases fb <;> rfl)
     rw [HLO.out, HHI.out] at HE
     clear HS HLL
     have key : ∀ lo hi : Int, tellO l ⟨qf, qm, qo, qv⟩ = tellRoom lo hi ⟨qf, qm, qo, qv⟩ → ((qo = 3 → (qv < lo → tellO l ⟨qf, qm, qo, qv⟩ = some true) ∧ (¬ qv < lo → hi ≤ qv → tellO l ⟨qf, qm, qo, qv⟩ = some false) ∧ (¬ qv < lo → ¬ hi ≤ qv → tellO l ⟨qf, qm, qo, qv⟩ = none)) ∧
         (qo = 1 → ((qv < lo ∨ hi < qv) → tellO l ⟨qf, qm, qo, qv⟩ = some false) ∧ (¬ (qv < lo ∨ hi < qv) → lo = hi → tellO l ⟨qf, qm, qo, qv⟩ = some true) ∧ (¬ (qv < lo ∨ hi < qv) → ¬ lo = hi → tellO l ⟨qf, qm, qo, qv⟩ = none))) := fun lo hi h => by
       rw [h]
       refine ⟨fun h3 => ?_, fun h1 => ?_⟩
       · subst h3
         refine ⟨fun a => ?_, fun a b => ?_, fun a b => ?_⟩ <;> simp [tellRoom, *]
       · subst h1
         refine ⟨fun a => ?_, fun a b => ?_, fun a b => ?_⟩
         · simp only [tellRoom]; rw [if_neg (by omega), if_pos a]
         · simp only [tellRoom]; rw [if_neg (by omega), if_neg a, if_pos b]
         · simp only [tellRoom]; rw [if_neg (by omega), if_neg a, if_neg b]
     cases fb
     · have HKY := Lib.hid (key zl zh (by simpa using HE.out))
       clear key HE HLO HHI
       rcases HQ.out with h | h
       · subst h
         by_cases h1 : qv < zl
         · have HT := Lib.hid ((HKY.out.2 rfl).1 (.inl h1))
           go_wp2
           go_ret2
           exact ⟨false, true, rfl, .inr ⟨HT.out, rfl⟩, hbw⟩
         · by_cases h2 : zh < qv
           · have HT := Lib.hid ((HKY.out.2 rfl).1 (.inr h2))
             go_wp2
             go_ret2
             exact ⟨false, true, rfl, .inr ⟨HT.out, rfl⟩, hbw⟩
           · by_cases h3 : zl = zh
             · have HT := Lib.hid ((HKY.out.2 rfl).2.1 (by omega) h3)
               have g3 : (zl == zh) = true := by simp [h3]
               clear h3
               go_wp2
               all_goals (try go_region)
               all_goals (try go_wp2)
               all_goals
                 go_ret2
                 exact ⟨true, true, rfl, .inr ⟨HT.out, rfl⟩, hbw⟩
             · have HT := Lib.hid ((HKY.out.2 rfl).2.2 (by omega) h3)
               have g3 : (zl == zh) = false := by simp [h3]
               go_wp2
               all_goals
                 go_ret2
                 exact ⟨false, false, rfl, .inl ⟨HT.out, rfl⟩, hbw⟩
       · subst h
         by_cases h1 : qv < zl
         · have HT := Lib.hid ((HKY.out.1 rfl).1 h1)
           have g1 : decide (qv < zl) = true := by simp [h1]
           go_wp2
           go_quiet ((fail))
           go_wp2
           go_ret2
           exact ⟨true, true, rfl, .inr ⟨HT.out, rfl⟩, below_then hbw (kDrew _ _ _)⟩
         · have g1 : decide (qv < zl) = false := by simp [h1]
           by_cases h2 : zh ≤ qv
           · have HT := Lib.hid ((HKY.out.1 rfl).2.1 h1 h2)
             have g2 : decide (zh ≤ qv) = true := by simp [h2]
             go_wp2
             go_quiet ((fail))
             go_wp2
             go_ret2
             exact ⟨false, true, rfl, .inr ⟨HT.out, rfl⟩, below_then hbw (kDrew _ _ _)⟩
           · have HT := Lib.hid ((HKY.out.1 rfl).2.2 h1 h2)
             have g2 : decide (zh ≤ qv) = false := by simp [h2]
             go_wp2
             go_quiet ((fail))
             go_wp2
             go_ret2
             exact ⟨false, false, rfl, .inl ⟨HT.out, rfl⟩, below_then hbw (kDrew _ _ _)⟩
     · have HKY := Lib.hid (key za za (by simpa using HE.out))
       clear key HE HLO HHI
       rcases HQ.out with h | h
       · subst h
         by_cases h1 : qv < za
         · have HT := Lib.hid ((HKY.out.2 rfl).1 (.inl h1))
           go_wp2
           go_ret2
           exact ⟨false, true, rfl, .inr ⟨HT.out, rfl⟩, hbw⟩
         · by_cases h2 : za < qv
           · have HT := Lib.hid ((HKY.out.2 rfl).1 (.inr h2))
             go_wp2
             go_ret2
             exact ⟨false, true, rfl, .inr ⟨HT.out, rfl⟩, hbw⟩
           · have HT := Lib.hid ((HKY.out.2 rfl).2.1 (by omega) rfl)
             go_wp2
             all_goals
               go_ret2
               exact ⟨true, true, rfl, .inr ⟨HT.out, rfl⟩, hbw⟩
       · subst h
         by_cases h1 : qv < za
         · have HT := Lib.hid ((HKY.out.1 rfl).1 h1)
           have g1 : decide (qv < za) = true := by simp [h1]
           go_wp2
           go_quiet ((fail))
           go_wp2
           go_ret2
           exact ⟨true, true, rfl, .inr ⟨HT.out, rfl⟩, below_then hbw (kDrew _ _ _)⟩
         · have g1 : decide (qv < za) = false := by simp [h1]
           by_cases h2 : za ≤ qv
           · have HT := Lib.hid ((HKY.out.1 rfl).2.1 h1 h2)
             have g2 : decide (za ≤ qv) = true := by simp [h2]
             go_wp2
             go_quiet ((fail))
             go_wp2
             go_ret2
             exact ⟨false, true, rfl, .inr ⟨HT.out, rfl⟩, below_then hbw (kDrew _ _ _)⟩
           · omega
   | cons x todo =>
     obtain ⟨⟨xf, xm, xo, xv⟩, xh⟩ := x
     obtain ⟨b, u, rfl, hbc, hbk, hrest⟩ := HKV.out
     have hbk2 := hbk.same hbw
     obtain ⟨hv0, hv1⟩ : 0 ≤ xv ∧ xv ≤ 4294967295 := HW.out (⟨xf, xm, xo, xv⟩, xh) (by rw [HLL.out]; simp)
     have x0 := (show _ = some (Value.int .i64 xf) from hbk2.cell 0); have x1 := (show _ = some (Value.int .i64 xm) from hbk2.cell 1); have x2 := (show _ = some (Value.int .i64 xo) from hbk2.cell 2); have x3 := (show _ = some (Value.int .i64 xv) from hbk2.cell 3); have x4 := (show _ = some (Value.bool xh) from hbk2.cell 4); have x5 := (show _ = some u from hbk2.cell 5)
     have HRE := Lib.hid hrest
     clear hbk hbk2 hrest
     have hle := look_eq xf xm xo xv qf qm qo qv
     have hgd : Tryz.prog.eqGuardType Tryz.prog.depth 190 = false := by kernel_rfl
     by_cases hsame : LkSame ⟨xf, xm, xo, xv⟩ ⟨qf, qm, qo, qv⟩
     · simp only [hsame, decide_true] at hle
       have HSA := Lib.hid hsame
       have HT := Lib.hid (show tellO l ⟨qf, qm, qo, qv⟩ = some xh by
         have e := LkSame.eq.1 HSA.out
         have h9 := seen_at HO.out (i := todo.length) (x := (⟨xf, xm, xo, xv⟩, xh)) (by rw [HLL.out]; simp)
         simp only at h9
         rw [e] at h9
         exact tellO_seen h9)
       clear hsame
       go_wp2
       go_quiet ((fail))
       go_wp2
       go_ret2
       exact ⟨xh, true, rfl, .inr ⟨HT.out, rfl⟩, below_then hbw (kDrew _ _ _)⟩
     · simp only [hsame, decide_false] at hle
       have HRC := Lib.hid (room_cons (h := xh) hsame HS.out)
       have HL2 := Lib.hid (show l = todo.reverse ++ ((⟨xf, xm, xo, xv⟩, xh) :: suf) by rw [HLL.out]; simp)
       clear hsame HS
       go_wp2
       go_quiet ((fail))
       by_cases h1 : xf = qf
       · by_cases h2 : xm = qm
         · have g1 : (xf != qf) = false := by simp [h1]
           have g2 : (xm != qm) = false := by simp [h2]
           go_wp2
           go_quiet ((fail))
           by_cases h3 : xo = 1
           · cases xh
             · have HX := Lib.hid (HRC.out.1 (.inr (.inr (.inl ⟨h3, rfl⟩))))
               go_wp2
               go_roundg todo.length
               case measure => have := HGK.out; simp only [List.length_cons] at this; omega
               case rel => exact ⟨todo, _, _, _, _, _, u, rfl, rfl, rfl, rfl, rfl, rfl, HL2, HRE, HX, hb.trans (kDrew _ _ _)⟩
             · have HX := Lib.hid (HRC.out.2.1 h1 h2 h3 rfl)
               go_wp2
               go_roundg todo.length
               case measure => have := HGK.out; simp only [List.length_cons] at this; omega
               case rel => exact ⟨todo, _, _, _, _, _, u, rfl, rfl, rfl, rfl, rfl, rfl, HL2, HRE, HX, hb.trans (kDrew _ _ _)⟩
           · by_cases h4 : xo = 3
             · cases xh
               · have HX := Lib.hid (HRC.out.2.2.2 h1 h2 h4 rfl)
                 go_wp2
                 go_roundg todo.length
                 case measure => have := HGK.out; simp only [List.length_cons] at this; omega
                 case rel => exact ⟨todo, _, _, _, _, _, u, rfl, rfl, rfl, rfl, rfl, rfl, HL2, HRE, HX, hb.trans (kDrew _ _ _)⟩
               · have HX := Lib.hid (HRC.out.2.2.1 h1 h2 h4 rfl)
                 go_wp2
                 go_roundg todo.length
                 case measure => have := HGK.out; simp only [List.length_cons] at this; omega
                 case rel => exact ⟨todo, _, _, _, _, _, u, rfl, rfl, rfl, rfl, rfl, rfl, HL2, HRE, HX, hb.trans (kDrew _ _ _)⟩
             · have HX := Lib.hid (HRC.out.1 (.inr (.inr (.inr ⟨h3, h4⟩))))
               go_wp2
               go_roundg todo.length
               case measure => have := HGK.out; simp only [List.length_cons] at this; omega
               case rel => exact ⟨todo, _, _, _, _, _, u, rfl, rfl, rfl, rfl, rfl, rfl, HL2, HRE, HX, hb.trans (kDrew _ _ _)⟩
         · have g1 : (xf != qf) = false := by simp [h1]
           have g2 : (xm != qm) = true := by simp [h2]
           have HX := Lib.hid (HRC.out.1 (.inr (.inl h2)))
           go_wp2
           go_quiet ((fail))
           go_wp2
           go_roundg todo.length
           case measure => have := HGK.out; simp only [List.length_cons] at this; omega
           case rel => exact ⟨todo, _, _, _, _, _, u, rfl, rfl, rfl, rfl, rfl, rfl, HL2, HRE, HX, hb.trans (kDrew _ _ _)⟩
       · have g1 : (xf != qf) = true := by simp [h1]
         have HX := Lib.hid (HRC.out.1 (.inl h1))
         go_wp2
         go_quiet ((fail))
         go_wp2
         go_roundg todo.length
         case measure => have := HGK.out; simp only [List.length_cons] at this; omega
         case rel => exact ⟨todo, _, _, _, _, _, u, rfl, rfl, rfl, rfl, rfl, rfl, HL2, HRE, HX, hb.trans (kDrew _ _ _)⟩
end Go.Proofs.YtdjgicapbpoigaaGreatDoor

namespace Go.Proofs.YtdjgicapbpoigaaGreatDoor
open Go.RowKit
set_option linter.unusedSimpArgs false
set_option linter.unusedVariables false

def CkN (cg : Nat) (w : World) (rv : Value) (rs : List Rl) : Prop := ∃ css, SlN cg w 3 rv css ∧ css.length = rs.length ∧ ∀ (i : Nat) (r : Rl) (cs : List Value), rs[i]? = some r → css[i]? = some cs →
 ∃ A n c nb, cs = [.slice A n c, .int .i64 r.verdict, .bool nb] ∧ ((nb = true ∧ Never r) ∨ (nb = false ∧ ¬ Never r ∧ SlN cg w 5 (.slice A n c) (knR (looksOf r))))
theorem CkN.grown {cg : Nat} {w w' : World} {rv : Value} {rs : List Rl} (h : CkN cg w rv rs) (hg : w.grownBy w' (some cg)) : CkN cg w' rv rs := by
 obtain ⟨css, h1, h2, h3⟩ := h
 refine ⟨css, h1.grown hg, h2, fun i r cs a b => ?_⟩
 obtain ⟨A, n, c, nb, e, h⟩ := h3 i r cs a b
 refine ⟨A, n, c, nb, e, ?_⟩
 rcases h with h | ⟨h1, h2, h3⟩
 · exact .inl h
 · exact .inr ⟨h1, h2, h3.grown hg⟩
theorem CkN.form {cg : Nat} {w : World} {rv : Value} {rs : List Rl} (h : CkN cg w rv rs) : ∃ A n c, rv = .slice A n c ∧ n = rs.length ∧ n ≤ c ∧ c ≤ 9223372036854775807 := by
 obtain ⟨css, ⟨A, n, c, e, hA, _⟩, h2, _⟩ := h
 exact ⟨A, n, c, e, by have := hA.len; omega, hA.cap, hA.max⟩
theorem ckN_get {cg : Nat} {w : World} {rs : List Rl} {rv : Value} (h : CkN cg w rv rs) {a : Nat} {r : Rl} (ha : rs[a]? = some r) :
   ∃ b off n c A2 n2 c2 nb, rv = .slice (some ⟨b, off, none⟩) n c ∧ n = rs.length ∧ n ≤ c ∧ c ≤ 9223372036854775807 ∧ b < w.heap.size ∧ b ≠ cg ∧ ((nb = true ∧ Never r) ∨ (nb = false ∧ ¬ Never r ∧ SlN cg w 5 (.slice A2 n2 c2) (knR (looksOf r)))) ∧
     w.cell? ⟨b, off + a * 3, none⟩ = some (.slice A2 n2 c2) ∧ w.cell? ⟨b, off + a * 3 + 1, none⟩ = some (.int .i64 r.verdict) ∧ w.cell? ⟨b, off + a * 3 + 2, none⟩ = some (.bool nb) := by
 obtain ⟨css, ⟨A, n, c, rfl, hA, hn⟩, hcs, hr⟩ := h
 have hl := (List.getElem?_eq_some_iff.1 ha).1
 have hln := hA.len
 obtain ⟨b, off, rfl, hb, hel⟩ := hA.at_ (by omega)
 have hc : css[a]? = some (css[a]'(by omega)) := List.getElem?_eq_getElem (by omega)
 obtain ⟨A2, n2, c2, nb, e, ht⟩ := hr a r _ ha hc
 rw [e] at hc
 exact ⟨b, off, n, c, A2, n2, c2, nb, rfl, by omega, hA.cap, hA.max, hb, hn (by omega) b off rfl, ht, hel a _ hc 0 _ rfl, hel a _ hc 1 _ rfl, hel a _ hc 2 _ rfl⟩
def IPost (cg : Nat) (cv rv : Value) (last : Int) (R : Nat → Bool → Prop) (w : World) (e : Ending) (w' : World) : Prop :=
 e = .returned (.tuple #[]) ∧ ∃ s' b, R s' b ∧ Blk w' cg 78 #[cv, rv, .int .i64 last, .int .i64 ((s' : Nat) : Int), .bool (!b)] ∧ w.grownBy w' (some cg)

section
variable (cg : Nat) (cv rv : Value) (last : Int)
set_option maxHeartbeats 1000000 in
theorem iStep_on (s : Nat) (w : World) (h : Blk w cg 78 #[cv, rv, .int .i64 last, .int .i64 (s : Int), .bool false]) (hs : s < 6000) :
   Calls Tryz.prog 100 #[.pointer (some ⟨cg, 0, none⟩)] w fun e w' => e = .returned (.bool true) ∧ Blk w' cg 78 #[cv, rv, .int .i64 last, .int .i64 ((s + 1 : Nat) : Int), .bool false] ∧ w.grownBy w' (some cg) := by
 have c3 := (show _ = some (Value.int .i64 (s : Int)) from h.cell 3); have c4 := (show _ = some (Value.bool false) from h.cell 4); have f3 := h.frozen 3; have f4 := h.frozen 4
 have HF := Lib.hid (h.set_ 3 (.int .i64 ((s + 1 : Nat) : Int)))
 have hd : ¬ (6000 : Int) < (s : Int) + 1 := by omega
 clear h
 go_enter Tryz.func100, Tryz.ntmps100
 go_wp2
 go_ret
 exact ⟨rfl, HF.out, grown_set _ _ _ _⟩
set_option maxHeartbeats 1000000 in
theorem iStep_off (s : Nat) (ov : Bool) (w : World) (h : Blk w cg 78 #[cv, rv, .int .i64 last, .int .i64 (s : Int), .bool ov]) (hs : s ≤ 20000) (ho : 6000 ≤ s ∨ ov = true) :
   Calls Tryz.prog 100 #[.pointer (some ⟨cg, 0, none⟩)] w fun e w' => e = .returned (.bool false) ∧ Blk w' cg 78 #[cv, rv, .int .i64 last, .int .i64 ((s + 1 : Nat) : Int), .bool true] ∧ w.grownBy w' (some cg) := by
 have c3 := (show _ = some (Value.int .i64 (s : Int)) from h.cell 3); have c4 := (show _ = some (Value.bool ov) from h.cell 4); have f3 := h.frozen 3; have f4 := h.frozen 4
 have HF := Lib.hid (h.set_ 3 (.int .i64 ((s + 1 : Nat) : Int))); have HG := Lib.hid ((h.set_ 3 (.int .i64 ((s + 1 : Nat) : Int))).set_ 4 (.bool true))
 clear h
 by_cases hd : (6000 : Int) < (s : Int) + 1
 · clear ho
   go_enter Tryz.func100, Tryz.ntmps100
   go_wp2
   go_ret
   exact ⟨rfl, HG.out, (grown_set _ _ _ _).trans (grown_set _ _ _ _)⟩
 · obtain rfl : ov = true := by rcases ho with h | h; omega; exact h
   clear ho
   go_enter Tryz.func100, Tryz.ntmps100
   go_wp2
   go_ret
   exact ⟨rfl, HF.out, grown_set _ _ _ _⟩
set_option maxHeartbeats 1000000 in
theorem iRule_off (s : Nat) (a k v : Int) (kv : Value) (ov : Bool) (w : World) (h : Blk w cg 78 #[cv, rv, .int .i64 last, .int .i64 (s : Int), .bool ov]) (hs : s ≤ 20000) (ho : 6000 ≤ s ∨ ov = true) :
   Calls Tryz.prog 101 #[.pointer (some ⟨cg, 0, none⟩), .agg #[.int .i64 a, .int .i64 k, .int .i64 v], kv] w (IPost cg cv rv last (fun s' b => s' = s + 1 ∧ b = false) w) := by
 obtain ⟨X, hX⟩ : ∃ X, X = (w.alloc (.cells #[.pointer (some ⟨cg, 0, none⟩)] 79)).alloc (.cells #[.int .i64 a, .int .i64 k, .int .i64 v] 197) := ⟨_, rfl⟩
 have hbX : Below w.heap.size w X := by rw [hX]; go_grown
 have e0 : X.cell? ⟨w.heap.size, 0, none⟩ = some (.pointer (some ⟨cg, 0, none⟩)) := by rw [hX]; exact ((Blk.new w _ _).alloc _).cell 0
 have H := Lib.hid (h.same hbX); have HO := Lib.hid ho; have HX := Lib.hid hX; clear h ho hX
 go_enter Tryz.func101, Tryz.ntmps101
 go_wp2_with fail
 rw [← HX.out]
 go_loopg [] 1 (fun gk wr => wr = X ∧ gk = 1)
 case atStart => exact ⟨rfl, rfl⟩
 case round =>
   obtain ⟨rfl, -⟩ := hrel
   go_wp2_with fail
   refine (iStep_off cg cv rv last s ov _ H.out hs HO.out).mono ?_; rintro e w1 ⟨rfl, hb, hg⟩
   have HB := Lib.hid hb; clear hb
   go_wp2
   go_end0
   exact ⟨rfl, s + 1, false, ⟨rfl, rfl⟩, HB.out, (grown_of_below hbX _).trans hg⟩

set_option maxHeartbeats 2000000 in
theorem iRuleOn_of (a k : Nat) (v : Int) (kv : Value) (h m : Bool) (q : Lk) (wb cb : Nat) (w : World) (R : Nat → Bool → Prop) (ha : a ≤ 100000) (hk : k ≤ 100000)
   (hW : Blk w wb 192 #[.int .i64 q.field, .int .i64 q.mask, .int .i64 q.op, .int .i64 q.value, .bool m]) (hC : Blk w cb 79 #[.pointer (some ⟨cg, 0, none⟩)])
   (H : ∀ W, Below w.heap.size w W → Calls Tryz.prog 101 #[.pointer (some ⟨cg, 0, none⟩), .agg #[.int .i64 ((nextA a h m : Nat) : Int), .int .i64 ((nextK k h m : Nat) : Int), .int .i64 v], kv] W (IPost cg cv rv last R W)) :
   Calls Tryz.prog 134 #[.agg #[.int .i64 (a : Int), .int .i64 (k : Int), .int .i64 v], kv, .bool h, .pointer (some ⟨wb, 0, none⟩), .pointer (some ⟨cb, 0, none⟩)] w (IPost cg cv rv last R w) := by
 have x4 := (show _ = some (Value.bool m) from hW.cell 4)
 have x0 := (show _ = some (Value.pointer (some ⟨cg, 0, none⟩)) from hC.cell 0)
 have l1 := hW.lt; have l2 := hC.lt
 have HH := Lib.hid H
 clear H hW hC
 by_cases hm : h = m
 · have h9 : Calls Tryz.prog 101 #[.pointer (some ⟨cg, 0, none⟩), .agg #[.int .i64 (a : Int), .int .i64 ((k : Int) + 1), .int .i64 v], kv] (w.alloc (.cells #[.int .i64 (a : Int), .int .i64 ((k : Int) + 1), .int .i64 v] 197)) (IPost cg cv rv last R (w.alloc (.cells #[.int .i64 (a : Int), .int .i64 ((k : Int) + 1), .int .i64 v] 197))) := by
     have := HH.out (w.alloc (.cells #[.int .i64 (a : Int), .int .i64 ((k : Int) + 1), .int .i64 v] 197)) (by go_grown)
     rw [show nextA a h m = a by simp [nextA, hm], show nextK k h m = k + 1 by simp [nextK, hm]] at this
     exact this
   have hd : (h == m) = true := by simp [hm]
   have H9 := Lib.hid h9
   clear h9 hm HH
   go_enter Tryz.func134, Tryz.ntmps134
   go_wp2_with fail
   refine H9.out.mono ?_; rintro e w3 ⟨rfl, s', b', hrun, hb3, hg3⟩
   have HF := Lib.hid (show IPost cg cv rv last R w (.returned (.tuple #[])) w3 from ⟨rfl, s', b', hrun, hb3, (grown_of_below (by go_grown) _).trans hg3⟩)
   clear hrun hb3 hg3
   go_wp2
   go_end0
   exact HF.out
 · have h9 : Calls Tryz.prog 101 #[.pointer (some ⟨cg, 0, none⟩), .agg #[.int .i64 ((a : Int) + 1), .int .i64 0, .int .i64 v], kv] (w.alloc (.cells #[.int .i64 ((a : Int) + 1), .int .i64 0, .int .i64 v] 197)) (IPost cg cv rv last R (w.alloc (.cells #[.int .i64 ((a : Int) + 1), .int .i64 0, .int .i64 v] 197))) := by
     have := HH.out (w.alloc (.cells #[.int .i64 ((a : Int) + 1), .int .i64 0, .int .i64 v] 197)) (by go_grown)
     rw [show nextA a h m = a + 1 by simp [nextA, hm], show nextK k h m = 0 by simp [nextK, hm]] at this
     exact this
   have hd : (h == m) = false := by simp [hm]
   have H9 := Lib.hid h9
   clear h9 hm HH
   go_enter Tryz.func134, Tryz.ntmps134
   go_wp2_with fail
   refine H9.out.mono ?_; rintro e w3 ⟨rfl, s', b', hrun, hb3, hg3⟩
   have HF := Lib.hid (show IPost cg cv rv last R w (.returned (.tuple #[])) w3 from ⟨rfl, s', b', hrun, hb3, (grown_of_below (by go_grown) _).trans hg3⟩)
   clear hrun hb3 hg3
   go_wp2
   go_end0
   exact HF.out
end
end Go.Proofs.YtdjgicapbpoigaaGreatDoor

namespace Go.Proofs.YtdjgicapbpoigaaGreatDoor
open Go.RowKit
set_option linter.unusedSimpArgs false
set_option linter.unusedVariables false

section
variable (cg : Nat) (cv rv : Value) (last : Int) (rs : List Rl)
def RuleIH (n : Nat) : Prop := ∀ (s a k : Nat) (v : Int) (l : List (Lk × Bool)) (kv : Value) (w : World), 6000 ≤ s + n → s ≤ 6000 → a ≤ rs.length → k ≤ 200 → (∀ r, rs[a]? = some r → k ≤ (looksOf r).length) →
   Blk w cg 78 #[cv, rv, .int .i64 last, .int .i64 (s : Int), .bool false] → CkN cg w rv rs → KnI cg w kv l.reverse → KnW l → Once l →
   Calls Tryz.prog 101 #[.pointer (some ⟨cg, 0, none⟩), .agg #[.int .i64 (a : Int), .int .i64 (k : Int), .int .i64 v], kv] w (IPost cg cv rv last (fun s' b => RuleRun rs last a k v l s s' b) w)

theorem nextA_le {a n : Nat} (h m : Bool) (ha : a < n) : nextA a h m ≤ n := by unfold nextA; split <;> omega
theorem nextK_le {k : Nat} (h m : Bool) (hk : k < 200) : nextK k h m ≤ 200 := by unfold nextK; split <;> omega
theorem nextK_len {a k : Nat} {r : Rl} {x : Lk × Bool} (h m : Bool) (hr : rs[a]? = some r) (hq : (looksOf r)[k]? = some x) : ∀ r', rs[nextA a h m]? = some r' → nextK k h m ≤ (looksOf r').length := fun r' hr' => by
 unfold nextA at hr'
 unfold nextK
 split at hr'
 · rename_i e
   rw [if_pos e]
   rw [hr] at hr'
   cases hr'
   exact (List.getElem?_eq_some_iff.1 hq).1
 · rename_i e
   rw [if_neg e]; omega
theorem KnI.ptr {w : World} {v : Value} : ∀ {l : List (Lk × Bool)}, KnI cg w v l → ∃ o, v = .pointer o
 | [], h => ⟨none, h⟩
 | x :: l, ⟨b, u, e, _⟩ => ⟨_, e⟩
theorem KnI.snoc {w : World} {kv : Value} {l : List (Lk × Bool)} {q : Lk} {h : Bool} {b : Nat} (hk : KnI cg w kv l.reverse) (hb : b ≠ cg) (hB : Blk w b 258 #[.int .i64 q.field, .int .i64 q.mask, .int .i64 q.op, .int .i64 q.value, .bool h, kv]) : KnI cg w (.pointer (some ⟨b, 0, none⟩)) (l ++ [(q, h)]).reverse := by
 rw [List.reverse_append]
 exact ⟨b, kv, rfl, hb, hB, hk⟩

set_option maxRecDepth 100000 in
set_option maxHeartbeats 8000000 in
theorem iBothRule_of (n : Nat) (ih : RuleIH cg cv rv last rs n) (s a k : Nat) (v : Int) (l : List (Lk × Bool)) (kv : Value) (w : World) (r : Rl) (q : Lk) (m : Bool) (wb cb : Nat) (hrl : rs.length ≤ 1000) (hn : 6000 ≤ s + 1 + n) (hs : s < 6000) (hr : rs[a]? = some r) (hnv : ¬ Never r) (hq : (looksOf r)[k]? = some (q, m)) (ha : a < rs.length) (hk : k < 200)
   (hqw : 0 ≤ q.value ∧ q.value ≤ 4294967295) (hqo : q.op = 1 ∨ q.op = 3)
   (hC : Blk w cg 78 #[cv, rv, .int .i64 last, .int .i64 ((s + 1 : Nat) : Int), .bool false]) (hR : CkN cg w rv rs) (hK : KnI cg w kv l.reverse) (hKW : KnW l) (hO : Once l)
   (hW : Blk w wb 192 #[.int .i64 q.field, .int .i64 q.mask, .int .i64 q.op, .int .i64 q.value, .bool m]) (hB : Blk w cb 79 #[.pointer (some ⟨cg, 0, none⟩)]) (hwc : wb ≠ cg) (hcc : cb ≠ cg) :
   Calls Tryz.prog 133 #[kv, .agg #[.int .i64 q.field, .int .i64 q.mask, .int .i64 q.op, .int .i64 q.value], .agg #[.int .i64 (a : Int), .int .i64 (k : Int), .int .i64 v], .func (.func 134) #[] #[.pointer (some ⟨wb, 0, none⟩), .pointer (some ⟨cb, 0, none⟩)]] w (IPost cg cv rv last (fun s' b => RuleRun rs last a k v l s s' b) w) := by
 have hcl := hC.lt
 obtain ⟨po, rfl⟩ := hK.ptr
 have HI := Lib.hid ih; have HC := Lib.hid hC; have HR := Lib.hid hR; have HK := Lib.hid hK; have HKW := Lib.hid hKW; have HO := Lib.hid hO; have HW := Lib.hid hW; have HB := Lib.hid hB
 have HRR := Lib.hid hr; have HNV := Lib.hid hnv; have HQ := Lib.hid hq; have HQW := Lib.hid hqw; have HQO := Lib.hid hqo
 clear ih hC hR hK hKW hO hW hB hr hnv hq hqw hqo
 have hgo : ∀ (W : World) (s1 : Nat) (l1 : List (Lk × Bool)) (kv1 : Value) (h : Bool), 6000 ≤ s1 + n → s1 ≤ 6000 → w.grownBy W (some cg) → Blk W cg 78 #[cv, rv, .int .i64 last, .int .i64 (s1 : Int), .bool false] → KnI cg W kv1 l1.reverse → KnW l1 → Once l1 →
     Calls Tryz.prog 134 #[.agg #[.int .i64 (a : Int), .int .i64 (k : Int), .int .i64 v], kv1, .bool h, .pointer (some ⟨wb, 0, none⟩), .pointer (some ⟨cb, 0, none⟩)] W (IPost cg cv rv last (fun s' b => RuleRun rs last (nextA a h m) (nextK k h m) v l1 s1 s' b) W) := fun W s1 l1 kv1 h h1 h2 h3 h4 h5 h6 h7 =>
   iRuleOn_of cg cv rv last a k v kv1 h m q wb cb W _ (by have := ha; omega) (by omega) (HW.out.grown h3 (by simp; omega)) (HB.out.grown h3 (by simp; omega)) (fun W2 hb2 => HI.out s1 (nextA a h m) (nextK k h m) v l1 kv1 W2 h1 h2 (nextA_le h m ha) (nextK_le h m hk) (nextK_len rs h m HRR.out HQ.out) (h4.same hb2) (HR.out.grown (h3.trans (grown_of_below hb2 _))) (h5.below hb2) h6 h7)
 have hoff : ∀ (W : World) (s1 : Nat) (kv1 : Value) (h : Bool), s1 ≤ 20000 → w.grownBy W (some cg) → Blk W cg 78 #[cv, rv, .int .i64 last, .int .i64 (s1 : Int), .bool true] →
     Calls Tryz.prog 134 #[.agg #[.int .i64 (a : Int), .int .i64 (k : Int), .int .i64 v], kv1, .bool h, .pointer (some ⟨wb, 0, none⟩), .pointer (some ⟨cb, 0, none⟩)] W (IPost cg cv rv last (fun s' b => s' = s1 + 1 ∧ b = false) W) := fun W s1 kv1 h h1 h3 h4 =>
   iRuleOn_of cg cv rv last a k v kv1 h m q wb cb W _ (by have := ha; omega) (by omega) (HW.out.grown h3 (by simp; omega)) (HB.out.grown h3 (by simp; omega)) (fun W2 hb2 => iRule_off cg cv rv last s1 _ _ v kv1 true W2 (h4.same hb2) h1 (.inr rfl))
 have HGO := Lib.hid hgo; have HOFF := Lib.hid hoff
 clear hgo hoff
 obtain ⟨qf, qm, qo, qv⟩ := q
 simp only at HW HQ HQW HQO ⊢
 obtain ⟨X, hX⟩ : ∃ X, X = (w.alloc (.cells #[.int .i64 qf, .int .i64 qm, .int .i64 qo, .int .i64 qv] 190)).alloc (.cells #[.int .i64 (a : Int), .int .i64 (k : Int), .int .i64 v] 197) := ⟨_, rfl⟩
 have hbX : Below w.heap.size w X := by rw [hX]; go_grown
 have hzX : X.heap.size = w.heap.size + 1 + 1 := by rw [hX]; simp
 have bL : Blk X w.heap.size 190 #[.int .i64 qf, .int .i64 qm, .int .i64 qo, .int .i64 qv] := by rw [hX]; exact (Blk.new w _ _).alloc _
 have bS : Blk X (w.heap.size + 1) 197 #[.int .i64 (a : Int), .int .i64 (k : Int), .int .i64 v] := by
   rw [hX]
   have := Blk.new (w.alloc (.cells #[.int .i64 qf, .int .i64 qm, .int .i64 qo, .int .i64 qv] 190)) 197 #[.int .i64 (a : Int), .int .i64 (k : Int), .int .i64 v]
   simpa using this
 have HX := Lib.hid hX; have HBL := Lib.hid bL; have HBS := Lib.hid bS
 have hl0 : w.heap.size < X.heap.size := by omega
 have hl1 : w.heap.size + 1 < X.heap.size := by omega
 have x0 := (show _ = some (Value.int .i64 qf) from bL.cell 0); have x1 := (show _ = some (Value.int .i64 qm) from bL.cell 1); have x2 := (show _ = some (Value.int .i64 qo) from bL.cell 2); have x3 := (show _ = some (Value.int .i64 qv) from bL.cell 3); have x4 := (show _ = some (Value.int .i64 (a : Int)) from bS.cell 0); have x5 := (show _ = some (Value.int .i64 (k : Int)) from bS.cell 1); have x6 := (show _ = some (Value.int .i64 v) from bS.cell 2)
 have HZX := Lib.hid hzX
 clear hX bL bS hzX
 go_enter Tryz.func133, Tryz.ntmps133
 go_wp2_with fail
 rw [← HX.out]
 refine (tell_any cg (.pointer po) l ⟨qf, qm, qo, qv⟩ X (HK.out.below hbX) HKW.out HO.out HQO.out).mono ?_; rintro e w1 ⟨hb, tb, rfl, htell, hb1⟩
 have hbw1 := below_then hbX hb1
 have hz1 := hb1.size
 have bL1 := HBL.out.below hb1 hl0; have bS1 := HBS.out.below hb1 hl1
 have y0 := (show _ = some (Value.int .i64 qf) from bL1.cell 0); have y1 := (show _ = some (Value.int .i64 qm) from bL1.cell 1); have y2 := (show _ = some (Value.int .i64 qo) from bL1.cell 2); have y3 := (show _ = some (Value.int .i64 qv) from bL1.cell 3); have y4 := (show _ = some (Value.int .i64 (a : Int)) from bS1.cell 0); have y5 := (show _ = some (Value.int .i64 (k : Int)) from bS1.cell 1); have y6 := (show _ = some (Value.int .i64 v) from bS1.cell 2)
 have HL1 := Lib.hid bL1; have HS1 := Lib.hid bS1
 have HG1 := Lib.hid (grown_of_below hbw1 (some cg))
 have HC1 := Lib.hid (HC.out.same hbw1)
 have HK1 := Lib.hid (HK.out.below hbw1)
 clear bL1 bS1 hb1 x0 x1 x2 x3 x4 x5 x6
 have HT := Lib.hid htell
 clear htell
 cases tb
 · have HN : Hid (tellO l ⟨qf, qm, qo, qv⟩ = none) := Lib.hid (by rcases HT.out with h | h; exact h.1; exact absurd h.2 (by simp))
   have hcg1 : cg < w1.heap.size := by omega
   have hbK : Below w1.heap.size w1 (w1.alloc (.cells #[.int .i64 qf, .int .i64 qm, .int .i64 qo, .int .i64 qv, .bool true, (.pointer po)] 258)) := by go_grown
   have hkk : KnI cg (w1.alloc (.cells #[.int .i64 qf, .int .i64 qm, .int .i64 qo, .int .i64 qv, .bool true, (.pointer po)] 258)) (.pointer (some ⟨w1.heap.size, 0, none⟩)) (l ++ [((⟨qf, qm, qo, qv⟩ : Lk), true)]).reverse := KnI.snoc cg (HK1.out.below hbK) (by omega) (Blk.new _ _ _)
   have h9 := HGO.out (w1.alloc (.cells #[.int .i64 qf, .int .i64 qm, .int .i64 qo, .int .i64 qv, .bool true, (.pointer po)] 258)) (s + 1) (l ++ [((⟨qf, qm, qo, qv⟩ : Lk), true)]) (.pointer (some ⟨w1.heap.size, 0, none⟩)) true (by omega) (by omega) (HG1.out.trans (grown_of_below hbK _)) (HC1.out.same hbK) hkk (HKW.out.snoc HQW.out) (HO.out.snoc HN.out true)
   have H9 := Lib.hid h9; have HBK := Lib.hid hbK
   clear h9 hkk hbK
   go_wp2_with fail
   refine H9.out.mono ?_; rintro e w2 ⟨rfl, s1, b1, hrun1, hb2, hg2⟩
   have hg12 := (grown_of_below HBK.out (some cg)).trans hg2
   have bL2 := HL1.out.grown hg12 (by simp; omega); have bS2 := HS1.out.grown hg12 (by simp; omega)
   have z0 := (show _ = some (Value.int .i64 qf) from bL2.cell 0); have z1 := (show _ = some (Value.int .i64 qm) from bL2.cell 1); have z2 := (show _ = some (Value.int .i64 qo) from bL2.cell 2); have z3 := (show _ = some (Value.int .i64 qv) from bL2.cell 3); have z4 := (show _ = some (Value.int .i64 (a : Int)) from bS2.cell 0); have z5 := (show _ = some (Value.int .i64 (k : Int)) from bS2.cell 1); have z6 := (show _ = some (Value.int .i64 v) from bS2.cell 2)
   have HK2 := Lib.hid (HK1.out.grown hg12)
   have HG2 := Lib.hid (HG1.out.trans hg12)
   have HB2 := Lib.hid hb2; have HRUN1 := Lib.hid hrun1
   have hz2 := hg12.size
   have hbd := hrun1.bound (by omega)
   have hcg2 : cg < w2.heap.size := by omega
   clear bL2 bS2 hb2 hrun1 hg2 hg12 y0 y1 y2 y3 y4 y5 y6
   have hbK2 : Below w2.heap.size w2 (w2.alloc (.cells #[.int .i64 qf, .int .i64 qm, .int .i64 qo, .int .i64 qv, .bool false, (.pointer po)] 258)) := by go_grown
   have hkk2 : KnI cg (w2.alloc (.cells #[.int .i64 qf, .int .i64 qm, .int .i64 qo, .int .i64 qv, .bool false, (.pointer po)] 258)) (.pointer (some ⟨w2.heap.size, 0, none⟩)) (l ++ [((⟨qf, qm, qo, qv⟩ : Lk), false)]).reverse := KnI.snoc cg (HK2.out.below hbK2) (by omega) (Blk.new _ _ _)
   cases b1
   · have h9 := HOFF.out (w2.alloc (.cells #[.int .i64 qf, .int .i64 qm, .int .i64 qo, .int .i64 qv, .bool false, (.pointer po)] 258)) s1 (.pointer (some ⟨w2.heap.size, 0, none⟩)) false (by omega) (HG2.out.trans (grown_of_below hbK2 _)) (HB2.out.same hbK2)
     have H9 := Lib.hid h9; have HBK2 := Lib.hid hbK2
     clear h9 hkk2 hbK2 hbd
     go_wp2_with fail
     refine H9.out.mono ?_; rintro e w3 ⟨rfl, s', b', ⟨rfl, rfl⟩, hb3, hg3⟩
     have HF := Lib.hid (show IPost cg cv rv last (fun s' b => RuleRun rs last a k v l s s' b) w (.returned (.tuple #[])) w3 from ⟨rfl, s1 + 1, false, .stop hs HRR.out HNV.out HQ.out HN.out HRUN1.out, hb3, (HG2.out.trans (grown_of_below HBK2.out _)).trans hg3⟩)
     clear hb3 hg3
     go_wp2
     go_end0
     exact HF.out
   · have h9 := HGO.out (w2.alloc (.cells #[.int .i64 qf, .int .i64 qm, .int .i64 qo, .int .i64 qv, .bool false, (.pointer po)] 258)) s1 (l ++ [((⟨qf, qm, qo, qv⟩ : Lk), false)]) (.pointer (some ⟨w2.heap.size, 0, none⟩)) false (by omega) (hbd.2.2 rfl) (HG2.out.trans (grown_of_below hbK2 _)) (HB2.out.same hbK2) hkk2 (HKW.out.snoc HQW.out) (HO.out.snoc HN.out false)
     have H9 := Lib.hid h9; have HBK2 := Lib.hid hbK2
     clear h9 hkk2 hbK2 hbd
     go_wp2_with fail
     refine H9.out.mono ?_; rintro e w3 ⟨rfl, s', b', hrun, hb3, hg3⟩
     have HF := Lib.hid (show IPost cg cv rv last (fun s' b => RuleRun rs last a k v l s s' b) w (.returned (.tuple #[])) w3 from ⟨rfl, s', b', .both hs HRR.out HNV.out HQ.out HN.out HRUN1.out hrun, hb3, (HG2.out.trans (grown_of_below HBK2.out _)).trans hg3⟩)
     clear hb3 hg3 hrun
     go_wp2
     go_end0
     exact HF.out
 · have HN : Hid (tellO l ⟨qf, qm, qo, qv⟩ = some hb) := Lib.hid (by rcases HT.out with h | h; exact absurd h.2 (by simp); exact h.1)
   have h9 := HGO.out w1 (s + 1) l (.pointer po) hb (by omega) (by omega) HG1.out HC1.out HK1.out HKW.out HO.out
   have H9 := Lib.hid h9
   clear h9
   go_wp2_with fail
   refine H9.out.mono ?_; rintro e w2 ⟨rfl, s', b', hrun, hb2, hg2⟩
   have HF := Lib.hid (show IPost cg cv rv last (fun s' b => RuleRun rs last a k v l s s' b) w (.returned (.tuple #[])) w2 from ⟨rfl, s', b', .told hs HRR.out HNV.out HQ.out HN.out hrun, hb2, HG1.out.trans hg2⟩)
   clear hrun hb2 hg2
   go_wp2
   go_end0
   exact HF.out
end
end Go.Proofs.YtdjgicapbpoigaaGreatDoor

namespace Go.Proofs.YtdjgicapbpoigaaGreatDoor
open Go.RowKit
set_option linter.unusedSimpArgs false
set_option linter.unusedVariables false

section
variable (cg : Nat) (cv : Value) (last : Int) (rs : List Rl)
set_option maxRecDepth 100000 in
set_option maxHeartbeats 8000000 in
theorem iRule_any (rv : Value) (hrw : ∀ r ∈ rs, RlW r) (hrl : rs.length ≤ 1000) : ∀ n, RuleIH cg cv rv last rs n := by
 intro n
 induction n with
 | zero =>
   intro s a k v l kv w hn hs ha hk hkl hC hR hK hKW hO
   exact (iRule_off cg cv rv last s a k v kv false w hC (by omega) (.inl (by omega))).mono fun e w' ⟨h1, s', b, ⟨h2, h3⟩, h4, h5⟩ => ⟨h1, s', b, by rw [h2, h3]; exact .over (by omega), by rw [h3]; rw [h3] at h4; exact h4, h5⟩
 | succ n ih =>
   intro s a k v l kv w hn hs ha hk hkl hC hR hK hKW hO
   have hcg := hC.lt
   have HI := Lib.hid ih; have HR := Lib.hid hR; have HK := Lib.hid hK; have HKW := Lib.hid hKW; have HO := Lib.hid hO; have HRW := Lib.hid hrw
   obtain ⟨A, nr, cr, rfl, hnr, hcr, hcm⟩ := hR.form
   have HNR := Lib.hid hnr
   obtain ⟨X, hX⟩ : ∃ X, X = (w.alloc (.cells #[.pointer (some ⟨cg, 0, none⟩)] 79)).alloc (.cells #[.int .i64 (a : Int), .int .i64 (k : Int), .int .i64 v] 197) := ⟨_, rfl⟩
   have hbX : Below w.heap.size w X := by rw [hX]; go_grown
   have hzX : X.heap.size = w.heap.size + 1 + 1 := by rw [hX]; simp
   have bP : Blk X w.heap.size 79 #[.pointer (some ⟨cg, 0, none⟩)] := by rw [hX]; exact (Blk.new w _ _).alloc _
   have bS : Blk X (w.heap.size + 1) 197 #[.int .i64 (a : Int), .int .i64 (k : Int), .int .i64 v] := by
     rw [hX]
     have := Blk.new (w.alloc (.cells #[.pointer (some ⟨cg, 0, none⟩)] 79)) 197 #[.int .i64 (a : Int), .int .i64 (k : Int), .int .i64 v]
     simpa using this
   have HX := Lib.hid hX; have HBP := Lib.hid bP; have HBS := Lib.hid bS; have HZX := Lib.hid hzX; have HCX := Lib.hid (hC.same hbX); have HGX := Lib.hid (grown_of_below hbX (some cg))
   clear ih hC hR hK hKW hO hrw hnr hX bP bS hzX hbX
   go_enter Tryz.func101, Tryz.ntmps101
   go_wp2_with fail
   rw [← HX.out]
   go_loopg [] (rs.length - a) (fun gk wr => ∃ (s1 a1 k1 : Nat), gk = rs.length - a1 ∧ s ≤ s1 ∧ s1 ≤ 6000 ∧ a1 ≤ rs.length ∧ k1 ≤ 200 ∧ Hid (∀ r, rs[a1]? = some r → k1 ≤ (looksOf r).length) ∧ Hid (Blk wr cg 78 #[cv, .slice A nr cr, .int .i64 last, .int .i64 (s1 : Int), .bool false]) ∧ Hid (Blk wr w.heap.size 79 #[.pointer (some ⟨cg, 0, none⟩)]) ∧ Hid (Blk wr (w.heap.size + 1) 197 #[.int .i64 (a1 : Int), .int .i64 (k1 : Int), .int .i64 v]) ∧ Hid (w.grownBy wr (some cg)) ∧ Hid (∀ t b, RuleRun rs last a1 k1 v l s1 t b → RuleRun rs last a k v l s t b))
   case atStart => exact ⟨s, a, k, rfl, Nat.le_refl _, hs, ha, hk, Lib.hid hkl, HCX, HBP, HBS, HGX, Lib.hid (fun t b h => h)⟩
   case round =>
     clear HCX HBP HBS HGX HX HZX
     obtain ⟨s1, a1, k1, hgk, hs1, hs16, ha1, hk1, HKL, HC, HP, HS, HG, HT⟩ := hrel
     have HGK := Lib.hid hgk
     clear hgk
     have hp := HP.out.lt; have hsl := HS.out.lt; have hcl := HC.out.lt
     have p0 := (show _ = some (Value.pointer (some ⟨cg, 0, none⟩)) from HP.out.cell 0)
     by_cases h6 : 6000 ≤ s1
     · go_wp2_with fail
       refine (iStep_off cg cv _ last s1 false _ HC.out (by omega) (.inl h6)).mono ?_; rintro e w1 ⟨rfl, hb1, hg1⟩
       have HF := Lib.hid (show IPost cg cv (.slice A nr cr) last (fun s' b => RuleRun rs last a k v l s s' b) w (.returned (.tuple #[])) w1 from ⟨rfl, s1 + 1, false, HT.out _ _ (.over h6), hb1, HG.out.trans hg1⟩)
       clear hb1 hg1
       go_wp2
       go_end0
       exact HF.out
     · have hs7 : s1 < 6000 := by omega
       go_wp2_with fail
       refine (iStep_on cg cv _ last s1 _ HC.out hs7).mono ?_; rintro e w1 ⟨rfl, hb1, hg1⟩
       have hP1 := HP.out.grown hg1 (by simp; omega); have hS1 := HS.out.grown hg1 (by simp; omega)
       have p0 := (show _ = some (Value.pointer (some ⟨cg, 0, none⟩)) from hP1.cell 0)
       have q0 := (show _ = some (Value.int .i64 (a1 : Int)) from hS1.cell 0); have q1 := (show _ = some (Value.int .i64 (k1 : Int)) from hS1.cell 1); have q2 := (show _ = some (Value.int .i64 v) from hS1.cell 2)
       have c1 := (show _ = some (Value.slice A nr cr) from hb1.cell 1); have c2 := (show _ = some (Value.int .i64 last) from hb1.cell 2); have c4 := (show _ = some (Value.bool false) from hb1.cell 4); have cf4 := hb1.frozen 4
       have HB1 := Lib.hid hb1; have HP1 := Lib.hid hP1; have HS1 := Lib.hid hS1; have HG1 := Lib.hid (HG.out.trans hg1)
       have hz1 := hg1.size
       have hk2 : ∀ (n : Nat) (u : Value), ((w1.drewN n).setCell ⟨cg, 4, none⟩ u).cell? ⟨cg, 2, none⟩ = some (.int .i64 last) := fun n u => ((HB1.out.drewN n).set_ 4 u).cell 2
       have hcl1 : cg < w1.heap.size := by omega
       have hp1 : w.heap.size < w1.heap.size := by omega
       have hsl1 : w.heap.size + 1 < w1.heap.size := by omega
       have hn1 : ¬ w.heap.size = cg := by omega
       have hn2 : ¬ cg = w.heap.size := by omega
       have hn3 : ¬ w.heap.size + 1 = cg := by omega
       have hn4 : ¬ cg = w.heap.size + 1 := by omega
       clear hb1 hP1 hS1 hg1 h6 HC HP HS
       by_cases hal : a1 = nr
       · have hd : ((a1 : Int) == (nr : Int)) = true := by simp [hal]
         have HA := Lib.hid (show rs.length ≤ a1 by rw [← HNR.out]; omega)
         clear hal
         go_wp2
         go_quiet ((fail))
         go_wp2
         by_cases hv : v = last
         · have HD := Lib.hid (show decide (v = last) = true by simp [hv])
           have hne : (last != v) = false := by simp [hv]
           clear hv
           go_region_held3 (fun w' => w'.cell? ⟨w.heap.size, 0, none⟩ = some (.pointer (some ⟨cg, 0, none⟩)) ∧ w'.cell? ⟨cg, 2, none⟩ = some (.int .i64 last) ∧ w'.cell? ⟨w.heap.size + 1, 2, none⟩ = some (.int .i64 v)) (go_keep) (fail)
           go_wp2
           go_end0
           exact ⟨rfl, s1 + 1, true, HT.out _ _ (by have := RuleRun.done (rs := rs) (last := last) (k := k1) (v := v) (l := l) hs7 HA.out; rw [HD.out] at this; exact this), HB1.out.set_ 4 (.bool false), (HG1.out.trans (grown_of_below (kDrew _ _ _) _)).trans (grown_set _ _ _ _)⟩
         · have HD := Lib.hid (show decide (v = last) = false by simp [hv])
           have hne : (last != v) = true := by simp; exact fun e => hv e.symm
           clear hv
           go_region_held3 (fun w' => w'.cell? ⟨w.heap.size, 0, none⟩ = some (.pointer (some ⟨cg, 0, none⟩)) ∧ w'.cell? ⟨cg, 2, none⟩ = some (.int .i64 last) ∧ w'.cell? ⟨w.heap.size + 1, 2, none⟩ = some (.int .i64 v)) (go_keep) (fail)
           go_wp2
           go_end0
           exact ⟨rfl, s1 + 1, false, HT.out _ _ (by have := RuleRun.done (rs := rs) (last := last) (k := k1) (v := v) (l := l) hs7 HA.out; rw [HD.out] at this; exact this), HB1.out.set_ 4 (.bool true), (HG1.out.trans (grown_of_below (kDrew _ _ _) _)).trans (grown_set _ _ _ _)⟩
       · have hd : ((a1 : Int) == (nr : Int)) = false := by simp; omega
         have han : a1 < nr := by have := HNR.out; omega
         clear hal
         obtain ⟨r, hr⟩ : ∃ r, rs[a1]? = some r := ⟨_, List.getElem?_eq_getElem (by rw [← HNR.out]; exact han)⟩
         have hrw := HRW.out r (List.mem_of_getElem? hr)
         obtain ⟨rb, roff, n', c', A2, n2, c2', nb, e, -, -, -, hbl, hbn, hnb, r0, r1, r2⟩ := ckN_get (HR.out.grown HG1.out) hr
         obtain ⟨rfl, rfl, rfl⟩ : A = some ⟨rb, roff, none⟩ ∧ nr = n' ∧ cr = c' := by simpa using e
         have HRR := Lib.hid hr; have HRWr := Lib.hid hrw; have HNB := Lib.hid hnb
         clear e hr hrw hnb hk2
         go_wp2
         go_quiet ((fail))
         rename_i nq
         go_wp2
         obtain ⟨V, hV⟩ : ∃ V, V = w1.drewN nq := ⟨_, rfl⟩
         rw [← hV]
         have hbV : Below w1.heap.size w1 V := by rw [hV]; exact kDrew _ _ _
         have hzV : V.heap.size = w1.heap.size := by rw [hV]; rfl
         have HV := Lib.hid hV; have HZV := Lib.hid hzV
         have p0 := (show V.cell? ⟨w.heap.size, 0, none⟩ = _ from (hbV.cell (p := ⟨w.heap.size, 0, none⟩) hp1).trans p0); have c1 := (show V.cell? ⟨cg, 1, none⟩ = _ from (hbV.cell (p := ⟨cg, 1, none⟩) hcl1).trans c1); have q0 := (show V.cell? ⟨w.heap.size + 1, 0, none⟩ = _ from (hbV.cell (p := ⟨w.heap.size + 1, 0, none⟩) hsl1).trans q0)
         have r0 := (show V.cell? ⟨rb, roff + a1 * 3, none⟩ = _ from (hbV.cell (p := ⟨rb, roff + a1 * 3, none⟩) hbl).trans r0); have r1 := (show V.cell? ⟨rb, roff + a1 * 3 + 1, none⟩ = _ from (hbV.cell (p := ⟨rb, roff + a1 * 3 + 1, none⟩) hbl).trans r1); have r2 := (show V.cell? ⟨rb, roff + a1 * 3 + 2, none⟩ = _ from (hbV.cell (p := ⟨rb, roff + a1 * 3 + 2, none⟩) hbl).trans r2)
         have nw1 := World.new_ne V _ p0; have nw2 := World.new_ne V _ c1; have nw3 := World.new_ne V _ q0; have nw4 := World.new_ne V _ r0; have nw5 := World.new_ne V _ r1; have nw6 := World.new_ne V _ r2
         have HB2 := Lib.hid (HB1.out.same hbV); have HP2 := Lib.hid (HP1.out.same hbV); have HS2 := Lib.hid (HS1.out.same hbV); have HG2 := Lib.hid (HG1.out.trans (grown_of_below hbV _))
         clear hV hzV hbV HB1 HP1 HS1
         go_region_held3 (fun w' => w'.cell? ⟨w.heap.size, 0, none⟩ = some (.pointer (some ⟨cg, 0, none⟩)) ∧ w'.cell? ⟨cg, 1, none⟩ = some (.slice (some ⟨rb, roff, none⟩) nr cr) ∧ w'.cell? ⟨w.heap.size + 1, 0, none⟩ = some (.int .i64 (a1 : Int)) ∧ w'.cell? ⟨rb, roff + a1 * 3, none⟩ = some (.slice A2 n2 c2') ∧ w'.cell? ⟨rb, roff + a1 * 3 + 1, none⟩ = some (.int .i64 r.verdict) ∧ w'.cell? ⟨rb, roff + a1 * 3 + 2, none⟩ = some (.bool nb)) (go_keep) (fail)
         obtain ⟨Z, hZ⟩ : ∃ Z, Z = (V.alloc (.cells #[.slice A2 n2 c2', .int .i64 r.verdict, .bool nb] 126)).drew := ⟨_, rfl⟩
         have hbZ : Below V.heap.size V Z := by rw [hZ]; go_grown
         have hzZ : Z.heap.size = V.heap.size + 1 := by rw [hZ]; simp
         have bZ : Blk Z V.heap.size 126 #[.slice A2 n2 c2', .int .i64 r.verdict, .bool nb] := by rw [hZ]; exact (Blk.new V _ _).drew
         have HZ := Lib.hid hZ
         have hvz := HZV.out
         have i1 : cg < Z.heap.size := by omega
         have i2 : w.heap.size < Z.heap.size := by omega
         have i3 : w.heap.size + 1 < Z.heap.size := by omega
         have i4 : V.heap.size < Z.heap.size := by omega
         have i5 : ¬ V.heap.size = cg := by omega
         have i6 : ¬ V.heap.size = w.heap.size + 1 := by omega
         have BZ := HB2.out.same hbZ; have PZ := HP2.out.same hbZ; have SZ := HS2.out.same hbZ
         have p0 := (show Z.cell? ⟨w.heap.size, 0, none⟩ = some (.pointer (some ⟨cg, 0, none⟩)) from PZ.cell 0)
         have q0 := (show Z.cell? ⟨w.heap.size + 1, 0, none⟩ = some (.int .i64 (a1 : Int)) from SZ.cell 0); have q1 := (show Z.cell? ⟨w.heap.size + 1, 1, none⟩ = some (.int .i64 (k1 : Int)) from SZ.cell 1); have q2 := (show Z.cell? ⟨w.heap.size + 1, 2, none⟩ = some (.int .i64 v) from SZ.cell 2)
         have t0 := (show Z.cell? ⟨V.heap.size, 0, none⟩ = some (.slice A2 n2 c2') from bZ.cell 0); have t1 := (show Z.cell? ⟨V.heap.size, 1, none⟩ = some (.int .i64 r.verdict) from bZ.cell 1); have t2 := (show Z.cell? ⟨V.heap.size, 2, none⟩ = some (.bool nb) from bZ.cell 2)
         have c4 := (show Z.cell? ⟨cg, 4, none⟩ = some (.bool false) from BZ.cell 4); have cf4 := BZ.frozen 4
         have sf0 := SZ.frozen 0; have sf1 := SZ.frozen 1; have sf2 := SZ.frozen 2
         have HBZ := Lib.hid BZ; have HPZ := Lib.hid PZ; have HSZ := Lib.hid SZ; have HGZ := Lib.hid (HG2.out.trans (grown_of_below hbZ _)); have HG1Z := Lib.hid ((grown_of_below (show Below w1.heap.size w1 V by rw [HV.out]; exact kDrew _ _ _) (some cg)).trans (grown_of_below hbZ _))
         rw [← hZ]
         clear hZ hbZ hzZ bZ BZ PZ SZ r0 r1 r2 c1 c2 nw1 nw2 nw3 nw4 nw5 nw6 hvz
         rcases HNB.out with ⟨rfl, hnev⟩ | ⟨rfl, hnev, hlk⟩
         · have HNV := Lib.hid hnev
           clear hnev
           go_wp2
           go_roundg (rs.length - (a1 + 1))
           case measure => have h1 := HGK.out; have h2 := HNR.out; omega
           case rel => exact ⟨s1 + 1, a1 + 1, 0, rfl, by omega, by omega, by have := HNR.out; omega, by omega, Lib.hid (fun r' _ => Nat.zero_le _), Lib.hid (((HBZ.out.far (p := ⟨w.heap.size + 1, 0, none⟩) hn4 _).far (p := ⟨w.heap.size + 1, 1, none⟩) hn4 _).far (p := ⟨w.heap.size + 1, 2, none⟩) hn4 _), Lib.hid (((HPZ.out.far (p := ⟨w.heap.size + 1, 0, none⟩) (by simp) _).far (p := ⟨w.heap.size + 1, 1, none⟩) (by simp) _).far (p := ⟨w.heap.size + 1, 2, none⟩) (by simp) _), Lib.hid (((HSZ.out.set_ 0 (.int .i64 ((a1 : Int) + 1))).set_ 1 (.int .i64 0)).set_ 2 (.int .i64 v)), Lib.hid (grown_new (grown_new (grown_new HGZ.out (by omega) _) (by omega) _) (by omega) _), Lib.hid (fun t b h => HT.out t b (.never hs7 HRR.out HNV.out h))⟩
         · have HNV := Lib.hid hnev
           have hlz := hlk.grown HG1Z.out
           obtain ⟨A', n', c'', e, hA, hne⟩ := hlz
           obtain ⟨rfl, rfl, rfl⟩ : A2 = A' ∧ n2 = n' ∧ c2' = c'' := by simpa using e
           have hn2 : (looksOf r).length = n2 := by have := hA.len; rwa [knR_len] at this
           have hlen2 := looksOf_len HRWr.out
           have hkn := HKL.out r HRR.out
           rw [hn2] at hkn hlen2
           have hac := hA.cap
           have ham := hA.max
           unfold maxLen at ham
           have HN2 := Lib.hid hn2
           clear hnev hlk e hn2
           by_cases hk2 : k1 = n2
           · have hd2 : ((k1 : Int) == (n2 : Int)) = true := by simp [hk2]
             have HLE := Lib.hid (show (looksOf r).length ≤ k1 by rw [HN2.out]; omega)
             clear hk2 hA hne
             by_cases hv : v = r.verdict
             · have HD := Lib.hid (show decide (v = r.verdict) = true by simp [hv])
               have hne : (r.verdict != v) = false := by simp [hv]
               clear hv
               go_wp2
               go_end0
               exact ⟨rfl, s1 + 1, true, HT.out _ _ (by have := RuleRun.fits (rs := rs) (last := last) (k := k1) (v := v) (l := l) hs7 HRR.out HNV.out HLE.out; rw [HD.out] at this; exact this), HBZ.out.set_ 4 (.bool false), HGZ.out.trans (grown_set _ _ _ _)⟩
             · have HD := Lib.hid (show decide (v = r.verdict) = false by simp [hv])
               have hne : (r.verdict != v) = true := by simp; exact fun e => hv e.symm
               clear hv
               go_wp2
               go_end0
               exact ⟨rfl, s1 + 1, false, HT.out _ _ (by have := RuleRun.fits (rs := rs) (last := last) (k := k1) (v := v) (l := l) hs7 HRR.out HNV.out HLE.out; rw [HD.out] at this; exact this), HBZ.out.set_ 4 (.bool true), HGZ.out.trans (grown_set _ _ _ _)⟩
           · have hd2 : ((k1 : Int) == (n2 : Int)) = false := by simp; omega
             have hkl2 : k1 < n2 := by omega
             obtain ⟨xb, xo, ⟨⟨qf, qm, qo, qv⟩, m⟩, rfl, hxb, hq, hxc⟩ := kn_get (cg := 0) hA hkl2
             obtain ⟨x0, x1, x2, x3, x4⟩ := hxc Z _ (Below.refl _ _) hxb
             simp only at x0 x1 x2 x3 x4
             have hlw := looksOf_word HRWr.out _ (List.mem_of_getElem? hq)
             simp only at hlw
             have hbW : Below Z.heap.size Z (Z.alloc (.cells #[.int .i64 qf, .int .i64 qm, .int .i64 qo, .int .i64 qv, .bool m] 192)) := by go_grown
             have hbW2 := Blk.new Z 192 #[.int .i64 qf, .int .i64 qm, .int .i64 qo, .int .i64 qv, .bool m]
             have h9 := iBothRule_of cg cv (.slice (some ⟨rb, roff, none⟩) nr cr) last rs n HI.out s1 a1 k1 v l kv (Z.alloc (.cells #[.int .i64 qf, .int .i64 qm, .int .i64 qo, .int .i64 qv, .bool m] 192)) r ⟨qf, qm, qo, qv⟩ m Z.heap.size w.heap.size hrl (by omega) hs7 HRR.out HNV.out hq (by have := HNR.out; omega) (by omega) hlw.1 (hlw.2 HNV.out) (HBZ.out.same hbW) (HR.out.grown (HGZ.out.trans (grown_of_below hbW _))) (HK.out.grown (HGZ.out.trans (grown_of_below hbW _))) HKW.out HO.out hbW2 (HPZ.out.same hbW) (by omega) hn1
             have H9 := Lib.hid h9; have HBW := Lib.hid hbW
             clear h9 hbW hbW2 hq hxc hlw hA hne hk2
             go_wp2_with fail
             refine H9.out.mono ?_; rintro e w3 ⟨rfl, s', b', hrun, hb3, hg3⟩
             have HF := Lib.hid (show IPost cg cv (.slice (some ⟨rb, roff, none⟩) nr cr) last (fun s' b => RuleRun rs last a k v l s s' b) w (.returned (.tuple #[])) w3 from ⟨rfl, s', b', HT.out _ _ hrun, hb3, (HGZ.out.trans (grown_of_below HBW.out _)).trans hg3⟩)
             clear hrun hb3 hg3
             go_wp2
             go_end0
             exact HF.out
end
end Go.Proofs.YtdjgicapbpoigaaGreatDoor

namespace Go.Proofs.YtdjgicapbpoigaaGreatDoor
open Go.RowKit
set_option linter.unusedSimpArgs false
set_option linter.unusedVariables false

theorem iHolds_eq (a b : Int) (w : World) : Calls Tryz.prog 136 #[.int .i64 1, .int .i64 a, .int .i64 b] w fun e w' => e = .returned (.bool (a == b)) ∧ w = w' := by
 go_enter Tryz.func136, Tryz.ntmps136
 go_wp2
 go_ret
 exact ⟨rfl, rfl⟩
theorem iHolds_gt (a b : Int) (w : World) : Calls Tryz.prog 136 #[.int .i64 3, .int .i64 a, .int .i64 b] w fun e w' => e = .returned (.bool (decide (b < a))) ∧ w = w' := by
 go_enter Tryz.func136, Tryz.ntmps136
 go_wp2
 all_goals
   go_ret
   exact ⟨ret_bool (by first | rfl | simp; omega), rfl⟩

section
variable (cg : Nat) (cv rv : Value) (last : Int) (rs : List Rl) (g : List In4)
theorem iPlace_off (s : Nat) (a f m : Int) (kv : Value) (ov : Bool) (w : World) (h : Blk w cg 78 #[cv, rv, .int .i64 last, .int .i64 (s : Int), .bool ov]) (hs : s ≤ 20000) (ho : 6000 ≤ s ∨ ov = true) :
   Calls Tryz.prog 67 #[.pointer (some ⟨cg, 0, none⟩), .agg #[.int .i64 a, .int .i64 f, .int .i64 m], kv] w (IPost cg cv rv last (fun s' b => s' = s + 1 ∧ b = false) w) := by
 obtain ⟨X, hX⟩ : ∃ X, X = w.alloc (.cells #[.int .i64 a, .int .i64 f, .int .i64 m] 130) := ⟨_, rfl⟩
 have hbX : Below w.heap.size w X := by rw [hX]; go_grown
 have H := Lib.hid (h.same hbX); have HO := Lib.hid ho; have HX := Lib.hid hX; clear h ho hX
 go_enter Tryz.func67, Tryz.ntmps67
 go_wp2_with fail
 rw [← HX.out]
 go_loopg [] 1 (fun gk wr => wr = X ∧ gk = 1)
 case atStart => exact ⟨rfl, rfl⟩
 case round =>
   obtain ⟨rfl, -⟩ := hrel
   go_wp2_with fail
   refine (iStep_off cg cv rv last s ov _ H.out hs HO.out).mono ?_; rintro e w1 ⟨rfl, hb, hg⟩
   have HB := Lib.hid hb; clear hb
   go_wp2
   go_end0
   exact ⟨rfl, s + 1, false, ⟨rfl, rfl⟩, HB.out, (grown_of_below hbX _).trans hg⟩

set_option maxHeartbeats 2000000 in
theorem iWayOn_of (a yn nn : Nat) (op kn f m : Int) (kv : Value) (h : Bool) (ib cb : Nat) (w : World) (R : Nat → Bool → Prop) (ha : a ≤ 100000) (hy : yn ≤ 100000) (hn : nn ≤ 100000)
   (hI : Blk w ib 63 #[.int .i64 op, .int .i64 kn, .int .i64 (yn : Int), .int .i64 (nn : Int)]) (hC : Blk w cb 79 #[.pointer (some ⟨cg, 0, none⟩)])
   (H : ∀ W, Below w.heap.size w W → Calls Tryz.prog 67 #[.pointer (some ⟨cg, 0, none⟩), .agg #[.int .i64 ((a + (1 + (if h then yn else nn)) : Nat) : Int), .int .i64 f, .int .i64 m], kv] W (IPost cg cv rv last R W)) :
   Calls Tryz.prog 135 #[.agg #[.int .i64 (a : Int), .int .i64 f, .int .i64 m], kv, .bool h, .pointer (some ⟨ib, 0, none⟩), .pointer (some ⟨cb, 0, none⟩)] w (IPost cg cv rv last R w) := by
 have x2 := (show _ = some (Value.int .i64 (yn : Int)) from hI.cell 2); have x3 := (show _ = some (Value.int .i64 (nn : Int)) from hI.cell 3)
 have x0 := (show _ = some (Value.pointer (some ⟨cg, 0, none⟩)) from hC.cell 0)
 have l1 := hI.lt; have l2 := hC.lt
 have HH := Lib.hid H
 clear H hI hC
 cases h
 · have h9 : Calls Tryz.prog 67 #[.pointer (some ⟨cg, 0, none⟩), .agg #[.int .i64 ((a : Int) + (1 + (nn : Int))), .int .i64 f, .int .i64 m], kv] (w.alloc (.cells #[.int .i64 ((a : Int) + (1 + (nn : Int))), .int .i64 f, .int .i64 m] 130)) (IPost cg cv rv last R (w.alloc (.cells #[.int .i64 ((a : Int) + (1 + (nn : Int))), .int .i64 f, .int .i64 m] 130))) := HH.out (w.alloc (.cells #[.int .i64 ((a : Int) + (1 + (nn : Int))), .int .i64 f, .int .i64 m] 130)) (by go_grown)
   have H9 := Lib.hid h9
   clear h9 HH
   go_enter Tryz.func135, Tryz.ntmps135
   go_wp2_with fail
   refine H9.out.mono ?_; rintro e w3 ⟨rfl, s', b', hrun, hb3, hg3⟩
   have HF := Lib.hid (show IPost cg cv rv last R w (.returned (.tuple #[])) w3 from ⟨rfl, s', b', hrun, hb3, (grown_of_below (by go_grown) _).trans hg3⟩)
   clear hrun hb3 hg3
   go_wp2
   go_end0
   exact HF.out
 · have h9 : Calls Tryz.prog 67 #[.pointer (some ⟨cg, 0, none⟩), .agg #[.int .i64 ((a : Int) + (1 + (yn : Int))), .int .i64 f, .int .i64 m], kv] (w.alloc (.cells #[.int .i64 ((a : Int) + (1 + (yn : Int))), .int .i64 f, .int .i64 m] 130)) (IPost cg cv rv last R (w.alloc (.cells #[.int .i64 ((a : Int) + (1 + (yn : Int))), .int .i64 f, .int .i64 m] 130))) := HH.out (w.alloc (.cells #[.int .i64 ((a : Int) + (1 + (yn : Int))), .int .i64 f, .int .i64 m] 130)) (by go_grown)
   have H9 := Lib.hid h9
   clear h9 HH
   go_enter Tryz.func135, Tryz.ntmps135
   go_wp2_with fail
   refine H9.out.mono ?_; rintro e w3 ⟨rfl, s', b', hrun, hb3, hg3⟩
   have HF := Lib.hid (show IPost cg cv rv last R w (.returned (.tuple #[])) w3 from ⟨rfl, s', b', hrun, hb3, (grown_of_below (by go_grown) _).trans hg3⟩)
   clear hrun hb3 hg3
   go_wp2
   go_end0
   exact HF.out

def PlaceIH (n : Nat) : Prop := ∀ (s a : Nat) (f m : Int) (l : List (Lk × Bool)) (kv : Value) (w : World), 6000 ≤ s + n → s ≤ 6000 → a < g.length →
   Blk w cg 78 #[cv, rv, .int .i64 last, .int .i64 (s : Int), .bool false] → SlN cg w 4 cv (insR g) → CkN cg w rv rs → KnI cg w kv l.reverse → KnW l → Once l →
   Calls Tryz.prog 67 #[.pointer (some ⟨cg, 0, none⟩), .agg #[.int .i64 (a : Int), .int .i64 f, .int .i64 m], kv] w (IPost cg cv rv last (fun s' b => WayRun g rs last a f m l s s' b) w)
set_option maxRecDepth 100000 in
set_option maxHeartbeats 8000000 in
theorem iBothWay_of (n : Nat) (ih : PlaceIH cg cv rv last rs g n) (s a kn yn nn : Nat) (op f m : Int) (l : List (Lk × Bool)) (kv : Value) (w : World) (q : Lk) (ib cb : Nat) (hn : 6000 ≤ s + 1 + n) (hs : s < 6000) (hr : g[a]? = some ⟨op, (kn : Int), (yn : Int), (nn : Int)⟩) (hop : op = 3 ∨ op = 4) (hm0 : m ≠ 0) (hql : q = ⟨f, m, lookOp ⟨op, (kn : Int), (yn : Int), (nn : Int)⟩, (kn : Int)⟩) (ha : a ≤ 1000) (hyl : a + 1 + yn < g.length) (hnl : a + 1 + nn < g.length) (hgl : g.length ≤ 1000)
   (hqw : 0 ≤ q.value ∧ q.value ≤ 4294967295) (hqo : q.op = 1 ∨ q.op = 3)
   (hC : Blk w cg 78 #[cv, rv, .int .i64 last, .int .i64 ((s + 1 : Nat) : Int), .bool false]) (hV : SlN cg w 4 cv (insR g)) (hR : CkN cg w rv rs) (hK : KnI cg w kv l.reverse) (hKW : KnW l) (hO : Once l)
   (hI : Blk w ib 63 #[.int .i64 op, .int .i64 (kn : Int), .int .i64 (yn : Int), .int .i64 (nn : Int)]) (hB : Blk w cb 79 #[.pointer (some ⟨cg, 0, none⟩)]) (hwc : ib ≠ cg) (hcc : cb ≠ cg) :
   Calls Tryz.prog 137 #[kv, .agg #[.int .i64 q.field, .int .i64 q.mask, .int .i64 q.op, .int .i64 q.value], .agg #[.int .i64 (a : Int), .int .i64 f, .int .i64 m], .func (.func 135) #[] #[.pointer (some ⟨ib, 0, none⟩), .pointer (some ⟨cb, 0, none⟩)]] w (IPost cg cv rv last (fun s' b => WayRun g rs last a f m l s s' b) w) := by
 have hcl := hC.lt
 obtain ⟨po, rfl⟩ := hK.ptr
 have HI := Lib.hid ih; have HC := Lib.hid hC; have HV := Lib.hid hV; have HR := Lib.hid hR; have HK := Lib.hid hK; have HKW := Lib.hid hKW; have HO := Lib.hid hO; have HW := Lib.hid hI; have HB := Lib.hid hB
 have HRR := Lib.hid hr; have HQL := Lib.hid hql; have HQW := Lib.hid hqw; have HQO := Lib.hid hqo; have HOP := Lib.hid hop
 clear ih hC hV hR hK hKW hO hI hB hr hql hqw hqo hop
 have hgo : ∀ (W : World) (s1 : Nat) (l1 : List (Lk × Bool)) (kv1 : Value) (h : Bool), 6000 ≤ s1 + n → s1 ≤ 6000 → w.grownBy W (some cg) → Blk W cg 78 #[cv, rv, .int .i64 last, .int .i64 (s1 : Int), .bool false] → KnI cg W kv1 l1.reverse → KnW l1 → Once l1 →
     Calls Tryz.prog 135 #[.agg #[.int .i64 (a : Int), .int .i64 f, .int .i64 m], kv1, .bool h, .pointer (some ⟨ib, 0, none⟩), .pointer (some ⟨cb, 0, none⟩)] W (IPost cg cv rv last (fun s' b => WayRun g rs last (a + 1 + wayOf ⟨op, (kn : Int), (yn : Int), (nn : Int)⟩ h) f m l1 s1 s' b) W) := fun W s1 l1 kv1 h h1 h2 h3 h4 h5 h6 h7 =>
   iWayOn_of cg cv rv last a yn nn op (kn : Int) f m kv1 h ib cb W _ (by omega) (by omega) (by omega) (HW.out.grown h3 (by simp; omega)) (HB.out.grown h3 (by simp; omega)) (fun W2 hb2 => by
     have e : a + 1 + wayOf ⟨op, (kn : Int), (yn : Int), (nn : Int)⟩ h = a + (1 + (if h then yn else nn)) := by cases h <;> simp [wayOf] <;> omega
     rw [e]
     exact HI.out s1 (a + (1 + (if h then yn else nn))) f m l1 kv1 W2 h1 h2 (by cases h <;> simp <;> omega) (h4.same hb2) (HV.out.grown (h3.trans (grown_of_below hb2 _))) (HR.out.grown (h3.trans (grown_of_below hb2 _))) (h5.below hb2) h6 h7)
 have hoff : ∀ (W : World) (s1 : Nat) (kv1 : Value) (h : Bool), s1 ≤ 20000 → w.grownBy W (some cg) → Blk W cg 78 #[cv, rv, .int .i64 last, .int .i64 (s1 : Int), .bool true] →
     Calls Tryz.prog 135 #[.agg #[.int .i64 (a : Int), .int .i64 f, .int .i64 m], kv1, .bool h, .pointer (some ⟨ib, 0, none⟩), .pointer (some ⟨cb, 0, none⟩)] W (IPost cg cv rv last (fun s' b => s' = s1 + 1 ∧ b = false) W) := fun W s1 kv1 h h1 h3 h4 =>
   iWayOn_of cg cv rv last a yn nn op (kn : Int) f m kv1 h ib cb W _ (by omega) (by omega) (by omega) (HW.out.grown h3 (by simp; omega)) (HB.out.grown h3 (by simp; omega)) (fun W2 hb2 => iPlace_off cg cv rv last s1 _ f m kv1 true W2 (h4.same hb2) h1 (.inr rfl))
 have HGO := Lib.hid hgo; have HOFF := Lib.hid hoff
 clear hgo hoff
 obtain ⟨qf, qm, qo, qv⟩ := q
 simp only at HQW HQO ⊢
 obtain ⟨X, hX⟩ : ∃ X, X = (w.alloc (.cells #[.int .i64 qf, .int .i64 qm, .int .i64 qo, .int .i64 qv] 190)).alloc (.cells #[.int .i64 (a : Int), .int .i64 f, .int .i64 m] 130) := ⟨_, rfl⟩
 have hbX : Below w.heap.size w X := by rw [hX]; go_grown
 have hzX : X.heap.size = w.heap.size + 1 + 1 := by rw [hX]; simp
 have bL : Blk X w.heap.size 190 #[.int .i64 qf, .int .i64 qm, .int .i64 qo, .int .i64 qv] := by rw [hX]; exact (Blk.new w _ _).alloc _
 have bS : Blk X (w.heap.size + 1) 130 #[.int .i64 (a : Int), .int .i64 f, .int .i64 m] := by
   rw [hX]
   have := Blk.new (w.alloc (.cells #[.int .i64 qf, .int .i64 qm, .int .i64 qo, .int .i64 qv] 190)) 130 #[.int .i64 (a : Int), .int .i64 f, .int .i64 m]
   simpa using this
 have HX := Lib.hid hX; have HBL := Lib.hid bL; have HBS := Lib.hid bS
 have hl0 : w.heap.size < X.heap.size := by omega
 have hl1 : w.heap.size + 1 < X.heap.size := by omega
 have x0 := (show _ = some (Value.int .i64 qf) from bL.cell 0); have x1 := (show _ = some (Value.int .i64 qm) from bL.cell 1); have x2 := (show _ = some (Value.int .i64 qo) from bL.cell 2); have x3 := (show _ = some (Value.int .i64 qv) from bL.cell 3); have x4 := (show _ = some (Value.int .i64 (a : Int)) from bS.cell 0); have x5 := (show _ = some (Value.int .i64 f) from bS.cell 1); have x6 := (show _ = some (Value.int .i64 m) from bS.cell 2)
 have HZX := Lib.hid hzX
 clear hX bL bS hzX
 go_enter Tryz.func137, Tryz.ntmps137
 go_wp2_with fail
 rw [← HX.out]
 refine (tell_any cg (.pointer po) l ⟨qf, qm, qo, qv⟩ X (HK.out.below hbX) HKW.out HO.out HQO.out).mono ?_; rintro e w1 ⟨hb, tb, rfl, htell, hb1⟩
 have hbw1 := below_then hbX hb1
 have hz1 := hb1.size
 have bL1 := HBL.out.below hb1 hl0; have bS1 := HBS.out.below hb1 hl1
 have y0 := (show _ = some (Value.int .i64 qf) from bL1.cell 0); have y1 := (show _ = some (Value.int .i64 qm) from bL1.cell 1); have y2 := (show _ = some (Value.int .i64 qo) from bL1.cell 2); have y3 := (show _ = some (Value.int .i64 qv) from bL1.cell 3); have y4 := (show _ = some (Value.int .i64 (a : Int)) from bS1.cell 0); have y5 := (show _ = some (Value.int .i64 f) from bS1.cell 1); have y6 := (show _ = some (Value.int .i64 m) from bS1.cell 2)
 have HL1 := Lib.hid bL1; have HS1 := Lib.hid bS1
 have HG1 := Lib.hid (grown_of_below hbw1 (some cg))
 have HC1 := Lib.hid (HC.out.same hbw1)
 have HK1 := Lib.hid (HK.out.below hbw1)
 clear bL1 bS1 hb1 x0 x1 x2 x3 x4 x5 x6
 have HT := Lib.hid htell
 clear htell
 cases tb
 · have HN : Hid (tellO l ⟨qf, qm, qo, qv⟩ = none) := Lib.hid (by rcases HT.out with h | h; exact h.1; exact absurd h.2 (by simp))
   have hcg1 : cg < w1.heap.size := by omega
   have hbK : Below w1.heap.size w1 (w1.alloc (.cells #[.int .i64 qf, .int .i64 qm, .int .i64 qo, .int .i64 qv, .bool true, (.pointer po)] 258)) := by go_grown
   have hkk : KnI cg (w1.alloc (.cells #[.int .i64 qf, .int .i64 qm, .int .i64 qo, .int .i64 qv, .bool true, (.pointer po)] 258)) (.pointer (some ⟨w1.heap.size, 0, none⟩)) (l ++ [((⟨qf, qm, qo, qv⟩ : Lk), true)]).reverse := KnI.snoc cg (HK1.out.below hbK) (by omega) (Blk.new _ _ _)
   have HN2 := Lib.hid (show tellO l ⟨f, m, lookOp ⟨op, (kn : Int), (yn : Int), (nn : Int)⟩, (kn : Int)⟩ = none by rw [← HQL.out]; exact HN.out)
   have h9 := HGO.out (w1.alloc (.cells #[.int .i64 qf, .int .i64 qm, .int .i64 qo, .int .i64 qv, .bool true, (.pointer po)] 258)) (s + 1) (l ++ [((⟨qf, qm, qo, qv⟩ : Lk), true)]) (.pointer (some ⟨w1.heap.size, 0, none⟩)) true (by omega) (by omega) (HG1.out.trans (grown_of_below hbK _)) (HC1.out.same hbK) hkk (HKW.out.snoc HQW.out) (HO.out.snoc HN.out true)
   have H9 := Lib.hid h9; have HBK := Lib.hid hbK
   clear h9 hkk hbK
   go_wp2_with fail
   refine H9.out.mono ?_; rintro e w2 ⟨rfl, s1, b1, hrun1, hb2, hg2⟩
   have hg12 := (grown_of_below HBK.out (some cg)).trans hg2
   have bL2 := HL1.out.grown hg12 (by simp; omega); have bS2 := HS1.out.grown hg12 (by simp; omega)
   have z0 := (show _ = some (Value.int .i64 qf) from bL2.cell 0); have z1 := (show _ = some (Value.int .i64 qm) from bL2.cell 1); have z2 := (show _ = some (Value.int .i64 qo) from bL2.cell 2); have z3 := (show _ = some (Value.int .i64 qv) from bL2.cell 3); have z4 := (show _ = some (Value.int .i64 (a : Int)) from bS2.cell 0); have z5 := (show _ = some (Value.int .i64 f) from bS2.cell 1); have z6 := (show _ = some (Value.int .i64 m) from bS2.cell 2)
   have HK2 := Lib.hid (HK1.out.grown hg12)
   have HG2 := Lib.hid (HG1.out.trans hg12)
   have HB2 := Lib.hid hb2; have HRUN1 := Lib.hid hrun1; have HRUNQ := Lib.hid (by have := hrun1; rw [HQL.out] at this; exact this)
   have hz2 := hg12.size
   have hbd := hrun1.bound (by omega)
   have hcg2 : cg < w2.heap.size := by omega
   clear bL2 bS2 hb2 hrun1 hg2 hg12 y0 y1 y2 y3 y4 y5 y6
   have hbK2 : Below w2.heap.size w2 (w2.alloc (.cells #[.int .i64 qf, .int .i64 qm, .int .i64 qo, .int .i64 qv, .bool false, (.pointer po)] 258)) := by go_grown
   have hkk2 : KnI cg (w2.alloc (.cells #[.int .i64 qf, .int .i64 qm, .int .i64 qo, .int .i64 qv, .bool false, (.pointer po)] 258)) (.pointer (some ⟨w2.heap.size, 0, none⟩)) (l ++ [((⟨qf, qm, qo, qv⟩ : Lk), false)]).reverse := KnI.snoc cg (HK2.out.below hbK2) (by omega) (Blk.new _ _ _)
   cases b1
   · have h9 := HOFF.out (w2.alloc (.cells #[.int .i64 qf, .int .i64 qm, .int .i64 qo, .int .i64 qv, .bool false, (.pointer po)] 258)) s1 (.pointer (some ⟨w2.heap.size, 0, none⟩)) false (by omega) (HG2.out.trans (grown_of_below hbK2 _)) (HB2.out.same hbK2)
     have H9 := Lib.hid h9; have HBK2 := Lib.hid hbK2
     clear h9 hkk2 hbK2 hbd
     go_wp2_with fail
     refine H9.out.mono ?_; rintro e w3 ⟨rfl, s', b', ⟨rfl, rfl⟩, hb3, hg3⟩
     have HF := Lib.hid (show IPost cg cv rv last (fun s' b => WayRun g rs last a f m l s s' b) w (.returned (.tuple #[])) w3 from ⟨rfl, s1 + 1, false, .stop hs HRR.out HOP.out hm0 HN2.out HRUNQ.out, hb3, (HG2.out.trans (grown_of_below HBK2.out _)).trans hg3⟩)
     clear hb3 hg3
     go_wp2
     go_end0
     exact HF.out
   · have h9 := HGO.out (w2.alloc (.cells #[.int .i64 qf, .int .i64 qm, .int .i64 qo, .int .i64 qv, .bool false, (.pointer po)] 258)) s1 (l ++ [((⟨qf, qm, qo, qv⟩ : Lk), false)]) (.pointer (some ⟨w2.heap.size, 0, none⟩)) false (by omega) (hbd.2.2 rfl) (HG2.out.trans (grown_of_below hbK2 _)) (HB2.out.same hbK2) hkk2 (HKW.out.snoc HQW.out) (HO.out.snoc HN.out false)
     have H9 := Lib.hid h9; have HBK2 := Lib.hid hbK2
     clear h9 hkk2 hbK2 hbd
     go_wp2_with fail
     refine H9.out.mono ?_; rintro e w3 ⟨rfl, s', b', hrun, hb3, hg3⟩
     have HF := Lib.hid (show IPost cg cv rv last (fun s' b => WayRun g rs last a f m l s s' b) w (.returned (.tuple #[])) w3 from ⟨rfl, s', b', .both hs HRR.out HOP.out hm0 HN2.out HRUNQ.out (by have := hrun; rw [HQL.out] at this; exact this), hb3, (HG2.out.trans (grown_of_below HBK2.out _)).trans hg3⟩)
     clear hb3 hg3 hrun
     go_wp2
     go_end0
     exact HF.out
 · have HN : Hid (tellO l ⟨qf, qm, qo, qv⟩ = some hb) := Lib.hid (by rcases HT.out with h | h; exact absurd h.2 (by simp); exact h.1)
   have HN2 := Lib.hid (show tellO l ⟨f, m, lookOp ⟨op, (kn : Int), (yn : Int), (nn : Int)⟩, (kn : Int)⟩ = some hb by rw [← HQL.out]; exact HN.out)
   have h9 := HGO.out w1 (s + 1) l (.pointer po) hb (by omega) (by omega) HG1.out HC1.out HK1.out HKW.out HO.out
   have H9 := Lib.hid h9
   clear h9
   go_wp2_with fail
   refine H9.out.mono ?_; rintro e w2 ⟨rfl, s', b', hrun, hb2, hg2⟩
   have HF := Lib.hid (show IPost cg cv rv last (fun s' b => WayRun g rs last a f m l s s' b) w (.returned (.tuple #[])) w2 from ⟨rfl, s', b', .told hs HRR.out HOP.out hm0 HN2.out hrun, hb2, HG1.out.trans hg2⟩)
   clear hrun hb2 hg2
   go_wp2
   go_end0
   exact HF.out
end
end Go.Proofs.YtdjgicapbpoigaaGreatDoor
