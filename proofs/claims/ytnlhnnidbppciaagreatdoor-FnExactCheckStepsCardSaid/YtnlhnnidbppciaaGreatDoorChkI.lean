/- impl's check: what is known, in a chain; what is told of a look. -/
import Derived.Test.YtnlhnnidbppciaaGreatDoorChkM
import Derived.Test.YtnlhnnidbppciaaGreatDoorChkS2
import Derived.Deep.LoopGhost
import Derived.Laws.StructEq
namespace Go.Proofs.YtnlhnnidbppciaaGreatDoor
open Go.RowKit
set_option linter.unusedSimpArgs false
set_option linter.unusedVariables false

/-- What is known, the newest first, as a chain of blocks that lie apart from one. -/
def KnI (cg : Nat) (w : World) : Value → List (Lk × Bool) → Prop
  | v, [] => v = .pointer none
  | v, x :: l => ∃ b u, v = .pointer (some ⟨b, 0, none⟩) ∧ b ≠ cg ∧ Blk w b 287 #[.int .i64 x.1.field, .int .i64 x.1.mask, .int .i64 x.1.op, .int .i64 x.1.value, .bool x.2, u] ∧ KnI cg w u l
theorem KnI.grown {cg : Nat} {w w' : World} : ∀ {l : List (Lk × Bool)} {v : Value}, KnI cg w v l → w.grownBy w' (some cg) → KnI cg w' v l
  | [], _, h, _ => h
  | x :: l, v, ⟨b, u, e, hb, hk, hr⟩, hg => ⟨b, u, e, hb, hk.grown hg (fun e => hb (Option.some.inj e)), KnI.grown hr hg⟩
theorem KnI.below {cg : Nat} {w w' : World} {l : List (Lk × Bool)} {v : Value} (h : KnI cg w v l) (hb : Below w.heap.size w w') : KnI cg w' v l := h.grown (grown_of_below hb _)
theorem kDrew (B : Nat) (w : World) (n : Nat) : Below B w (w.drewN n) := ⟨rfl, rfl, rfl, Nat.le_refl _, fun _ _ => rfl⟩
theorem lkEq_no {f m o v f' m' o' v' : Int} (h : ¬ LkSame ⟨f, m, o, v⟩ ⟨f', m', o', v'⟩) : ¬ (f = f' ∧ m = m' ∧ o = o' ∧ v = v') := h

theorem look_eq (xf xm xo xv qf qm qo qv : Int) (W : World) : (Op.equalIn 10000 211 (.agg #[.int .i64 xf, .int .i64 xm, .int .i64 xo, .int .i64 xv]) (.agg #[.int .i64 qf, .int .i64 qm, .int .i64 qo, .int .i64 qv])).run Tryz.prog W = .ok (decide (LkSame ⟨xf, xm, xo, xv⟩ ⟨qf, qm, qo, qv⟩)) W := by
  rw [run_equalIn_agg (d := 9999) (ht := by kernel_rfl) (hp := by kernel_rfl)]
  have hi := Tryz.underlying3
  simp [Program.fieldsOf, Tryz.underlying211, Op.eqFields, go_sem, hi]
  simp only [LkSame]
  by_cases h1 : xf = qf <;> by_cases h2 : xm = qm <;> by_cases h3 : xo = qo <;> by_cases h4 : xv = qv <;> simp [h1, h2, h3, h4]

/-- One look more at the old end: what it says. -/
theorem room_cons {suf : List (Lk × Bool)} {q : Lk} {f m o v zl zh za : Int} {h fb : Bool} (hn : ¬ LkSame ⟨f, m, o, v⟩ q) (hs : seen suf q = none ∧ lowOf suf q = zl ∧ highOf suf q = zh ∧ oneOf suf q = if fb then some za else none) :
    ((f ≠ q.field ∨ m ≠ q.mask ∨ (o = 1 ∧ h = false) ∨ (o ≠ 1 ∧ o ≠ 3)) → seen ((⟨f, m, o, v⟩, h) :: suf) q = none ∧ lowOf ((⟨f, m, o, v⟩, h) :: suf) q = zl ∧ highOf ((⟨f, m, o, v⟩, h) :: suf) q = zh ∧ oneOf ((⟨f, m, o, v⟩, h) :: suf) q = if fb then some za else none) ∧
    (f = q.field → m = q.mask → o = 1 → h = true → seen ((⟨f, m, o, v⟩, h) :: suf) q = none ∧ lowOf ((⟨f, m, o, v⟩, h) :: suf) q = zl ∧ highOf ((⟨f, m, o, v⟩, h) :: suf) q = zh ∧ oneOf ((⟨f, m, o, v⟩, h) :: suf) q = if true then some v else none) ∧
    (f = q.field → m = q.mask → o = 3 → h = true → seen ((⟨f, m, o, v⟩, h) :: suf) q = none ∧ lowOf ((⟨f, m, o, v⟩, h) :: suf) q = max zl (v + 1) ∧ highOf ((⟨f, m, o, v⟩, h) :: suf) q = zh ∧ oneOf ((⟨f, m, o, v⟩, h) :: suf) q = if fb then some za else none) ∧
    (f = q.field → m = q.mask → o = 3 → h = false → seen ((⟨f, m, o, v⟩, h) :: suf) q = none ∧ lowOf ((⟨f, m, o, v⟩, h) :: suf) q = zl ∧ highOf ((⟨f, m, o, v⟩, h) :: suf) q = min zh v ∧ oneOf ((⟨f, m, o, v⟩, h) :: suf) q = if fb then some za else none) := by
  obtain ⟨h1, h2, h3, h4⟩ := hs
  have hseen : seen ((⟨f, m, o, v⟩, h) :: suf) q = none := by simp only [seen]; rw [if_neg hn]; exact h1
  refine ⟨fun hc => ⟨hseen, ?_, ?_, ?_⟩, fun a b c d => ⟨hseen, ?_, ?_, ?_⟩, fun a b c d => ⟨hseen, ?_, ?_, ?_⟩, fun a b c d => ⟨hseen, ?_, ?_, ?_⟩⟩
  · simp only [lowOf]; rw [if_neg, h2]; rintro ⟨a, b, c, d⟩; simp only at a b c d; rcases hc with hc | hc | ⟨hc, _⟩ | ⟨_, hc⟩; exact hc a; exact hc b; omega; exact hc c
  · simp only [highOf]; rw [if_neg, h3]; rintro ⟨a, b, c, d⟩; simp only at a b c d; rcases hc with hc | hc | ⟨hc, _⟩ | ⟨_, hc⟩; exact hc a; exact hc b; omega; exact hc c
  · simp only [oneOf]; rw [if_neg, h4]; rintro ⟨a, b, c, d⟩; simp only at a b c d; rcases hc with hc | hc | ⟨_, hc⟩ | ⟨hc, _⟩; exact hc a; exact hc b; (rw [d] at hc; cases hc); exact hc c
  · simp only [lowOf]; rw [if_neg, h2]; rintro ⟨_, _, e, _⟩; simp only at e; omega
  · simp only [highOf]; rw [if_neg, h3]; rintro ⟨_, _, e, _⟩; simp only at e; omega
  · simp only [oneOf]; rw [if_pos ⟨a, b, c, d⟩]; rfl
  · simp only [lowOf]; rw [if_pos ⟨a, b, c, d⟩, h2]; show max (v + 1) zl = max zl (v + 1); omega
  · simp only [highOf]; rw [if_neg, h3]; rintro ⟨_, _, _, e⟩; simp only at e; rw [d] at e; cases e
  · simp only [oneOf]; rw [if_neg, h4]; rintro ⟨_, _, e, _⟩; simp only at e; omega
  · simp only [lowOf]; rw [if_neg, h2]; rintro ⟨_, _, _, e⟩; simp only at e; rw [d] at e; cases e
  · simp only [highOf]; rw [if_pos ⟨a, b, c, d⟩, h3]; show min v zh = min zh v; omega
  · simp only [oneOf]; rw [if_neg, h4]; rintro ⟨_, _, e, _⟩; simp only at e; omega

def TellPost (l : List (Lk × Bool)) (q : Lk) (w : World) (e : Ending) (w' : World) : Prop := ∃ hb tb : Bool, e = .returned (.tuple #[.bool hb, .bool tb]) ∧ ((tellO l q = none ∧ tb = false) ∨ (tellO l q = some hb ∧ tb = true)) ∧ Below w.heap.size w w'

set_option maxRecDepth 100000 in
set_option maxHeartbeats 4000000 in
theorem tell_any (cg : Nat) (kv : Value) (l : List (Lk × Bool)) (q : Lk) (w : World) (hk : KnI cg w kv l.reverse) (hw : KnW l) (ho : Once l) (hq : q.op = 1 ∨ q.op = 3) :
    Calls Tryz.prog 222 #[kv, .agg #[.int .i64 q.field, .int .i64 q.mask, .int .i64 q.op, .int .i64 q.value]] w (TellPost l q w) := by
  have HK := Lib.hid hk; have HW := Lib.hid hw; have HO := Lib.hid ho
  obtain ⟨qf, qm, qo, qv⟩ := q
  simp only at hq ⊢
  obtain ⟨X, hX⟩ : ∃ X, X = w.alloc (.cells #[.int .i64 qf, .int .i64 qm, .int .i64 qo, .int .i64 qv] 211) := ⟨_, rfl⟩
  have hbX : Below w.heap.size w X := by rw [hX]; go_grown
  have hzX : X.heap.size = w.heap.size + 1 := by rw [hX]; simp
  have hlX : w.heap.size < X.heap.size := by omega
  have BX : Blk X w.heap.size 211 #[.int .i64 qf, .int .i64 qm, .int .i64 qo, .int .i64 qv] := by rw [hX]; exact Blk.new _ _ _
  have HX := Lib.hid hX; have HB := Lib.hid BX; have HQ := Lib.hid hq
  have b1 := (show _ = some (Value.int .i64 qm) from BX.cell 1)
  clear hX BX hq hzX hk hw ho
  go_enter Tryz.func222, Tryz.ntmps222
  go_wp2
  rw [← HX.out]
  go_quiet ((fail))
  rename_i nq
  have hbq : Below X.heap.size X (X.drewN nq) := kDrew _ _ _
  clear b1
  go_wp2
  go_loopg [6, 7, 8, 9, 10] l.length (fun gk lo hi al fo f wr => ∃ (todo suf : List (Lk × Bool)) (zl zh za : Int) (fb : Bool) (kv : Value), gk = todo.length ∧ lo = .int .i64 zl ∧ hi = .int .i64 zh ∧ al = .int .i64 za ∧ fo = .bool fb ∧ f = kv ∧ Hid (l = todo.reverse ++ suf) ∧ Hid (KnI cg w kv todo) ∧ Hid (seen suf ⟨qf, qm, qo, qv⟩ = none ∧ lowOf suf ⟨qf, qm, qo, qv⟩ = zl ∧ highOf suf ⟨qf, qm, qo, qv⟩ = zh ∧ oneOf suf ⟨qf, qm, qo, qv⟩ = if fb then some za else none) ∧ Below X.heap.size X wr)
  case atStart => exact ⟨l.reverse, [], 0, qm, 0, false, _, by simp, rfl, rfl, rfl, rfl, rfl, Lib.hid (by simp), HK, Lib.hid ⟨rfl, rfl, rfl, rfl⟩, hbq⟩
  case round =>
    obtain ⟨todo, suf, zl, zh, za, fb, kv, hgk, rfl, rfl, rfl, rfl, rfl, HLL, HKV, HS, hb⟩ := hrel
    have hsz := hb.size
    have hz0 : w.heap.size < wr.heap.size := by omega
    have hbw := hbX.trans (hb.mono (Nat.le_of_lt hlX))
    have B1 := HB.out.below hb hlX
    have b0 := (show _ = some (Value.int .i64 qf) from B1.cell 0); have b1 := (show _ = some (Value.int .i64 qm) from B1.cell 1); have b2 := (show _ = some (Value.int .i64 qo) from B1.cell 2); have b3 := (show _ = some (Value.int .i64 qv) from B1.cell 3)
    have HGK := Lib.hid hgk
    clear B1 hgk hbq
    cases todo with
    | nil =>
      obtain rfl := (show _ = Value.pointer none from HKV.out)
      have HE := Lib.hid (tellO_room (l := l) (q := ⟨qf, qm, qo, qv⟩) (by rw [HLL.out]; exact HS.out.1))
      have HLO := Lib.hid (show roomLow l ⟨qf, qm, qo, qv⟩ = if fb then za else zl by unfold roomLow; rw [HLL.out]; simp only [List.reverse_nil, List.nil_append]; rw [HS.out.2.2.2, HS.out.2.1]; cases fb <;> rfl)
      have HHI := Lib.hid (show roomHigh l ⟨qf, qm, qo, qv⟩ = if fb then za else zh by unfold roomHigh; rw [HLL.out]; simp only [List.reverse_nil, List.nil_append]; rw [HS.out.2.2.2, HS.out.2.2.1]; cases fb <;> rfl)
      rw [HLO.out, HHI.out] at HE
      clear HS HLL
      have key : ∀ lo hi : Int, tellO l ⟨qf, qm, qo, qv⟩ = tellRoom lo hi ⟨qf, qm, qo, qv⟩ → ((qo = 3 → (qv < lo → tellO l ⟨qf, qm, qo, qv⟩ = some true) ∧ (¬ qv < lo → hi ≤ qv → tellO l ⟨qf, qm, qo, qv⟩ = some false) ∧ (¬ qv < lo → ¬ hi ≤ qv → tellO l ⟨qf, qm, qo, qv⟩ = none)) ∧
          (qo = 1 → ((qv < lo ∨ hi < qv) → tellO l ⟨qf, qm, qo, qv⟩ = some false) ∧ (¬ (qv < lo ∨ hi < qv) → lo = hi → tellO l ⟨qf, qm, qo, qv⟩ = some true) ∧ (¬ (qv < lo ∨ hi < qv) → ¬ lo = hi → tellO l ⟨qf, qm, qo, qv⟩ = none))) := fun lo hi h => by
        rw [h]
        refine ⟨fun h3 => ?_, fun h1 => ?_⟩
        · subst h3
          refine ⟨fun a => ?_, fun a b => ?_, fun a b => ?_⟩ <;> simp [tellRoom, *]
        · subst h1
          refine ⟨fun a => ?_, fun a b => ?_, fun a b => ?_⟩
          · simp only [tellRoom]; rw [if_neg (by omega), if_pos a]
          · simp only [tellRoom]; rw [if_neg (by omega), if_neg a, if_pos b]
          · simp only [tellRoom]; rw [if_neg (by omega), if_neg a, if_neg b]
      cases fb
      · have HKY := Lib.hid (key zl zh (by simpa using HE.out))
        clear key HE HLO HHI
        rcases HQ.out with h | h
        · subst h
          by_cases h1 : qv < zl
          · have HT := Lib.hid ((HKY.out.2 rfl).1 (.inl h1))
            go_wp2
            go_ret2
            exact ⟨false, true, rfl, .inr ⟨HT.out, rfl⟩, hbw⟩
          · by_cases h2 : zh < qv
            · have HT := Lib.hid ((HKY.out.2 rfl).1 (.inr h2))
              go_wp2
              go_ret2
              exact ⟨false, true, rfl, .inr ⟨HT.out, rfl⟩, hbw⟩
            · by_cases h3 : zl = zh
              · have HT := Lib.hid ((HKY.out.2 rfl).2.1 (by omega) h3)
                have g3 : (zl == zh) = true := by simp [h3]
                clear h3
                go_wp2
                all_goals (try go_region)
                all_goals (try go_wp2)
                all_goals
                  go_ret2
                  exact ⟨true, true, rfl, .inr ⟨HT.out, rfl⟩, hbw⟩
              · have HT := Lib.hid ((HKY.out.2 rfl).2.2 (by omega) h3)
                have g3 : (zl == zh) = false := by simp [h3]
                go_wp2
                all_goals
                  go_ret2
                  exact ⟨false, false, rfl, .inl ⟨HT.out, rfl⟩, hbw⟩
        · subst h
          by_cases h1 : qv < zl
          · have HT := Lib.hid ((HKY.out.1 rfl).1 h1)
            have g1 : decide (qv < zl) = true := by simp [h1]
            go_wp2
            go_quiet ((fail))
            go_wp2
            go_ret2
            exact ⟨true, true, rfl, .inr ⟨HT.out, rfl⟩, below_then hbw (kDrew _ _ _)⟩
          · have g1 : decide (qv < zl) = false := by simp [h1]
            by_cases h2 : zh ≤ qv
            · have HT := Lib.hid ((HKY.out.1 rfl).2.1 h1 h2)
              have g2 : decide (zh ≤ qv) = true := by simp [h2]
              go_wp2
              go_quiet ((fail))
              go_wp2
              go_ret2
              exact ⟨false, true, rfl, .inr ⟨HT.out, rfl⟩, below_then hbw (kDrew _ _ _)⟩
            · have HT := Lib.hid ((HKY.out.1 rfl).2.2 h1 h2)
              have g2 : decide (zh ≤ qv) = false := by simp [h2]
              go_wp2
              go_quiet ((fail))
              go_wp2
              go_ret2
              exact ⟨false, false, rfl, .inl ⟨HT.out, rfl⟩, below_then hbw (kDrew _ _ _)⟩
      · have HKY := Lib.hid (key za za (by simpa using HE.out))
        clear key HE HLO HHI
        rcases HQ.out with h | h
        · subst h
          by_cases h1 : qv < za
          · have HT := Lib.hid ((HKY.out.2 rfl).1 (.inl h1))
            go_wp2
            go_ret2
            exact ⟨false, true, rfl, .inr ⟨HT.out, rfl⟩, hbw⟩
          · by_cases h2 : za < qv
            · have HT := Lib.hid ((HKY.out.2 rfl).1 (.inr h2))
              go_wp2
              go_ret2
              exact ⟨false, true, rfl, .inr ⟨HT.out, rfl⟩, hbw⟩
            · have HT := Lib.hid ((HKY.out.2 rfl).2.1 (by omega) rfl)
              go_wp2
              all_goals
                go_ret2
                exact ⟨true, true, rfl, .inr ⟨HT.out, rfl⟩, hbw⟩
        · subst h
          by_cases h1 : qv < za
          · have HT := Lib.hid ((HKY.out.1 rfl).1 h1)
            have g1 : decide (qv < za) = true := by simp [h1]
            go_wp2
            go_quiet ((fail))
            go_wp2
            go_ret2
            exact ⟨true, true, rfl, .inr ⟨HT.out, rfl⟩, below_then hbw (kDrew _ _ _)⟩
          · have g1 : decide (qv < za) = false := by simp [h1]
            by_cases h2 : za ≤ qv
            · have HT := Lib.hid ((HKY.out.1 rfl).2.1 h1 h2)
              have g2 : decide (za ≤ qv) = true := by simp [h2]
              go_wp2
              go_quiet ((fail))
              go_wp2
              go_ret2
              exact ⟨false, true, rfl, .inr ⟨HT.out, rfl⟩, below_then hbw (kDrew _ _ _)⟩
            · omega
    | cons x todo =>
      obtain ⟨⟨xf, xm, xo, xv⟩, xh⟩ := x
      obtain ⟨b, u, rfl, hbc, hbk, hrest⟩ := HKV.out
      have hbk2 := hbk.same hbw
      obtain ⟨hv0, hv1⟩ : 0 ≤ xv ∧ xv ≤ 4294967295 := HW.out (⟨xf, xm, xo, xv⟩, xh) (by rw [HLL.out]; simp)
      have x0 := (show _ = some (Value.int .i64 xf) from hbk2.cell 0); have x1 := (show _ = some (Value.int .i64 xm) from hbk2.cell 1); have x2 := (show _ = some (Value.int .i64 xo) from hbk2.cell 2); have x3 := (show _ = some (Value.int .i64 xv) from hbk2.cell 3); have x4 := (show _ = some (Value.bool xh) from hbk2.cell 4); have x5 := (show _ = some u from hbk2.cell 5)
      have HRE := Lib.hid hrest
      clear hbk hbk2 hrest
      have hle := look_eq xf xm xo xv qf qm qo qv
      have hgd : Tryz.prog.eqGuardType Tryz.prog.depth 211 = false := by kernel_rfl
      by_cases hsame : LkSame ⟨xf, xm, xo, xv⟩ ⟨qf, qm, qo, qv⟩
      · simp only [hsame, decide_true] at hle
        have HSA := Lib.hid hsame
        have HT := Lib.hid (show tellO l ⟨qf, qm, qo, qv⟩ = some xh by
          have e := LkSame.eq.1 HSA.out
          have h9 := seen_at HO.out (i := todo.length) (x := (⟨xf, xm, xo, xv⟩, xh)) (by rw [HLL.out]; simp)
          simp only at h9
          rw [e] at h9
          exact tellO_seen h9)
        clear hsame
        go_wp2
        go_quiet ((fail))
        go_wp2
        go_ret2
        exact ⟨xh, true, rfl, .inr ⟨HT.out, rfl⟩, below_then hbw (kDrew _ _ _)⟩
      · simp only [hsame, decide_false] at hle
        have HRC := Lib.hid (room_cons (h := xh) hsame HS.out)
        have HL2 := Lib.hid (show l = todo.reverse ++ ((⟨xf, xm, xo, xv⟩, xh) :: suf) by rw [HLL.out]; simp)
        clear hsame HS
        go_wp2
        go_quiet ((fail))
        by_cases h1 : xf = qf
        · by_cases h2 : xm = qm
          · have g1 : (xf != qf) = false := by simp [h1]
            have g2 : (xm != qm) = false := by simp [h2]
            go_wp2
            go_quiet ((fail))
            by_cases h3 : xo = 1
            · cases xh
              · have HX := Lib.hid (HRC.out.1 (.inr (.inr (.inl ⟨h3, rfl⟩))))
                go_wp2
                go_roundg todo.length
                case measure => have := HGK.out; simp only [List.length_cons] at this; omega
                case rel => exact ⟨todo, _, _, _, _, _, u, rfl, rfl, rfl, rfl, rfl, rfl, HL2, HRE, HX, hb.trans (kDrew _ _ _)⟩
              · have HX := Lib.hid (HRC.out.2.1 h1 h2 h3 rfl)
                go_wp2
                go_roundg todo.length
                case measure => have := HGK.out; simp only [List.length_cons] at this; omega
                case rel => exact ⟨todo, _, _, _, _, _, u, rfl, rfl, rfl, rfl, rfl, rfl, HL2, HRE, HX, hb.trans (kDrew _ _ _)⟩
            · by_cases h4 : xo = 3
              · cases xh
                · have HX := Lib.hid (HRC.out.2.2.2 h1 h2 h4 rfl)
                  go_wp2
                  go_roundg todo.length
                  case measure => have := HGK.out; simp only [List.length_cons] at this; omega
                  case rel => exact ⟨todo, _, _, _, _, _, u, rfl, rfl, rfl, rfl, rfl, rfl, HL2, HRE, HX, hb.trans (kDrew _ _ _)⟩
                · have HX := Lib.hid (HRC.out.2.2.1 h1 h2 h4 rfl)
                  go_wp2
                  go_roundg todo.length
                  case measure => have := HGK.out; simp only [List.length_cons] at this; omega
                  case rel => exact ⟨todo, _, _, _, _, _, u, rfl, rfl, rfl, rfl, rfl, rfl, HL2, HRE, HX, hb.trans (kDrew _ _ _)⟩
              · have HX := Lib.hid (HRC.out.1 (.inr (.inr (.inr ⟨h3, h4⟩))))
                go_wp2
                go_roundg todo.length
                case measure => have := HGK.out; simp only [List.length_cons] at this; omega
                case rel => exact ⟨todo, _, _, _, _, _, u, rfl, rfl, rfl, rfl, rfl, rfl, HL2, HRE, HX, hb.trans (kDrew _ _ _)⟩
          · have g1 : (xf != qf) = false := by simp [h1]
            have g2 : (xm != qm) = true := by simp [h2]
            have HX := Lib.hid (HRC.out.1 (.inr (.inl h2)))
            go_wp2
            go_quiet ((fail))
            go_wp2
            go_roundg todo.length
            case measure => have := HGK.out; simp only [List.length_cons] at this; omega
            case rel => exact ⟨todo, _, _, _, _, _, u, rfl, rfl, rfl, rfl, rfl, rfl, HL2, HRE, HX, hb.trans (kDrew _ _ _)⟩
        · have g1 : (xf != qf) = true := by simp [h1]
          have HX := Lib.hid (HRC.out.1 (.inl h1))
          go_wp2
          go_quiet ((fail))
          go_wp2
          go_roundg todo.length
          case measure => have := HGK.out; simp only [List.length_cons] at this; omega
          case rel => exact ⟨todo, _, _, _, _, _, u, rfl, rfl, rfl, rfl, rfl, rfl, HL2, HRE, HX, hb.trans (kDrew _ _ _)⟩
end Go.Proofs.YtnlhnnidbppciaaGreatDoor
