/- How a check goes through a program and through rules, step by step: plain words; no Go function is walked here. -/
import Derived.Test.YtdjgicapbpoigaaGreatDoorTxt
import Derived.Test.YtdjgicapbpoigaaGreatDoorKit
namespace Go.Proofs.YtdjgicapbpoigaaGreatDoor
open Go.RowKit
set_option linter.unusedSimpArgs false
set_option linter.unusedVariables false

structure Lk where
 field : Int
 mask : Int
 op : Int
 value : Int
theorem Lk.ext' {x y : Lk} (h1 : x.field = y.field) (h2 : x.mask = y.mask) (h3 : x.op = y.op) (h4 : x.value = y.value) : x = y := by
 cases x; cases y; simp at h1 h2 h3 h4; simp [h1, h2, h3, h4]
def LkSame (x q : Lk) : Prop := x.field = q.field ∧ x.mask = q.mask ∧ x.op = q.op ∧ x.value = q.value
instance (x q : Lk) : Decidable (LkSame x q) := by unfold LkSame; infer_instance
theorem LkSame.eq {x q : Lk} : LkSame x q ↔ x = q := ⟨fun ⟨a, b, c, d⟩ => Lk.ext' a b c d, fun h => by subst h; exact ⟨rfl, rfl, rfl, rfl⟩⟩
def seen : List (Lk × Bool) → Lk → Option Bool
 | [], _ => none
 | x :: l, q => if LkSame x.1 q then some x.2 else seen l q
def selLow (x : Lk × Bool) (q : Lk) : Prop := x.1.field = q.field ∧ x.1.mask = q.mask ∧ x.1.op = 3 ∧ x.2 = true
def selHigh (x : Lk × Bool) (q : Lk) : Prop := x.1.field = q.field ∧ x.1.mask = q.mask ∧ x.1.op = 3 ∧ x.2 = false
def selOne (x : Lk × Bool) (q : Lk) : Prop := x.1.field = q.field ∧ x.1.mask = q.mask ∧ x.1.op = 1 ∧ x.2 = true
instance (x : Lk × Bool) (q : Lk) : Decidable (selLow x q) := by unfold selLow; infer_instance
instance (x : Lk × Bool) (q : Lk) : Decidable (selHigh x q) := by unfold selHigh; infer_instance
instance (x : Lk × Bool) (q : Lk) : Decidable (selOne x q) := by unfold selOne; infer_instance
def lowOf : List (Lk × Bool) → Lk → Int
 | [], _ => 0
 | x :: l, q => if selLow x q then max (x.1.value + 1) (lowOf l q) else lowOf l q
def highOf : List (Lk × Bool) → Lk → Int
 | [], q => q.mask
 | x :: l, q => if selHigh x q then min x.1.value (highOf l q) else highOf l q
def oneOf : List (Lk × Bool) → Lk → Option Int
 | [], _ => none
 | x :: l, q => if selOne x q then some x.1.value else oneOf l q
def roomLow (l : List (Lk × Bool)) (q : Lk) : Int := (oneOf l q).getD (lowOf l q)
def roomHigh (l : List (Lk × Bool)) (q : Lk) : Int := (oneOf l q).getD (highOf l q)
def tellRoom (lo hi : Int) (q : Lk) : Option Bool :=
 if q.op = 3 then (if q.value < lo then some true else if hi ≤ q.value then some false else none)
 else if q.value < lo ∨ hi < q.value then some false else if lo = hi then some true else none
def tellO (l : List (Lk × Bool)) (q : Lk) : Option Bool :=
 match seen l q with
 | some h => some h
 | none => tellRoom (roomLow l q) (roomHigh l q) q
theorem tellO_seen {l : List (Lk × Bool)} {q : Lk} {h : Bool} (e : seen l q = some h) : tellO l q = some h := by simp [tellO, e]
theorem tellO_room {l : List (Lk × Bool)} {q : Lk} (e : seen l q = none) : tellO l q = tellRoom (roomLow l q) (roomHigh l q) q := by simp [tellO, e]

theorem lowOf_snoc (l : List (Lk × Bool)) (x : Lk × Bool) (q : Lk) (h0 : selLow x q → 0 ≤ x.1.value + 1) : lowOf (l ++ [x]) q = if selLow x q then max (x.1.value + 1) (lowOf l q) else lowOf l q := by
 induction l with
 | nil => simp only [List.nil_append, lowOf]
 | cons y l ih =>
   simp only [List.cons_append, lowOf, ih]
   split <;> split <;> omega
theorem highOf_snoc (l : List (Lk × Bool)) (x : Lk × Bool) (q : Lk) : highOf (l ++ [x]) q = if selHigh x q then min x.1.value (highOf l q) else highOf l q := by
 induction l with
 | nil => simp only [List.nil_append, highOf]
 | cons y l ih =>
   simp only [List.cons_append, highOf, ih]
   split <;> split <;> omega
theorem oneOf_snoc (l : List (Lk × Bool)) (x : Lk × Bool) (q : Lk) : oneOf (l ++ [x]) q = match oneOf l q with | some v => some v | none => if selOne x q then some x.1.value else none := by
 induction l with
 | nil => simp [oneOf]
 | cons y l ih =>
   simp only [List.cons_append, oneOf, ih]
   split <;> rfl
theorem seen_snoc (l : List (Lk × Bool)) (x : Lk × Bool) (q : Lk) : seen (l ++ [x]) q = match seen l q with | some v => some v | none => if LkSame x.1 q then some x.2 else none := by
 induction l with
 | nil => simp [seen]
 | cons y l ih =>
   simp only [List.cons_append, seen, ih]
   split <;> rfl
def Once (l : List (Lk × Bool)) : Prop := (l.map Prod.fst).Nodup
theorem seen_none {l : List (Lk × Bool)} {q : Lk} : seen l q = none ↔ q ∉ l.map Prod.fst := by
 induction l with
 | nil => simp [seen]
 | cons y l ih =>
   simp only [seen]
   by_cases h : LkSame y.1 q
   · rw [if_pos h]; simp [LkSame.eq.1 h]
   · rw [if_neg h, ih]
     have : q ≠ y.1 := fun e => h (LkSame.eq.2 e.symm)
     simp [this]
theorem seen_at {l : List (Lk × Bool)} (h : Once l) {i : Nat} {x : Lk × Bool} (hi : l[i]? = some x) : seen l x.1 = some x.2 := by
 induction l generalizing i with
 | nil => simp at hi
 | cons y l ih =>
   unfold Once at h ih
   simp only [List.map_cons, List.nodup_cons] at h
   simp only [seen]
   cases i with
   | zero =>
     simp at hi; subst hi
     rw [if_pos (LkSame.eq.2 rfl)]
   | succ i =>
     simp at hi
     have hm : x.1 ∈ l.map Prod.fst := List.mem_map.2 ⟨x, List.mem_of_getElem? hi, rfl⟩
     rw [if_neg (fun e => h.1 (by rw [LkSame.eq.1 e]; exact hm))]
     exact ih h.2 hi
theorem Once.nil : Once [] := List.nodup_nil
theorem Once.snoc {l : List (Lk × Bool)} (h : Once l) {q : Lk} (hq : tellO l q = none) (b : Bool) : Once (l ++ [(q, b)]) := by
 have hs : seen l q = none := by
   unfold tellO at hq
   split at hq
   · cases hq
   · assumption
 unfold Once at *
 rw [List.map_append, List.nodup_append]
 refine ⟨h, by simp, fun a ha b' hb e => ?_⟩
 simp at hb
 subst hb e
 exact seen_none.1 hs ha

def rangeL (lo hi : Int) : List (Lk × Bool) :=
 if lo = hi then [(⟨0, 4294967295, 1, lo⟩, true)] else (if 0 < lo then [(⟨0, 4294967295, 3, lo - 1⟩, true)] else []) ++ (if hi < 4294967295 then [(⟨0, 4294967295, 3, hi⟩, false)] else [])
def testL (t : Ts) : List (Lk × Bool) := if t.op = 2 then (if t.value = 0 then [] else [(⟨t.field, t.mask, 3, t.value - 1⟩, false)]) else [(⟨t.field, t.mask, t.op, t.value⟩, true)]
def looksOf (r : Rl) : List (Lk × Bool) := rangeL r.low r.high ++ r.tests.flatMap testL
def Never (r : Rl) : Prop := ∃ t ∈ r.tests, t.op = 2 ∧ t.value = 0
def nextA (a : Nat) (h m : Bool) : Nat := if h = m then a else a + 1
def nextK (k : Nat) (h m : Bool) : Nat := if h = m then k + 1 else 0

inductive RuleRun (rs : List Rl) (last : Int) : Nat → Nat → Int → List (Lk × Bool) → Nat → Nat → Bool → Prop
 | over {a k v l s} : 6000 ≤ s → RuleRun rs last a k v l s (s + 1) false
 | done {a k v l s} : s < 6000 → rs.length ≤ a → RuleRun rs last a k v l s (s + 1) (decide (v = last))
 | never {a k v l s s' b r} : s < 6000 → rs[a]? = some r → Never r → RuleRun rs last (a + 1) 0 v l (s + 1) s' b → RuleRun rs last a k v l s s' b
 | fits {a k v l s r} : s < 6000 → rs[a]? = some r → ¬ Never r → (looksOf r).length ≤ k → RuleRun rs last a k v l s (s + 1) (decide (v = r.verdict))
 | told {a k v l s s' b r q m h} : s < 6000 → rs[a]? = some r → ¬ Never r → (looksOf r)[k]? = some (q, m) → tellO l q = some h → RuleRun rs last (nextA a h m) (nextK k h m) v l (s + 1) s' b → RuleRun rs last a k v l s s' b
 | both {a k v l s s1 s2 b r q m} : s < 6000 → rs[a]? = some r → ¬ Never r → (looksOf r)[k]? = some (q, m) → tellO l q = none →
     RuleRun rs last (nextA a true m) (nextK k true m) v (l ++ [(q, true)]) (s + 1) s1 true → RuleRun rs last (nextA a false m) (nextK k false m) v (l ++ [(q, false)]) s1 s2 b → RuleRun rs last a k v l s s2 b
 | stop {a k v l s s1 r q m} : s < 6000 → rs[a]? = some r → ¬ Never r → (looksOf r)[k]? = some (q, m) → tellO l q = none →
     RuleRun rs last (nextA a true m) (nextK k true m) v (l ++ [(q, true)]) (s + 1) s1 false → RuleRun rs last a k v l s (s1 + 1) false

theorem RuleRun.bound {rs : List Rl} {last : Int} {a k : Nat} {v : Int} {l : List (Lk × Bool)} {s s' : Nat} {b : Bool} (h : RuleRun rs last a k v l s s' b) : s ≤ 6000 → s < s' ∧ s' + s ≤ 12001 ∧ (b = true → s' ≤ 6000) := by
 induction h with
 | over h => intro h0; exact ⟨by omega, by omega, fun e => by cases e⟩
 | done h _ => intro h0; exact ⟨by omega, by omega, fun _ => by omega⟩
 | never h _ _ _ ih => intro h0; have := ih (by omega); exact ⟨by omega, by omega, this.2.2⟩
 | fits h _ _ _ => intro h0; exact ⟨by omega, by omega, fun _ => by omega⟩
 | told h _ _ _ _ _ ih => intro h0; have := ih (by omega); exact ⟨by omega, by omega, this.2.2⟩
 | both h _ _ _ _ _ _ ih1 ih2 =>
   intro h0
   have h1 := ih1 (by omega)
   have h1s := h1.2.2 rfl
   have h2 := ih2 h1s
   exact ⟨by omega, by omega, h2.2.2⟩
 | stop h _ _ _ _ _ ih1 =>
   intro h0
   have h1 := ih1 (by omega)
   exact ⟨by omega, by omega, fun e => by cases e⟩

theorem RuleRun.one {rs : List Rl} {last : Int} {a k : Nat} {v : Int} {l : List (Lk × Bool)} {s s' : Nat} {b : Bool} (h : RuleRun rs last a k v l s s' b) : ∀ {t : Nat} {c : Bool}, RuleRun rs last a k v l s t c → s' = t ∧ b = c := by
 have hn : ∀ {x : Option Rl} {r r' : Rl}, x = some r → x = some r' → r = r' := fun a b => Option.some.inj (a.symm.trans b)
 have hlt : ∀ {a : Nat} {r : Rl}, rs[a]? = some r → a < rs.length := fun h => (List.getElem?_eq_some_iff.1 h).1
 have hlk : ∀ {r : Rl} {k : Nat} {x : Lk × Bool}, (looksOf r)[k]? = some x → k < (looksOf r).length := fun h => (List.getElem?_eq_some_iff.1 h).1
 induction h with
 | over h1 =>
   intro t c h'
   cases h' <;> first | exact ⟨rfl, rfl⟩ | omega
 | done h1 h2 =>
   intro t c h'
   cases h' with
   | done _ _ => exact ⟨rfl, rfl⟩
   | over _ => omega
   | never _ e _ _ => have := hlt e; omega
   | fits _ e _ _ => have := hlt e; omega
   | told _ e _ _ _ _ => have := hlt e; omega
   | both _ e _ _ _ _ _ => have := hlt e; omega
   | stop _ e _ _ _ _ => have := hlt e; omega
 | never h1 h2 h3 _ ih =>
   intro t c h'
   cases h' with
   | over _ => omega
   | done _ e => have := hlt h2; omega
   | never _ e _ h => exact ih h
   | fits _ e n _ => exact absurd h3 (hn h2 e ▸ n)
   | told _ e n _ _ _ => exact absurd h3 (hn h2 e ▸ n)
   | both _ e n _ _ _ _ => exact absurd h3 (hn h2 e ▸ n)
   | stop _ e n _ _ _ => exact absurd h3 (hn h2 e ▸ n)
 | fits h1 h2 h3 h4 =>
   intro t c h'
   cases h' with
   | over _ => omega
   | done _ e => have := hlt h2; omega
   | never _ e n _ => exact absurd n (hn h2 e ▸ h3)
   | fits _ e n _ => obtain rfl := hn h2 e; exact ⟨rfl, rfl⟩
   | told _ e n x _ _ => obtain rfl := hn h2 e; have := hlk x; omega
   | both _ e n x _ _ _ => obtain rfl := hn h2 e; have := hlk x; omega
   | stop _ e n x _ _ => obtain rfl := hn h2 e; have := hlk x; omega
 | told h1 h2 h3 h4 h5 _ ih =>
   intro t c h'
   cases h' with
   | over _ => omega
   | done _ e => have := hlt h2; omega
   | never _ e n _ => exact absurd n (hn h2 e ▸ h3)
   | fits _ e n x => obtain rfl := hn h2 e; have := hlk h4; omega
   | told _ e n x y z =>
     obtain rfl := hn h2 e
     rw [h4] at x; cases x
     rw [h5] at y; cases y
     exact ih z
   | both _ e n x y _ _ =>
     obtain rfl := hn h2 e
     rw [h4] at x; cases x
     rw [h5] at y; cases y
   | stop _ e n x y _ =>
     obtain rfl := hn h2 e
     rw [h4] at x; cases x
     rw [h5] at y; cases y
 | both h1 h2 h3 h4 h5 _ _ ih1 ih2 =>
   intro t c h'
   cases h' with
   | over _ => omega
   | done _ e => have := hlt h2; omega
   | never _ e n _ => exact absurd n (hn h2 e ▸ h3)
   | fits _ e n x => obtain rfl := hn h2 e; have := hlk h4; omega
   | told _ e n x y z =>
     obtain rfl := hn h2 e
     rw [h4] at x; cases x
     rw [h5] at y; cases y
   | both _ e n x y z1 z2 =>
     obtain rfl := hn h2 e
     rw [h4] at x; cases x
     obtain ⟨rfl, -⟩ := ih1 z1
     exact ih2 z2
   | stop _ e n x y z1 =>
     obtain rfl := hn h2 e
     rw [h4] at x; cases x
     have := (ih1 z1).2
     cases this
 | stop h1 h2 h3 h4 h5 _ ih1 =>
   intro t c h'
   cases h' with
   | over _ => omega
   | done _ e => have := hlt h2; omega
   | never _ e n _ => exact absurd n (hn h2 e ▸ h3)
   | fits _ e n x => obtain rfl := hn h2 e; have := hlk h4; omega
   | told _ e n x y z =>
     obtain rfl := hn h2 e
     rw [h4] at x; cases x
     rw [h5] at y; cases y
   | both _ e n x y z1 z2 =>
     obtain rfl := hn h2 e
     rw [h4] at x; cases x
     have := (ih1 z1).2
     cases this
   | stop _ e n x y z1 =>
     obtain rfl := hn h2 e
     rw [h4] at x; cases x
     obtain ⟨rfl, -⟩ := ih1 z1
     exact ⟨rfl, rfl⟩

def lookOp (x : In4) : Int := if x.op = 4 then 3 else 1
def wayOf (x : In4) (h : Bool) : Nat := if h then x.yes.toNat else x.no.toNat
def zeroB (x : In4) : Bool := decide (x.op ≠ 4 ∧ x.k = 0 ∨ x.op = 4 ∧ x.k < 0)
inductive WayRun (g : List In4) (rs : List Rl) (last : Int) : Nat → Int → Int → List (Lk × Bool) → Nat → Nat → Bool → Prop
 | over {a f m l s} : 6000 ≤ s → WayRun g rs last a f m l s (s + 1) false
 | load {a f m l s s' b x} : s < 6000 → g[a]? = some x → x.op = 1 → WayRun g rs last (a + 1) x.k 4294967295 l (s + 1) s' b → WayRun g rs last a f m l s s' b
 | mask {a f m l s s' b x} : s < 6000 → g[a]? = some x → x.op = 2 → WayRun g rs last (a + 1) f (Go.bits BinOp.and IntKind.i64 m x.k) l (s + 1) s' b → WayRun g rs last a f m l s s' b
 | jump {a f m l s s' b x} : s < 6000 → g[a]? = some x → x.op = 5 → WayRun g rs last (a + 1 + x.k.toNat) f m l (s + 1) s' b → WayRun g rs last a f m l s s' b
 | end_ {a f m l s s' b x} : s < 6000 → g[a]? = some x → x.op = 6 → RuleRun rs last 0 0 x.k l (s + 1) s' b → WayRun g rs last a f m l s s' b
 | zero {a f m l s s' b x} : s < 6000 → g[a]? = some x → (x.op = 3 ∨ x.op = 4) → m = 0 → WayRun g rs last (a + 1 + wayOf x (zeroB x)) f m l (s + 1) s' b → WayRun g rs last a f m l s s' b
 | told {a f m l s s' b x h} : s < 6000 → g[a]? = some x → (x.op = 3 ∨ x.op = 4) → m ≠ 0 → tellO l ⟨f, m, lookOp x, x.k⟩ = some h → WayRun g rs last (a + 1 + wayOf x h) f m l (s + 1) s' b → WayRun g rs last a f m l s s' b
 | both {a f m l s s1 s2 b x} : s < 6000 → g[a]? = some x → (x.op = 3 ∨ x.op = 4) → m ≠ 0 → tellO l ⟨f, m, lookOp x, x.k⟩ = none →
     WayRun g rs last (a + 1 + wayOf x true) f m (l ++ [(⟨f, m, lookOp x, x.k⟩, true)]) (s + 1) s1 true → WayRun g rs last (a + 1 + wayOf x false) f m (l ++ [(⟨f, m, lookOp x, x.k⟩, false)]) s1 s2 b → WayRun g rs last a f m l s s2 b
 | stop {a f m l s s1 x} : s < 6000 → g[a]? = some x → (x.op = 3 ∨ x.op = 4) → m ≠ 0 → tellO l ⟨f, m, lookOp x, x.k⟩ = none →
     WayRun g rs last (a + 1 + wayOf x true) f m (l ++ [(⟨f, m, lookOp x, x.k⟩, true)]) (s + 1) s1 false → WayRun g rs last a f m l s (s1 + 1) false

theorem WayRun.bound {g : List In4} {rs : List Rl} {last : Int} {a : Nat} {f m : Int} {l : List (Lk × Bool)} {s s' : Nat} {b : Bool} (h : WayRun g rs last a f m l s s' b) : s ≤ 6000 → s < s' ∧ s' + s ≤ 12001 ∧ (b = true → s' ≤ 6000) := by
 induction h with
 | over h => intro h0; exact ⟨by omega, by omega, fun e => by cases e⟩
 | load h _ _ _ ih => intro h0; have := ih (by omega); exact ⟨by omega, by omega, this.2.2⟩
 | mask h _ _ _ ih => intro h0; have := ih (by omega); exact ⟨by omega, by omega, this.2.2⟩
 | jump h _ _ _ ih => intro h0; have := ih (by omega); exact ⟨by omega, by omega, this.2.2⟩
 | end_ h _ _ hr => intro h0; have := hr.bound (by omega); exact ⟨by omega, by omega, this.2.2⟩
 | zero h _ _ _ _ ih => intro h0; have := ih (by omega); exact ⟨by omega, by omega, this.2.2⟩
 | told h _ _ _ _ _ ih => intro h0; have := ih (by omega); exact ⟨by omega, by omega, this.2.2⟩
 | both h _ _ _ _ _ _ ih1 ih2 =>
   intro h0
   have h1 := ih1 (by omega)
   have h1s := h1.2.2 rfl
   have h2 := ih2 h1s
   exact ⟨by omega, by omega, h2.2.2⟩
 | stop h _ _ _ _ _ ih1 =>
   intro h0
   have h1 := ih1 (by omega)
   exact ⟨by omega, by omega, fun e => by cases e⟩

theorem WayRun.one {g : List In4} {rs : List Rl} {last : Int} {a : Nat} {f m : Int} {l : List (Lk × Bool)} {s s' : Nat} {b : Bool} (h : WayRun g rs last a f m l s s' b) : ∀ {t : Nat} {c : Bool}, WayRun g rs last a f m l s t c → s' = t ∧ b = c := by
 have hn : ∀ {x : Option In4} {r r' : In4}, x = some r → x = some r' → r = r' := fun a b => Option.some.inj (a.symm.trans b)
 induction h with
 | over h1 =>
   intro t c h'
   cases h' <;> first | exact ⟨rfl, rfl⟩ | omega
 | load h1 h2 h3 _ ih =>
   intro t c h'
   cases h' with
   | over _ => omega
   | load _ e _ z => obtain rfl := hn h2 e; exact ih z
   | mask _ e y _ => obtain rfl := hn h2 e; omega
   | jump _ e y _ => obtain rfl := hn h2 e; omega
   | end_ _ e y _ => obtain rfl := hn h2 e; omega
   | zero _ e y _ _ => obtain rfl := hn h2 e; omega
   | told _ e y _ _ _ => obtain rfl := hn h2 e; omega
   | both _ e y _ _ _ _ => obtain rfl := hn h2 e; omega
   | stop _ e y _ _ _ => obtain rfl := hn h2 e; omega
 | mask h1 h2 h3 _ ih =>
   intro t c h'
   cases h' with
   | over _ => omega
   | load _ e y _ => obtain rfl := hn h2 e; omega
   | mask _ e _ z => obtain rfl := hn h2 e; exact ih z
   | jump _ e y _ => obtain rfl := hn h2 e; omega
   | end_ _ e y _ => obtain rfl := hn h2 e; omega
   | zero _ e y _ _ => obtain rfl := hn h2 e; omega
   | told _ e y _ _ _ => obtain rfl := hn h2 e; omega
   | both _ e y _ _ _ _ => obtain rfl := hn h2 e; omega
   | stop _ e y _ _ _ => obtain rfl := hn h2 e; omega
 | jump h1 h2 h3 _ ih =>
   intro t c h'
   cases h' with
   | over _ => omega
   | load _ e y _ => obtain rfl := hn h2 e; omega
   | mask _ e y _ => obtain rfl := hn h2 e; omega
   | jump _ e _ z => obtain rfl := hn h2 e; exact ih z
   | end_ _ e y _ => obtain rfl := hn h2 e; omega
   | zero _ e y _ _ => obtain rfl := hn h2 e; omega
   | told _ e y _ _ _ => obtain rfl := hn h2 e; omega
   | both _ e y _ _ _ _ => obtain rfl := hn h2 e; omega
   | stop _ e y _ _ _ => obtain rfl := hn h2 e; omega
 | end_ h1 h2 h3 hr =>
   intro t c h'
   cases h' with
   | over _ => omega
   | load _ e y _ => obtain rfl := hn h2 e; omega
   | mask _ e y _ => obtain rfl := hn h2 e; omega
   | jump _ e y _ => obtain rfl := hn h2 e; omega
   | end_ _ e _ z => obtain rfl := hn h2 e; exact hr.one z
   | zero _ e y _ _ => obtain rfl := hn h2 e; omega
   | told _ e y _ _ _ => obtain rfl := hn h2 e; omega
   | both _ e y _ _ _ _ => obtain rfl := hn h2 e; omega
   | stop _ e y _ _ _ => obtain rfl := hn h2 e; omega
 | zero h1 h2 h3 h4 _ ih =>
   intro t c h'
   cases h' with
   | over _ => omega
   | load _ e y _ => obtain rfl := hn h2 e; omega
   | mask _ e y _ => obtain rfl := hn h2 e; omega
   | jump _ e y _ => obtain rfl := hn h2 e; omega
   | end_ _ e y _ => obtain rfl := hn h2 e; omega
   | zero _ e _ _ z => obtain rfl := hn h2 e; exact ih z
   | told _ e _ n _ _ => exact absurd h4 n
   | both _ e _ n _ _ _ => exact absurd h4 n
   | stop _ e _ n _ _ => exact absurd h4 n
 | told h1 h2 h3 h4 h5 _ ih =>
   intro t c h'
   cases h' with
   | over _ => omega
   | load _ e y _ => obtain rfl := hn h2 e; omega
   | mask _ e y _ => obtain rfl := hn h2 e; omega
   | jump _ e y _ => obtain rfl := hn h2 e; omega
   | end_ _ e y _ => obtain rfl := hn h2 e; omega
   | zero _ e _ n _ => exact absurd n h4
   | told _ e _ _ y z =>
     obtain rfl := hn h2 e
     rw [h5] at y; cases y
     exact ih z
   | both _ e _ _ y _ _ =>
     obtain rfl := hn h2 e
     rw [h5] at y; cases y
   | stop _ e _ _ y _ =>
     obtain rfl := hn h2 e
     rw [h5] at y; cases y
 | both h1 h2 h3 h4 h5 _ _ ih1 ih2 =>
   intro t c h'
   cases h' with
   | over _ => omega
   | load _ e y _ => obtain rfl := hn h2 e; omega
   | mask _ e y _ => obtain rfl := hn h2 e; omega
   | jump _ e y _ => obtain rfl := hn h2 e; omega
   | end_ _ e y _ => obtain rfl := hn h2 e; omega
   | zero _ e _ n _ => exact absurd n h4
   | told _ e _ _ y z =>
     obtain rfl := hn h2 e
     rw [h5] at y; cases y
   | both _ e _ _ y z1 z2 =>
     obtain rfl := hn h2 e
     obtain ⟨rfl, -⟩ := ih1 z1
     exact ih2 z2
   | stop _ e _ _ y z1 =>
     obtain rfl := hn h2 e
     have := (ih1 z1).2
     cases this
 | stop h1 h2 h3 h4 h5 _ ih1 =>
   intro t c h'
   cases h' with
   | over _ => omega
   | load _ e y _ => obtain rfl := hn h2 e; omega
   | mask _ e y _ => obtain rfl := hn h2 e; omega
   | jump _ e y _ => obtain rfl := hn h2 e; omega
   | end_ _ e y _ => obtain rfl := hn h2 e; omega
   | zero _ e _ n _ => exact absurd n h4
   | told _ e _ _ y z =>
     obtain rfl := hn h2 e
     rw [h5] at y; cases y
   | both _ e _ _ y z1 z2 =>
     obtain rfl := hn h2 e
     have := (ih1 z1).2
     cases this
   | stop _ e _ _ y z1 =>
     obtain rfl := hn h2 e
     obtain ⟨rfl, -⟩ := ih1 z1
     exact ⟨rfl, rfl⟩

def ChkIs (g : List In4) (p : Pol) (s : Nat) (b : Bool) : Prop := WayRun g p.rules p.els 0 0 0 [] 0 s b
theorem ChkIs.one {g : List In4} {p : Pol} {s t : Nat} {b c : Bool} (h : ChkIs g p s b) (h' : ChkIs g p t c) : s = t ∧ b = c := WayRun.one h h'
end Go.Proofs.YtdjgicapbpoigaaGreatDoor
