/- Joined texts: ChkM ChkS ChkS2 ChkS3 ChkS4 ChkS5 ChkS6 ChkS7 ChkS8. -/
import Derived.Test.YtdjgicapbpoigaaGreatDoorChkP
import Derived.Test.YtdjgicapbpoigaaGreatDoorKit
import Derived.Deep.DeepCutAuto
import Derived.Test.YtdjgicapbpoigaaGreatDoorCodeSA
import Derived.Test.YtdjgicapbpoigaaGreatDoorPolSA
namespace Go.Proofs.YtdjgicapbpoigaaGreatDoor
open Go.RowKit
set_option linter.unusedSimpArgs false
set_option linter.unusedVariables false

def SlN (cg : Nat) (w : World) (size : Nat) (v : Value) (cs : List (List Value)) : Prop := ∃ A n c, v = .slice A n c ∧ SlA w size A n c cs ∧ (0 < n → ∀ b off, A = some ⟨b, off, none⟩ → b ≠ cg)
theorem SlN.sl {cg : Nat} {w : World} {size : Nat} {v : Value} {cs : List (List Value)} (h : SlN cg w size v cs) : Sl w size v cs := by
 obtain ⟨A, n, c, e, hA, -⟩ := h
 exact ⟨A, n, c, e, hA⟩
theorem SlN.grown {cg : Nat} {w w' : World} {size : Nat} {v : Value} {cs : List (List Value)} (h : SlN cg w size v cs) (hg : w.grownBy w' (some cg)) : SlN cg w' size v cs := by
 obtain ⟨A, n, c, e, hA, hn⟩ := h
 exact ⟨A, n, c, e, ⟨hA.len, hA.cap, hA.max, fun h0 => let ⟨b, off, e, hl, he⟩ := hA.at_ h0
   ⟨b, off, e, Nat.lt_of_lt_of_le hl hg.size, fun k r hr j v hv => hg.cell (he k r hr j v hv) (fun e2 => hn h0 b off e (by cases e2; rfl))⟩⟩, hn⟩
theorem SlN.below {cg : Nat} {w w' : World} {size : Nat} {v : Value} {cs : List (List Value)} (h : SlN cg w size v cs) (hb : Below w.heap.size w w') : SlN cg w' size v cs := h.grown (grown_of_below hb _)
theorem SlN.of_sl {cg : Nat} {w : World} {size : Nat} {v : Value} {cs : List (List Value)} (h : Sl w size v cs) (hc : w.heap.size ≤ cg) : SlN cg w size v cs := by
 obtain ⟨A, n, c, e, hA⟩ := h
 refine ⟨A, n, c, e, hA, fun hn b' off' e' => ?_⟩
 obtain ⟨b, off, e2, hl, _⟩ := hA.at_ hn
 rw [e2] at e'; cases e'; omega
theorem SlN.of_own {cg : Nat} {w : World} {base : Nat} {e : TypeId} {size n : Nat} {v : Value} {cs : List (List Value)} (h : w.ownsRow base e size v n cs.flatten) (hl : cs.length = n) (hs : ∀ r ∈ cs, r.length = size) (hc : cg < base) : SlN cg w size v cs := by
 obtain ⟨A, n', c, e1, hA⟩ := SlA.of_own h hl hs
 refine ⟨A, n', c, e1, hA, fun hn b off e2 hb => ?_⟩
 subst e1 e2 hb
 have := (h.lt b rfl).1
 omega

theorem Blk.same {w w' : World} {g : Nat} {t : TypeId} {cs : Array Value} (h : Blk w g t cs) (hb : Below w.heap.size w w') : Blk w' g t cs := h.below hb h.lt
def RulesN (cg : Nat) (w : World) (rs : List Rl) (css : List (List Value)) : Prop := css.length = rs.length ∧ ∀ (i : Nat) (r : Rl) (cs : List Value), rs[i]? = some r → css[i]? = some cs → ∃ tv, cs = [.int .i64 r.verdict, .int .i64 r.low, .int .i64 r.high, tv] ∧ SlN cg w 4 tv (tsR r.tests)
theorem RulesN.grown {cg : Nat} {w w' : World} {rs : List Rl} {css : List (List Value)} (h : RulesN cg w rs css) (hg : w.grownBy w' (some cg)) : RulesN cg w' rs css :=
 ⟨h.1, fun i r cs h1 h2 => by obtain ⟨tv, e, hs⟩ := h.2 i r cs h1 h2; exact ⟨tv, e, hs.grown hg⟩⟩
theorem RulesN.of {cg : Nat} {w : World} {rs : List Rl} {css : List (List Value)} (h : RulesAre w rs css) (hc : w.heap.size ≤ cg) : RulesN cg w rs css :=
 ⟨h.1, fun i r cs h1 h2 => by obtain ⟨tv, e, hs⟩ := h.2 i r cs h1 h2; exact ⟨tv, e, SlN.of_sl hs hc⟩⟩

def knC (x : Lk × Bool) : List Value := [.int .i64 x.1.field, .int .i64 x.1.mask, .int .i64 x.1.op, .int .i64 x.1.value, .bool x.2]
def knR (l : List (Lk × Bool)) : List (List Value) := l.map knC
theorem knR_len (l : List (Lk × Bool)) : (knR l).length = l.length := by simp [knR]
theorem knR_rows (l : List (Lk × Bool)) : ∀ r ∈ knR l, r.length = 5 := fun r hr => by
 obtain ⟨x, _, rfl⟩ := List.mem_map.1 hr
 rfl
theorem knR_snoc (l : List (Lk × Bool)) (x : Lk × Bool) : knR (l ++ [x]) = knR l ++ [knC x] := by simp [knR]

theorem kn_get {cg : Nat} {w : World} {A : Option Addr} {n c : Nat} {l : List (Lk × Bool)} (h : SlA w 5 A n c (knR l)) {k : Nat} (hk : k < n) :
   ∃ b off x, A = some ⟨b, off, none⟩ ∧ b < w.heap.size ∧ l[k]? = some x ∧ (∀ (w' : World) (B : Nat), Below B w w' → b < B →
     w'.cell? ⟨b, off + k * 5, none⟩ = some (.int .i64 x.1.field) ∧ w'.cell? ⟨b, off + k * 5 + 1, none⟩ = some (.int .i64 x.1.mask) ∧ w'.cell? ⟨b, off + k * 5 + 2, none⟩ = some (.int .i64 x.1.op) ∧ w'.cell? ⟨b, off + k * 5 + 3, none⟩ = some (.int .i64 x.1.value) ∧ w'.cell? ⟨b, off + k * 5 + 4, none⟩ = some (.bool x.2)) := by
 have hl := h.len
 rw [knR_len] at hl
 obtain ⟨b, o, e, hb, hc⟩ := h.get hk
 have hk' : k < l.length := by omega
 refine ⟨b, o, l[k], e, hb, List.getElem?_eq_getElem hk', fun w' B hw hB => ?_⟩
 have hr : (knR l)[k]? = some (knC l[k]) := by simp [knR, hk']
 exact ⟨cellAt hw hB (hc _ hr 0 _ rfl), cellAt hw hB (hc _ hr 1 _ rfl), cellAt hw hB (hc _ hr 2 _ rfl), cellAt hw hB (hc _ hr 3 _ rfl), cellAt hw hB (hc _ hr 4 _ rfl)⟩
end Go.Proofs.YtdjgicapbpoigaaGreatDoor

namespace Go.Proofs.YtdjgicapbpoigaaGreatDoor
open Go.RowKit
set_option linter.unusedSimpArgs false
set_option linter.unusedVariables false

def KnW (l : List (Lk × Bool)) : Prop := ∀ x ∈ l, 0 ≤ x.1.value ∧ x.1.value ≤ 4294967295
theorem KnW.nil : KnW [] := fun x h => by cases h
theorem KnW.snoc {l : List (Lk × Bool)} (h : KnW l) {q : Lk} {b : Bool} (hq : 0 ≤ q.value ∧ q.value ≤ 4294967295) : KnW (l ++ [(q, b)]) := fun x hx => by
 rcases List.mem_append.1 hx with h1 | h1
 · exact h x h1
 · rw [List.mem_singleton] at h1; subst h1; exact hq

theorem take_next {α : Type} {l : List α} {k : Nat} {x : α} (h : l[k]? = some x) : l.take (k + 1) = l.take k ++ [x] := by
 rw [List.take_add_one, h]; rfl
theorem room_next {l : List (Lk × Bool)} {q : Lk} {k : Nat} {f m o v : Int} {h : Bool} (hx : l[k]? = some (⟨f, m, o, v⟩, h)) (h1 : oneOf (l.take k) q = none) (hw : KnW l) :
   ((f ≠ q.field ∨ m ≠ q.mask ∨ (o = 1 ∧ h = false) ∨ (o ≠ 1 ∧ o ≠ 3) ∨ (o = 3 ∧ h = true ∧ ¬ lowOf (l.take k) q < v + 1) ∨ (o = 3 ∧ h = false ∧ ¬ v < highOf (l.take k) q)) → oneOf (l.take (k + 1)) q = none ∧ lowOf (l.take (k + 1)) q = lowOf (l.take k) q ∧ highOf (l.take (k + 1)) q = highOf (l.take k) q) ∧
   (f = q.field → m = q.mask → o = 3 → h = true → lowOf (l.take k) q < v + 1 → oneOf (l.take (k + 1)) q = none ∧ lowOf (l.take (k + 1)) q = v + 1 ∧ highOf (l.take (k + 1)) q = highOf (l.take k) q) ∧
   (f = q.field → m = q.mask → o = 3 → h = false → v < highOf (l.take k) q → oneOf (l.take (k + 1)) q = none ∧ lowOf (l.take (k + 1)) q = lowOf (l.take k) q ∧ highOf (l.take (k + 1)) q = v) ∧
   (f = q.field → m = q.mask → o = 1 → h = true → roomLow l q = v ∧ roomHigh l q = v) := by
 have hv := hw _ (List.mem_of_getElem? hx)
 simp only at hv
 have e1 := oneOf_snoc (l.take k) (⟨f, m, o, v⟩, h) q
 have e2 := lowOf_snoc (l.take k) (⟨f, m, o, v⟩, h) q (fun _ => by show 0 ≤ v + 1; omega)
 have e3 := highOf_snoc (l.take k) (⟨f, m, o, v⟩, h) q
 rw [← take_next hx] at e1 e2 e3
 rw [h1] at e1
 refine ⟨fun hc => ?_, fun a b c d e => ?_, fun a b c d e => ?_, fun a b c d => ?_⟩
 · rw [e1, e2, e3]
   refine ⟨?_, ?_, ?_⟩
   · simp only
     rw [if_neg]
     rintro ⟨a, b, c, d⟩
     simp only at a b c d
     rcases hc with hc | hc | ⟨_, hc⟩ | ⟨hc, _⟩ | ⟨hc, _⟩ | ⟨hc, _⟩
     · exact hc a
     · exact hc b
     · rw [d] at hc; cases hc
     · exact hc c
     · omega
     · omega
   · by_cases hs : selLow (⟨f, m, o, v⟩, h) q
     · rw [if_pos hs]
       obtain ⟨a, b, c, d⟩ := hs
       simp only at a b c d ⊢
       rcases hc with hc | hc | ⟨hc, _⟩ | ⟨_, hc⟩ | ⟨_, _, hc⟩ | ⟨_, hc, _⟩
       · exact absurd a hc
       · exact absurd b hc
       · omega
       · exact absurd c hc
       · omega
       · rw [d] at hc; cases hc
     · rw [if_neg hs]
   · by_cases hs : selHigh (⟨f, m, o, v⟩, h) q
     · rw [if_pos hs]
       obtain ⟨a, b, c, d⟩ := hs
       simp only at a b c d ⊢
       rcases hc with hc | hc | ⟨hc, _⟩ | ⟨_, hc⟩ | ⟨_, hc, _⟩ | ⟨_, _, hc⟩
       · exact absurd a hc
       · exact absurd b hc
       · omega
       · exact absurd c hc
       · rw [d] at hc; cases hc
       · omega
     · rw [if_neg hs]
 · have n1 : ¬ selOne (⟨f, m, o, v⟩, h) q := fun hs => by have := hs.2.2.1; simp only at this; omega
   have n2 : selLow (⟨f, m, o, v⟩, h) q := ⟨a, b, c, d⟩
   have n3 : ¬ selHigh (⟨f, m, o, v⟩, h) q := fun hs => by have := hs.2.2.2; simp only at this; rw [d] at this; cases this
   rw [e1, e2, e3, if_pos n2, if_neg n3]
   refine ⟨by simp only; rw [if_neg n1], by simp only; omega, rfl⟩
 · have n1 : ¬ selOne (⟨f, m, o, v⟩, h) q := fun hs => by have := hs.2.2.1; simp only at this; omega
   have n2 : ¬ selLow (⟨f, m, o, v⟩, h) q := fun hs => by have := hs.2.2.2; simp only at this; rw [d] at this; cases this
   have n3 : selHigh (⟨f, m, o, v⟩, h) q := ⟨a, b, c, d⟩
   rw [e1, e2, e3, if_neg n2, if_pos n3]
   refine ⟨by simp only; rw [if_neg n1], rfl, by simp only; omega⟩
 · have n1 : selOne (⟨f, m, o, v⟩, h) q := ⟨a, b, c, d⟩
   simp only at e1
   rw [if_pos n1] at e1
   have : oneOf l q = some v := by
     rw [← List.take_append_drop (k + 1) l]
     have hk : ∀ (x y : List (Lk × Bool)) (z : Int), oneOf x q = some z → oneOf (x ++ y) q = some z := fun x y z => by
       induction x with
       | nil => intro h; cases h
       | cons t x ih => intro h; simp only [List.cons_append, oneOf] at *; split <;> simp_all
     exact hk _ _ _ e1
   exact ⟨by simp [roomLow, this], by simp [roomHigh, this]⟩

theorem ret_ii {a b c d : Int} (h : a = c) (k : b = d) : Ending.returned (.tuple #[.int .i64 a, .int .i64 b]) = .returned (.tuple #[.int .i64 c, .int .i64 d]) := by rw [h, k]
section
variable (cg : Nat) (cv rv : Value) (last : Int)
set_option maxHeartbeats 1000000 in
theorem sStep_on (s : Nat) (w : World) (h : Blk w cg 68 #[cv, rv, .int .i64 last, .int .i64 (s : Int), .bool true]) (hs : s < 6000) :
   Calls Tryz.prog 91 #[.pointer (some ⟨cg, 0, none⟩)] w fun e w' => e = .returned (.bool true) ∧ Blk w' cg 68 #[cv, rv, .int .i64 last, .int .i64 ((s + 1 : Nat) : Int), .bool true] ∧ w.grownBy w' (some cg) := by
 have c3 := (show _ = some (Value.int .i64 (s : Int)) from h.cell 3); have c4 := (show _ = some (Value.bool true) from h.cell 4); have f3 := h.frozen 3; have f4 := h.frozen 4
 have HF := Lib.hid (h.set_ 3 (.int .i64 ((s + 1 : Nat) : Int)))
 have hd : ¬ (6000 : Int) < (s : Int) + 1 := by omega
 have hlt := h.lt
 clear h
 go_enter Tryz.func91, Tryz.ntmps91
 go_wp2
 go_ret
 exact ⟨rfl, HF.out, grown_set _ _ _ _⟩
set_option maxHeartbeats 1000000 in
theorem sStep_off (s : Nat) (ok : Bool) (w : World) (h : Blk w cg 68 #[cv, rv, .int .i64 last, .int .i64 (s : Int), .bool ok]) (hs : s ≤ 20000) (ho : 6000 ≤ s ∨ ok = false) :
   Calls Tryz.prog 91 #[.pointer (some ⟨cg, 0, none⟩)] w fun e w' => e = .returned (.bool false) ∧ Blk w' cg 68 #[cv, rv, .int .i64 last, .int .i64 ((s + 1 : Nat) : Int), .bool false] ∧ w.grownBy w' (some cg) := by
 have c3 := (show _ = some (Value.int .i64 (s : Int)) from h.cell 3); have c4 := (show _ = some (Value.bool ok) from h.cell 4); have f3 := h.frozen 3; have f4 := h.frozen 4
 have HF := Lib.hid (h.set_ 3 (.int .i64 ((s + 1 : Nat) : Int))); have HG := Lib.hid ((h.set_ 3 (.int .i64 ((s + 1 : Nat) : Int))).set_ 4 (.bool false))
 clear h
 by_cases hd : (6000 : Int) < (s : Int) + 1
 · clear ho
   go_enter Tryz.func91, Tryz.ntmps91
   go_wp2
   go_ret
   exact ⟨rfl, HG.out, (grown_set _ _ _ _).trans (grown_set _ _ _ _)⟩
 · obtain rfl : ok = false := by rcases ho with h | h; omega; exact h
   clear ho
   go_enter Tryz.func91, Tryz.ntmps91
   go_wp2
   go_ret
   exact ⟨rfl, HF.out, grown_set _ _ _ _⟩
end

set_option maxHeartbeats 4000000 in
theorem l6Room_any (lv : Value) (l : List (Lk × Bool)) (q : Lk) (w : World) (hl : Sl w 5 lv (knR l)) (hw : KnW l) :
   Calls Tryz.prog 153 #[lv, .int .i64 q.field, .int .i64 q.mask] w fun e w' => e = .returned (.tuple #[.int .i64 (roomLow l q), .int .i64 (roomHigh l q)]) ∧ Below w.heap.size w w' := by
 obtain ⟨A, n, c, rfl, hA⟩ := hl
 have hn : l.length = n := by have := hA.len; rwa [knR_len] at this
 have hc := hA.cap
 have hm := hA.max
 unfold maxLen at hm
 have HL := Lib.hid hn; have HA := Lib.hid hA; have HW := Lib.hid hw
 clear hn hA hw
 obtain ⟨qf, qm, qo, qv⟩ := q
 simp only
 go_enter Tryz.func153, Tryz.ntmps153
 go_wp2
 go_loopw [8, 9, 10] (fun lo hi i wr => ∃ (k : Nat) (zl zh : Int), k ≤ n ∧ i = .int .i64 k ∧ lo = .int .i64 zl ∧ hi = .int .i64 zh ∧ Hid (oneOf (l.take k) ⟨qf, qm, qo, qv⟩ = none ∧ lowOf (l.take k) ⟨qf, qm, qo, qv⟩ = zl ∧ highOf (l.take k) ⟨qf, qm, qo, qv⟩ = zh) ∧ Below w.heap.size w wr) (fun _ _ i _ => n - (intOf i).toNat)
 case atStart => exact ⟨0, 0, qm, Nat.zero_le _, rfl, rfl, rfl, Lib.hid ⟨rfl, rfl, rfl⟩, Below.refl _ _⟩
 case round =>
   obtain ⟨k, zl, zh, hk, rfl, rfl, rfl, HR, hb⟩ := hrel
   have hsz := hb.size
   by_cases hlt : k < n
   · obtain ⟨b, off, ⟨⟨xf, xm, xo, xv⟩, xh⟩, rfl, hab, hgp, hcell⟩ := kn_get (cg := 0) HA.out hlt
     obtain ⟨c0, c1, c2, c3, c4⟩ := hcell wr _ hb hab
     simp only at c0 c1 c2 c3 c4
     have hv := HW.out _ (List.mem_of_getElem? hgp)
     simp only at hv
     have HN := Lib.hid (room_next hgp HR.out.1 HW.out)
     rw [HR.out.2.1, HR.out.2.2] at HN
     have fin : ∀ (zl' zh' : Int) (w' : World), Below w.heap.size w w' → oneOf (l.take (k + 1)) ⟨qf, qm, qo, qv⟩ = none ∧ lowOf (l.take (k + 1)) ⟨qf, qm, qo, qv⟩ = zl' ∧ highOf (l.take (k + 1)) ⟨qf, qm, qo, qv⟩ = zh' → (∃ (k' : Nat) (zl zh : Int), k' ≤ n ∧ Value.int .i64 ((k : Int) + 1) = .int .i64 k' ∧ Value.int .i64 zl' = .int .i64 zl ∧ Value.int .i64 zh' = .int .i64 zh ∧ Hid (oneOf (l.take k') ⟨qf, qm, qo, qv⟩ = none ∧ lowOf (l.take k') ⟨qf, qm, qo, qv⟩ = zl ∧ highOf (l.take k') ⟨qf, qm, qo, qv⟩ = zh) ∧ Below w.heap.size w w') ∧ n - (intOf (.int .i64 ((k : Int) + 1))).toNat < n - (intOf (.int .i64 (k : Int))).toNat := fun zl' zh' w' hb' h =>
       ⟨⟨k + 1, zl', zh', by omega, by go_num, rfl, rfl, Lib.hid h, hb'⟩, by simp [intOf]; omega⟩
     have FIN := Lib.hid fin
     clear hcell hgp HR fin
     by_cases h1 : xf = qf
     · by_cases h2 : xm = qm
       · subst h1 h2
         by_cases h3 : xo = 1
         · subst h3
           cases xh
           · have HS := Lib.hid (HN.out.1 (.inr (.inr (.inl ⟨rfl, rfl⟩))))
             go_wp2
             exact FIN.out _ _ _ (by go_grown) HS.out
           · obtain ⟨r1, r2⟩ := HN.out.2.2.2 rfl rfl rfl rfl
             have R1 := Lib.hid r1; have R2 := Lib.hid r2; clear r1 r2
             go_wp2
             go_region
             all_goals go_wp2
             all_goals
               go_ret2
               exact ⟨ret_ii R1.out.symm R2.out.symm, by go_grown⟩
         · by_cases h4 : xo = 3
           · subst h4
             cases xh
             · by_cases h5 : xv < zh
               · have HS := Lib.hid (HN.out.2.2.1 rfl rfl rfl rfl h5)
                 go_wp2
                 exact FIN.out _ _ _ (by go_grown) HS.out
               · have HS := Lib.hid (HN.out.1 (.inr (.inr (.inr (.inr (.inr ⟨rfl, rfl, h5⟩))))))
                 go_wp2
                 exact FIN.out _ _ _ (by go_grown) HS.out
             · by_cases h5 : zl < xv + 1
               · have HS := Lib.hid (HN.out.2.1 rfl rfl rfl rfl h5)
                 go_wp2
                 exact FIN.out _ _ _ (by go_grown) HS.out
               · have HS := Lib.hid (HN.out.1 (.inr (.inr (.inr (.inr (.inl ⟨rfl, rfl, h5⟩))))))
                 go_wp2
                 exact FIN.out _ _ _ (by go_grown) HS.out
           · have HS := Lib.hid (HN.out.1 (.inr (.inr (.inr (.inl ⟨h3, h4⟩)))))
             go_wp2
             exact FIN.out _ _ _ (by go_grown) HS.out
       · have HS := Lib.hid (HN.out.1 (.inr (.inl h2)))
         subst h1
         go_wp2
         exact FIN.out _ _ _ (by go_grown) HS.out
     · have HS := Lib.hid (HN.out.1 (.inl h1))
       go_wp2
       exact FIN.out _ _ _ (by go_grown) HS.out
   · obtain rfl : k = n := by omega
     have HE := Lib.hid (show oneOf l ⟨qf, qm, qo, qv⟩ = none ∧ lowOf l ⟨qf, qm, qo, qv⟩ = zl ∧ highOf l ⟨qf, qm, qo, qv⟩ = zh by have := HR.out; rwa [List.take_of_length_le (by rw [HL.out]; omega)] at this)
     clear HR
     go_wp2
     go_ret2
     exact ⟨ret_ii (by simp only [roomLow, HE.out.1, HE.out.2.1, Option.getD_none]) (by simp only [roomHigh, HE.out.1, HE.out.2.2, Option.getD_none]), hb⟩
end Go.Proofs.YtdjgicapbpoigaaGreatDoor

namespace Go.Proofs.YtdjgicapbpoigaaGreatDoor
open Go.RowKit
set_option linter.unusedSimpArgs false
set_option linter.unusedVariables false

def tellI (l : List (Lk × Bool)) (q : Lk) : Int := match tellO l q with | some true => 1 | some false => 0 | none => -1
theorem seen_next {l : List (Lk × Bool)} {q : Lk} {k : Nat} {x : Lk × Bool} (hx : l[k]? = some x) (h1 : seen (l.take k) q = none) : (¬ LkSame x.1 q → seen (l.take (k + 1)) q = none) ∧ (LkSame x.1 q → seen l q = some x.2) := by
 have e1 := seen_snoc (l.take k) x q
 rw [← take_next hx, h1] at e1
 simp only at e1
 refine ⟨fun h => by rw [e1, if_neg h], fun h => ?_⟩
 rw [if_pos h] at e1
 have hk : ∀ (a b : List (Lk × Bool)) (z : Bool), seen a q = some z → seen (a ++ b) q = some z := fun a b z => by
   induction a with
   | nil => intro h; cases h
   | cons t a ih => intro h; simp only [List.cons_append, seen] at *; split <;> simp_all
 have := hk _ (l.drop (k + 1)) _ e1
 rwa [List.take_append_drop] at this
theorem tellI_seen {l : List (Lk × Bool)} {q : Lk} {h : Bool} (e : seen l q = some h) : tellI l q = if h then 1 else 0 := by
 unfold tellI; rw [tellO_seen e]; cases h <;> rfl
theorem tellI_room {l : List (Lk × Bool)} {q : Lk} (e : seen l q = none) : tellI l q = match tellRoom (roomLow l q) (roomHigh l q) q with | some true => 1 | some false => 0 | none => -1 := by
 unfold tellI; rw [tellO_room e]

set_option maxHeartbeats 4000000 in
theorem l6Tell_any (lv : Value) (l : List (Lk × Bool)) (q : Lk) (qh : Bool) (w : World) (hl : Sl w 5 lv (knR l)) (hw : KnW l) (hq : q.op = 1 ∨ q.op = 3) :
   Calls Tryz.prog 127 #[lv, .agg #[.int .i64 q.field, .int .i64 q.mask, .int .i64 q.op, .int .i64 q.value, .bool qh]] w fun e w' => e = .returned (.int .i64 (tellI l q)) ∧ Below w.heap.size w w' := by
 have HS0 := Lib.hid hl
 obtain ⟨A, n, c, rfl, hA⟩ := hl
 have hn : l.length = n := by have := hA.len; rwa [knR_len] at this
 have hc := hA.cap
 have hm := hA.max
 unfold maxLen at hm
 have HL := Lib.hid hn; have HA := Lib.hid hA; have HW := Lib.hid hw
 clear hn hA hw
 obtain ⟨qf, qm, qo, qv⟩ := q
 simp only at hq ⊢
 have hb0 : Below w.heap.size w (w.alloc (.cells #[.int .i64 qf, .int .i64 qm, .int .i64 qo, .int .i64 qv, .bool qh] 232)) := by go_grown
 have B0 := Blk.new w 232 #[.int .i64 qf, .int .i64 qm, .int .i64 qo, .int .i64 qv, .bool qh]
 have HB := Lib.hid B0; have HQ := Lib.hid hq
 clear B0 hq
 go_enter Tryz.func127, Tryz.ntmps127
 go_wp2
 go_loopw [5] (fun i wr => ∃ (k : Nat), k ≤ n ∧ i = .int .i64 k ∧ Hid (seen (l.take k) ⟨qf, qm, qo, qv⟩ = none) ∧ Below (w.heap.size + 1) (w.alloc (.cells #[.int .i64 qf, .int .i64 qm, .int .i64 qo, .int .i64 qv, .bool qh] 232)) wr) (fun i _ => n - (intOf i).toNat)
 case atStart => exact ⟨0, Nat.zero_le _, rfl, Lib.hid rfl, Below.refl _ _⟩
 case round =>
   obtain ⟨k, hk, rfl, HR, hb⟩ := hrel
   have hsz := hb.size
   simp only [World.size_alloc] at hsz
   have hz0 : w.heap.size < wr.heap.size := by omega
   have hb2 : Below w.heap.size w wr := hb0.trans (hb.mono (by omega))
   have B1 := HB.out.below hb (by omega)
   have b0 := (show _ = some (Value.int .i64 qf) from B1.cell 0); have b1 := (show _ = some (Value.int .i64 qm) from B1.cell 1); have b2 := (show _ = some (Value.int .i64 qo) from B1.cell 2); have b3 := (show _ = some (Value.int .i64 qv) from B1.cell 3)
   have HB1 := Lib.hid B1
   clear B1
   by_cases hlt : k < n
   · obtain ⟨b, off, ⟨⟨xf, xm, xo, xv⟩, xh⟩, rfl, hab, hgp, hcell⟩ := kn_get (cg := 0) HA.out hlt
     obtain ⟨c0, c1, c2, c3, c4⟩ := hcell wr _ hb2 hab
     simp only at c0 c1 c2 c3 c4
     have HN := Lib.hid (seen_next hgp HR.out)
     have fin : ∀ (w' : World), Below (w.heap.size + 1) (w.alloc (.cells #[.int .i64 qf, .int .i64 qm, .int .i64 qo, .int .i64 qv, .bool qh] 232)) w' → ¬ LkSame ⟨xf, xm, xo, xv⟩ ⟨qf, qm, qo, qv⟩ → (∃ (k' : Nat), k' ≤ n ∧ Value.int .i64 ((k : Int) + 1) = .int .i64 k' ∧ Hid (seen (l.take k') ⟨qf, qm, qo, qv⟩ = none) ∧ Below (w.heap.size + 1) (w.alloc (.cells #[.int .i64 qf, .int .i64 qm, .int .i64 qo, .int .i64 qv, .bool qh] 232)) w') ∧ n - (intOf (.int .i64 ((k : Int) + 1))).toNat < n - (intOf (.int .i64 (k : Int))).toNat := fun w' hb' h =>
       ⟨⟨k + 1, by omega, by go_num, Lib.hid (HN.out.1 h), hb'⟩, by simp [intOf]; omega⟩
     have FIN := Lib.hid fin
     clear hcell hgp HR fin
     by_cases h1 : xf = qf
     · by_cases h2 : xm = qm
       · by_cases h3 : xo = qo
         · by_cases h4 : xv = qv
           · subst h1 h2 h3 h4
             have HT := Lib.hid (tellI_seen (HN.out.2 ⟨rfl, rfl, rfl, rfl⟩))
             cases xh
             all_goals
               go_wp2
               go_ret
               exact ⟨ret_int HT.out.symm, by go_grown⟩
           · have HX := Lib.hid (show ¬ LkSame ⟨xf, xm, xo, xv⟩ ⟨qf, qm, qo, qv⟩ from fun h => h4 h.2.2.2)
             subst h1 h2 h3
             go_wp2
             exact FIN.out _ (by go_grown) HX.out
         · have HX := Lib.hid (show ¬ LkSame ⟨xf, xm, xo, xv⟩ ⟨qf, qm, qo, qv⟩ from fun h => h3 h.2.2.1)
           subst h1 h2
           go_wp2
           exact FIN.out _ (by go_grown) HX.out
       · have HX := Lib.hid (show ¬ LkSame ⟨xf, xm, xo, xv⟩ ⟨qf, qm, qo, qv⟩ from fun h => h2 h.2.1)
         subst h1
         go_wp2
         exact FIN.out _ (by go_grown) HX.out
     · have HX := Lib.hid (show ¬ LkSame ⟨xf, xm, xo, xv⟩ ⟨qf, qm, qo, qv⟩ from fun h => h1 h.1)
       go_wp2
       exact FIN.out _ (by go_grown) HX.out
   · obtain rfl : k = n := by omega
     have HE := Lib.hid (tellI_room (show seen l ⟨qf, qm, qo, qv⟩ = none by have := HR.out; rwa [List.take_of_length_le (by rw [HL.out]; omega)] at this))
     clear HR
     obtain ⟨lo, hlo⟩ : ∃ z, z = roomLow l ⟨qf, qm, qo, qv⟩ := ⟨_, rfl⟩
     obtain ⟨hi, hhi⟩ : ∃ z, z = roomHigh l ⟨qf, qm, qo, qv⟩ := ⟨_, rfl⟩
     rw [← hlo, ← hhi] at HE
     have HRM := Lib.hid (show ∀ W, Sl W 5 (.slice A k c) (knR l) → Calls Tryz.prog 153 #[.slice A k c, .int .i64 qf, .int .i64 qm] W fun e w' => e = .returned (.tuple #[.int .i64 lo, .int .i64 hi]) ∧ Below W.heap.size W w' from fun W hs => by rw [hlo, hhi]; exact l6Room_any _ l ⟨qf, qm, qo, qv⟩ W hs HW.out)
     clear hlo hhi
     go_wp2_with fail
     refine (HRM.out _ (HS0.out.below hb2)).mono ?_; rintro e w2 ⟨rfl, hr⟩
     have hb3 := below_then hb2 hr
     have B2 := HB1.out.below hr (by omega)
     have d2 := (show _ = some (Value.int .i64 qo) from B2.cell 2); have d3 := (show _ = some (Value.int .i64 qv) from B2.cell 3)
     clear B2
     rcases HQ.out with h | h
     · subst h
       by_cases h1 : qv < lo
       · have HV := Lib.hid (show tellI l ⟨qf, qm, 1, qv⟩ = 0 by rw [HE.out]; simp [tellRoom, h1])
         go_wp2
         go_ret
         exact ⟨ret_int HV.out.symm, hb3⟩
       · by_cases h2 : hi < qv
         · have HV := Lib.hid (show tellI l ⟨qf, qm, 1, qv⟩ = 0 by rw [HE.out]; simp [tellRoom, h1, h2])
           go_wp2
           go_ret
           exact ⟨ret_int HV.out.symm, hb3⟩
         · by_cases h3 : lo = hi
           · have HV := Lib.hid (show tellI l ⟨qf, qm, 1, qv⟩ = 1 by rw [HE.out]; simp only [tellRoom]; rw [if_neg (by omega), if_neg (by omega), if_pos h3])
             subst h3
             go_wp2
             go_ret
             exact ⟨ret_int HV.out.symm, hb3⟩
           · have HV := Lib.hid (show tellI l ⟨qf, qm, 1, qv⟩ = -1 by rw [HE.out]; simp only [tellRoom]; rw [if_neg (by omega), if_neg (by omega), if_neg h3])
             go_wp2
             go_ret
             exact ⟨ret_int HV.out.symm, hb3⟩
     · subst h
       by_cases h1 : qv < lo
       · have HV := Lib.hid (show tellI l ⟨qf, qm, 3, qv⟩ = 1 by rw [HE.out]; simp [tellRoom, h1])
         go_wp2
         go_ret
         exact ⟨ret_int HV.out.symm, hb3⟩
       · by_cases h2 : hi ≤ qv
         · have HV := Lib.hid (show tellI l ⟨qf, qm, 3, qv⟩ = 0 by rw [HE.out]; simp [tellRoom, h1, h2])
           go_wp2
           go_ret
           exact ⟨ret_int HV.out.symm, hb3⟩
         · have HV := Lib.hid (show tellI l ⟨qf, qm, 3, qv⟩ = -1 by rw [HE.out]; simp [tellRoom, h1, h2])
           go_wp2
           go_ret
           exact ⟨ret_int HV.out.symm, hb3⟩
end Go.Proofs.YtdjgicapbpoigaaGreatDoor

namespace Go.Proofs.YtdjgicapbpoigaaGreatDoor
open Go.RowKit
set_option linter.unusedSimpArgs false
set_option linter.unusedVariables false

theorem info_Kn : (Tryz.prog.info? 232).map (fun i => (i.zero, i.size, i.bytes)) = some (some (.agg #[.int .i64 0, .int .i64 0, .int .i64 0, .int .i64 0, .bool false]), 5, 40) := by kernel_rfl
theorem kn_one (l : List (Lk × Bool)) : ∀ u ∈ (knR l).flatten, u.oneCell' = true := fun u hu => by
 obtain ⟨r, hr, h⟩ := List.mem_flatten.1 hu
 obtain ⟨x, _, rfl⟩ := List.mem_map.1 hr
 simp [knC] at h
 rcases h with rfl | rfl | rfl | rfl | rfl <;> rfl
theorem knC_one (x : Lk × Bool) : ∀ u ∈ knC x, u.oneCell' = true := fun u h => by
 simp [knC] at h
 rcases h with rfl | rfl | rfl | rfl | rfl <;> rfl
theorem SlA.flatAt {w : World} {size b off n c : Nat} {cs : List (List Value)} (h : SlA w size (some ⟨b, off, none⟩) n c cs) (hs : ∀ r ∈ cs, r.length = size) {j : Nat} {u : Value} (hj : cs.flatten[j]? = some u) : b < w.heap.size ∧ w.cell? ⟨b, off + j, none⟩ = some u := by
 have hl := (List.getElem?_eq_some_iff.1 hj).1
 rw [flat_len cs hs] at hl
 have hz : 0 < size := Nat.pos_of_ne_zero (fun e => by subst e; simp at hl)
 have hk : j / size < cs.length := (Nat.div_lt_iff_lt_mul hz).2 hl
 have hn : 0 < n := h.len ▸ Nat.lt_of_le_of_lt (Nat.zero_le _) hk
 obtain ⟨b', off', e, hb, hel⟩ := h.at_ hn
 cases e
 have hr : cs[j / size]? = some (cs[j / size]'hk) := List.getElem?_eq_getElem hk
 have hrl := hs _ (List.getElem_mem (l := cs) (n := j / size) hk)
 have hi : j % size < (cs[j / size]'hk).length := by rw [hrl]; exact Nat.mod_lt _ hz
 have hv := List.getElem?_eq_getElem hi
 have h1 := flat_get cs hs _ _ hr _ _ hv
 have e2 : j / size * size + j % size = j := by rw [Nat.mul_comm]; exact Nat.div_add_mod j size
 rw [e2, hj] at h1
 have h2 := hel _ _ hr _ _ hv
 rw [← Option.some.inj h1, Nat.add_assoc, e2] at h2
 exact ⟨hb, h2⟩
theorem own_empty {W : World} {g base : Nat} {t : TypeId} {size : Nat} (h : Blk W g t #[]) (hb : base ≤ g) : W.ownsRow base t size (.slice (some ⟨g, 0, none⟩) 0 0) 0 [] :=
 ⟨by simp, .inr ⟨g, 0, #[], rfl, hb, h, Nat.le_refl _, Nat.zero_le _, by simp, by simp⟩⟩
theorem step_ownK {P : Program} {w : World} {ops : Array Oper} {o : Oper} {a : Act} {K : Act → World → Prop} {Q : Exit → Act → World → Prop} {E : Prop} (hgd : o.guard = none) (s x : Operand) (t : TypeId)
   (ho : o.op = .call { callee := .builtin .append, args := #[s, x], argTypes := #[t, t] })
   (base : Nat) (e : TypeId) {z : Value} {size bytes : Nat} (ht : P.underlying t = some (.slice e)) (hinfo : (P.info? e).map (fun i => (i.zero, i.size, i.bytes)) = some (some z, size, bytes))
   (hzs : z.cells.size = size) (hsz : 0 < size) (hby : 0 < bytes)
   (v : Value) (n : Nat) (xs : List Value) (hs : a.eval s = v) (hown : w.ownsRow base e size v n xs)
   (ad : Addr) (m c : Nat) (news : List Value) (hx : a.eval x = .slice (some ad) m c) (hl : news.length = m * size) (hnews : ∀ j u, news[j]? = some u → w.cell? (ad.add j) = some u) (h1 : ∀ u ∈ news, u.oneCell' = true)
   (hn : (n + m) * bytes ≤ 140737488355328) (hbase : base ≤ w.heap.size)
   (h : ∀ v' w', w'.ownsRow base e size v' (n + m) (xs ++ news) → w.grownBy w' v.ownBlock → K (a.put o.dst v') w') :
   if Region.wanted o (yielded ops a.tmps) = true then Oper.wp P o a w K Q else E := by
 have hw : Region.wanted o (yielded ops a.tmps) = true := by simp [Region.wanted, hgd]
 rw [if_pos hw]
 obtain ⟨i0, hi0, hz0, hz1, hz2⟩ := info_parts hinfo
 have hn1 : n + m ≤ 140737488355328 := Nat.le_trans (Nat.le_mul_of_pos_right _ hby) hn
 exact wp_append_own w s x t ho base e i0 z size bytes ht hi0 hz0 hz1 hz2 hzs hsz v n xs hs hown ad m c news hx hl hnews h1 (by unfold maxLen; omega) hn hbase (fun v' w' a b _ => h v' w' a b)

set_option maxHeartbeats 2000000 in
theorem l6With_any (b off n c : Nat) (l : List (Lk × Bool)) (q : Lk) (qh h : Bool) (w : World) (hl : SlA w 5 (some ⟨b, off, none⟩) n c (knR l)) (hn9 : n ≤ 100000) :
   Calls Tryz.prog 128 #[.slice (some ⟨b, off, none⟩) n c, .agg #[.int .i64 q.field, .int .i64 q.mask, .int .i64 q.op, .int .i64 q.value, .bool qh], .bool h] w fun e w' =>
     ∃ v', e = .returned v' ∧ w'.ownsRow w.heap.size 232 5 v' (n + 1) (knR (l ++ [(q, h)])).flatten ∧ Below w.heap.size w w' := by
 obtain ⟨qf, qm, qo, qv⟩ := q
 simp only
 have hlen : l.length = n := by have := hl.len; rwa [knR_len] at this
 have HX1 := Lib.hid (show ∀ (W : World), Below w.heap.size w W → ∀ (j : Nat) (u : Value), (knR l).flatten[j]? = some u → W.cell? ((⟨b, off, none⟩ : Addr).add j) = some u from fun W hb j u hj => by
   obtain ⟨h1, h2⟩ := hl.flatAt (knR_rows l) hj
   have e : (⟨b, off, none⟩ : Addr).add j = ⟨b, off + j, none⟩ := by unfold Addr.add; split <;> simp_all
   rw [e]
   exact (hb.cell (p := ⟨b, off + j, none⟩) h1).trans h2)
 have HL2 := Lib.hid (show (knR l).flatten.length = n * 5 by rw [flat_len _ (knR_rows l), knR_len, hlen])
 have hm := hl.max
 unfold maxLen at hm
 have HKR := Lib.hid (show (knR (l ++ [(⟨qf, qm, qo, qv⟩, h)])).flatten = (knR l ++ [knC (⟨qf, qm, qo, qv⟩, h)]).flatten by rw [knR_snoc])
 clear hl hlen
 obtain ⟨X, hX⟩ : ∃ X, X = w.alloc (.cells #[.int .i64 qf, .int .i64 qm, .int .i64 qo, .int .i64 qv, .bool h] 232) := ⟨_, rfl⟩
 have hbX : Below w.heap.size w X := by rw [hX]; go_grown
 have hzX : X.heap.size = w.heap.size + 1 := by rw [hX]; simp
 have BX : Blk X w.heap.size 232 #[.int .i64 qf, .int .i64 qm, .int .i64 qo, .int .i64 qv, .bool h] := by rw [hX]; exact Blk.new _ _ _
 have HX := Lib.hid hX; have HBX := Lib.hid BX; have HZX := Lib.hid hzX
 have hlX : w.heap.size < X.heap.size := by omega
 clear hX BX hzX
 go_enter Tryz.func128, Tryz.ntmps128
 go_wp2
 rw [← HX.out]
 have b0 := (show _ = some (Value.int .i64 qf) from HBX.out.cell 0); have b1 := (show _ = some (Value.int .i64 qm) from HBX.out.cell 1); have b2 := (show _ = some (Value.int .i64 qo) from HBX.out.cell 2); have b3 := (show _ = some (Value.int .i64 qv) from HBX.out.cell 3); have b4 := (show _ = some (Value.bool h) from HBX.out.cell 4)
 go_region_law (first
   | (refine step_ownK (w := (X.alloc (.cells #[] 232)).drew) rfl (.tmp 9) (.tmp 10) _ rfl X.heap.size 232 Tryz.underlying108 info_Kn rfl (by omega) (by omega) (.slice (some ⟨X.heap.size, 0, none⟩) 0 0) 0 [] rfl (own_empty (Blk.new X _ _).drew (Nat.le_refl _)) ⟨b, off, none⟩ n c (knR l).flatten rfl HL2.out (HX1.out _ (by go_grown)) (kn_one l) (by omega) (by simp) ?_; intro v2 W2 hown2 hg2; have hb2 : Below X.heap.size X W2 := ((Below.refl X.heap.size X).alloc (Nat.le_refl _) _).drew.grown hg2 (by simp) (fun k hk => by simp [Value.ownBlock] at hk; omega); have Y := HBX.out.below hb2 hlX; have y0 := (show _ = some (Value.int .i64 qf) from Y.cell 0); have y1 := (show _ = some (Value.int .i64 qm) from Y.cell 1); have y2 := (show _ = some (Value.int .i64 qo) from Y.cell 2); have y3 := (show _ = some (Value.int .i64 qv) from Y.cell 3); have y4 := (show _ = some (Value.bool h) from Y.cell 4); have HO2 := Lib.hid hown2; have hz2 := hb2.size; clear hown2 hg2 Y)
   | (refine step_app0g (w0 := W2) rfl (.tmp 11) (.tmp 13) _ rfl X.heap.size 232 Tryz.underlying108 info_Kn rfl (by omega) (by omega) v2 n (knR l) rfl (by have := HO2.out; simp only [Nat.zero_add, List.nil_append] at this; exact this) rfl (by simp [Value.oneCell']) rfl (by omega) (by omega) ?_; intro v3 W3 hown3 hg3 _)
   | (refine step_ownK (w := ((X.alloc (.cells #[] 232)).alloc (.cells #[.int .i64 qf, .int .i64 qm, .int .i64 qo, .int .i64 qv, .bool h] 232)).drew) rfl (.tmp 9) (.tmp 10) _ rfl X.heap.size 232 Tryz.underlying108 info_Kn rfl (by omega) (by omega) (.slice (some ⟨X.heap.size, 0, none⟩) 0 0) 0 [] rfl (own_empty (((Blk.new X _ _).alloc _).drew) (by omega)) ⟨b, off, none⟩ n c (knR l).flatten rfl HL2.out (HX1.out _ (by go_grown)) (kn_one l) (by omega) (by simp; omega) ?_; intro v2 W2 hown2 hg2; have hb2 : Below X.heap.size X W2 := (show Below X.heap.size X (((X.alloc (.cells #[] 232)).alloc (.cells #[.int .i64 qf, .int .i64 qm, .int .i64 qo, .int .i64 qv, .bool h] 232)).drew) by go_grown).grown hg2 (by simp; omega) (fun k hk => by simp [Value.ownBlock] at hk; omega); have Y : Blk W2 (X.heap.size + 1) 232 #[.int .i64 qf, .int .i64 qm, .int .i64 qo, .int .i64 qv, .bool h] := ((show Blk (((X.alloc (.cells #[] 232)).alloc (.cells #[.int .i64 qf, .int .i64 qm, .int .i64 qo, .int .i64 qv, .bool h] 232)).drew) (X.heap.size + 1) 232 #[.int .i64 qf, .int .i64 qm, .int .i64 qo, .int .i64 qv, .bool h] from by have := (Blk.new (X.alloc (.cells #[] 232)) 232 #[.int .i64 qf, .int .i64 qm, .int .i64 qo, .int .i64 qv, .bool h]).drew; simpa using this)).grown hg2 (by simp [Value.ownBlock]); have HY := Lib.hid Y; have HO2 := Lib.hid hown2; have hz2 := hb2.size; clear hown2 hg2 Y)
   | (refine step_ownK (w := ((X.alloc (.cells #[.int .i64 qf, .int .i64 qm, .int .i64 qo, .int .i64 qv, .bool h] 232)).alloc (.cells #[] 232)).drew) rfl (.tmp 9) (.tmp 10) _ rfl X.heap.size 232 Tryz.underlying108 info_Kn rfl (by omega) (by omega) (.slice (some ⟨X.heap.size + 1, 0, none⟩) 0 0) 0 [] rfl (own_empty (by have := (Blk.new (X.alloc (.cells #[.int .i64 qf, .int .i64 qm, .int .i64 qo, .int .i64 qv, .bool h] 232)) 232 #[]).drew; simpa using this) (by omega)) ⟨b, off, none⟩ n c (knR l).flatten rfl HL2.out (HX1.out _ (by go_grown)) (kn_one l) (by omega) (by simp; omega) ?_; intro v2 W2 hown2 hg2; have hb2 : Below X.heap.size X W2 := (show Below X.heap.size X (((X.alloc (.cells #[.int .i64 qf, .int .i64 qm, .int .i64 qo, .int .i64 qv, .bool h] 232)).alloc (.cells #[] 232)).drew) by go_grown).grown hg2 (by simp; omega) (fun k hk => by simp [Value.ownBlock] at hk; omega); have Y : Blk W2 (X.heap.size) 232 #[.int .i64 qf, .int .i64 qm, .int .i64 qo, .int .i64 qv, .bool h] := ((show Blk (((X.alloc (.cells #[.int .i64 qf, .int .i64 qm, .int .i64 qo, .int .i64 qv, .bool h] 232)).alloc (.cells #[] 232)).drew) X.heap.size 232 #[.int .i64 qf, .int .i64 qm, .int .i64 qo, .int .i64 qv, .bool h] from ((Blk.new X _ _).alloc _).drew)).grown hg2 (by simp [Value.ownBlock]); have HY := Lib.hid Y; have HO2 := Lib.hid hown2; have hz2 := hb2.size; clear hown2 hg2 Y)
   | (refine step_ownK (w := W2) rfl (.tmp 11) (.tmp 13) _ rfl X.heap.size 232 Tryz.underlying108 info_Kn rfl (by omega) (by omega) v2 n (knR l).flatten rfl (by have := HO2.out; simp only [Nat.zero_add, List.nil_append] at this; exact this) ⟨X.heap.size + 1, 0, none⟩ 1 1 (knC (⟨qf, qm, qo, qv⟩, h)) rfl rfl (fun j u hj => by have e : (⟨X.heap.size + 1, 0, none⟩ : Addr).add j = ⟨X.heap.size + 1, j, none⟩ := add_at _ _; rw [e, HY.out.cell j]; simpa [knC] using hj) (knC_one _) (by omega) (by omega) ?_; intro v3 W3 hown3 hg3)
   | (refine step_ownK (w := W2) rfl (.tmp 11) (.tmp 13) _ rfl X.heap.size 232 Tryz.underlying108 info_Kn rfl (by omega) (by omega) v2 n (knR l).flatten rfl (by have := HO2.out; simp only [Nat.zero_add, List.nil_append] at this; exact this) ⟨X.heap.size, 0, none⟩ 1 1 (knC (⟨qf, qm, qo, qv⟩, h)) rfl rfl (fun j u hj => by have e : (⟨X.heap.size, 0, none⟩ : Addr).add j = ⟨X.heap.size, j, none⟩ := add_at _ _; rw [e, HY.out.cell j]; simpa [knC] using hj) (knC_one _) (by omega) (by omega) ?_; intro v3 W3 hown3 hg3))
 all_goals
   have hb3 : Below X.heap.size X W3 := hb2.grown hg3 hz2 (fun k hk => (HO2.out.lt k hk).1)
   have hbw := hbX.trans (hb3.mono (by omega))
   have HO3 := Lib.hid hown3
   clear hown3 hg3
   go_wp2
   go_ret
   exact ⟨v3, rfl, own_base (by rw [HKR.out]; have := HO3.out; simp only [List.flatten_append, List.flatten_cons, List.flatten_nil, List.append_nil] at this ⊢; exact this) (by omega), hbw⟩
end Go.Proofs.YtdjgicapbpoigaaGreatDoor

namespace Go.Proofs.YtdjgicapbpoigaaGreatDoor
open Go.RowKit
set_option linter.unusedSimpArgs false
set_option linter.unusedVariables false

def NeverB (ts : List Ts) : Prop := ∃ t ∈ ts, t.op = 2 ∧ t.value = 0
def RlW (r : Rl) : Prop := (0 ≤ r.low ∧ r.low ≤ 4294967295) ∧ (0 ≤ r.high ∧ r.high ≤ 4294967295) ∧ r.tests.length ≤ 100 ∧ ∀ t ∈ r.tests, 0 ≤ t.value ∧ t.value ≤ 4294967295 ∧ (t.op = 1 ∨ t.op = 2 ∨ t.op = 3)
theorem testL_len (t : Ts) : (testL t).length ≤ 1 := by unfold testL; split <;> (try split) <;> simp
theorem rangeL_len (lo hi : Int) : (rangeL lo hi).length ≤ 2 := by unfold rangeL; split <;> (try split) <;> (try split) <;> simp
theorem flat_tests_len : ∀ (ts : List Ts), (ts.flatMap testL).length ≤ ts.length
 | [] => by simp
 | t :: ts => by have h1 := testL_len t; have h2 := flat_tests_len ts; simp only [List.flatMap_cons, List.length_append, List.length_cons]; omega

theorem own_gb {w w' : World} {base n : Nat} {e : TypeId} {size : Nat} {v : Value} {xs : List Value} (h : w.ownsRow base e size v n xs) (hg : w.grownBy w' v.ownBlock) (hb : base ≤ w.heap.size) : Below base w w' :=
 (Below.refl base w).grown hg hb (fun k hk => (h.lt k hk).1)
theorem looks_next {R : List (Lk × Bool)} {ts : List Ts} {k : Nat} {t : Ts} {z : Lk × Bool} (h : ts.take (k + 1) = ts.take k ++ [t]) (hz : testL t = [z]) : R ++ (ts.take (k + 1)).flatMap testL = (R ++ (ts.take k).flatMap testL) ++ [z] := by
 rw [h, List.flatMap_append]; simp [hz]
theorem never_next {ts : List Ts} {k : Nat} {t : Ts} (h : ts.take (k + 1) = ts.take k ++ [t]) (hn : ¬ NeverB (ts.take k)) (ht : ¬ (t.op = 2 ∧ t.value = 0)) : ¬ NeverB (ts.take (k + 1)) := by
 rintro ⟨x, hx, h1⟩
 rw [h] at hx
 rcases List.mem_append.1 hx with hx | hx
 · exact hn ⟨x, hx, h1⟩
 · rw [List.mem_singleton] at hx; subst hx; exact ht h1
def LooksPost (r : Rl) (w : World) (e : Ending) (w' : World) : Prop :=
 ∃ v' b, e = .returned (.tuple #[v', .bool b]) ∧ ((Never r ∧ b = false) ∨ (¬ Never r ∧ b = true ∧ w'.ownsRow w.heap.size 232 5 v' (looksOf r).length (knR (looksOf r)).flatten)) ∧ Below w.heap.size w w'
set_option maxHeartbeats 4000000 in
theorem l6Looks_any (r : Rl) (tv : Value) (w : World) (hT : Sl w 4 tv (tsR r.tests)) (hr : RlW r) :
   Calls Tryz.prog 126 #[.agg #[.int .i64 r.verdict, .int .i64 r.low, .int .i64 r.high, tv]] w (LooksPost r w) := by
 obtain ⟨vd, lo, hi, ts⟩ := r
 simp only at hT ⊢
 obtain ⟨⟨l0, l1⟩, ⟨h0, h1⟩, hl, hts⟩ := hr
 simp only at l0 l1 h0 h1 hl hts
 obtain ⟨A, n, c, rfl, hA⟩ := hT
 have hn : ts.length = n := by have := hA.len; rwa [tsR_len] at this
 have hc := hA.cap
 have hm := hA.max
 unfold maxLen at hm
 rw [hn] at hl
 have HL := Lib.hid hn; have HA := Lib.hid hA; have HT := Lib.hid hts
 clear hn hA hts
 have hb0 : Below w.heap.size w (w.alloc (.cells #[.int .i64 vd, .int .i64 lo, .int .i64 hi, .slice A n c] 58)) := by go_grown
 have B0 := Blk.new w 58 #[.int .i64 vd, .int .i64 lo, .int .i64 hi, .slice A n c]
 obtain ⟨X, hX⟩ : ∃ X, X = w.alloc (.cells #[.int .i64 vd, .int .i64 lo, .int .i64 hi, .slice A n c] 58) := ⟨_, rfl⟩
 have hzX : X.heap.size = w.heap.size + 1 := by rw [hX]; simp
 rw [← hX] at hb0 B0
 have hlX : w.heap.size < X.heap.size := by omega
 have b1 := (show _ = some (Value.int .i64 lo) from B0.cell 1); have b2 := (show _ = some (Value.int .i64 hi) from B0.cell 2)
 have HX := Lib.hid hX; have HB := Lib.hid B0; have HZ := Lib.hid hzX
 clear hX B0 hzX
 go_enter Tryz.func126, Tryz.ntmps126
 go_upto_if 13 with (fail)
 rw [← HX.out]
 go_cut [4] (fun s4 wx => Hid (wx.ownsRow X.heap.size 232 5 s4 (rangeL lo hi).length (knR (rangeL lo hi)).flatten) ∧ Below X.heap.size X wx)
 case first =>
   have hbE : Below X.heap.size X (X.alloc (.cells #[] 232)) := by go_grown
   have HE0 := Lib.hid (show (X.alloc (.cells #[] 232)).heap.size = X.heap.size + 1 by simp)
   have HOE := Lib.hid (show (X.alloc (.cells #[] 232)).ownsRow X.heap.size 232 5 (.slice (some ⟨w.heap.size + 1, 0, none⟩) 0 0) 0 [] from own_empty (by rw [← HZ.out]; exact Blk.new X _ _) (by rw [HZ.out]; exact Nat.le_refl _))
   by_cases h : lo = hi
   · have HR := Lib.hid (show rangeL lo hi = [(⟨0, 4294967295, 1, lo⟩, true)] by simp [rangeL, h])
     subst h
     go_wp2_with (at_builtin; go_must (refine wpList_app1g (w0 := X.alloc (.cells #[] 232)) rfl (.tmp 14) (.tmp 18) _ rfl X.heap.size 232 Tryz.underlying108 info_Kn rfl (by omega) (by omega) (.slice (some ⟨w.heap.size + 1, 0, none⟩) 0 0) 0 [] rfl HOE.out rfl (by simp [Value.oneCell']) (by rw [World.size_alloc]; rfl) (by omega) (by simp) ?_); intro v2 W2 hown hg _; have hbW2 : Below X.heap.size X W2 := (hbE).grown hg (by rw [HE0.out]; omega) (fun k hk => ((HOE.out).lt k hk).1); have HOW2 := Lib.hid hown; clear hown hg)
     go_meet
     exact ⟨Lib.hid (by rw [HR.out]; exact HOW2.out), hbW2⟩
   · by_cases h2 : 0 < lo
     · by_cases h3 : hi < 4294967295
       · have HR := Lib.hid (show rangeL lo hi = [(⟨0, 4294967295, 3, lo - 1⟩, true), (⟨0, 4294967295, 3, hi⟩, false)] by simp [rangeL, h, h2, h3])
         go_upto_region 6 with (at_builtin; go_must (refine wpList_app1g (w0 := X.alloc (.cells #[] 232)) rfl (.tmp 23) (.tmp 28) _ rfl X.heap.size 232 Tryz.underlying108 info_Kn rfl (by omega) (by omega) (.slice (some ⟨w.heap.size + 1, 0, none⟩) 0 0) 0 [] rfl HOE.out rfl (by simp [Value.oneCell']) (by rw [World.size_alloc]; rfl) (by omega) (by simp) ?_); intro v2 W2 hown hg _; have hbW2 : Below X.heap.size X W2 := (hbE).grown hg (by rw [HE0.out]; omega) (fun k hk => ((HOE.out).lt k hk).1); have Y := HB.out.below hbW2 hlX; have y1 := (show _ = some (Value.int .i64 lo) from Y.cell 1); have y2 := (show _ = some (Value.int .i64 hi) from Y.cell 2); have HOW2 := Lib.hid hown; clear hown hg Y)
         go_wp2_with (at_builtin; go_must (refine wpList_app1g (w0 := W2) rfl (.tmp 33) (.tmp 37) _ rfl X.heap.size 232 Tryz.underlying108 info_Kn rfl (by omega) (by omega) v2 1 [knC (⟨0, 4294967295, 3, lo - 1⟩, true)] rfl HOW2.out rfl (by simp [Value.oneCell']) rfl (by omega) (by exact hbW2.size) ?_); intro v3 W3 hown hg _; have hbW3 : Below X.heap.size X W3 := (hbW2).grown hg (by exact hbW2.size) (fun k hk => ((HOW2.out).lt k hk).1); have Y := HB.out.below hbW3 hlX; have y1 := (show _ = some (Value.int .i64 lo) from Y.cell 1); have y2 := (show _ = some (Value.int .i64 hi) from Y.cell 2); have HOW3 := Lib.hid hown; clear hown hg Y)
         go_meet
         exact ⟨Lib.hid (by rw [HR.out]; exact HOW3.out), hbW3⟩
       · have HR := Lib.hid (show rangeL lo hi = [(⟨0, 4294967295, 3, lo - 1⟩, true)] by simp [rangeL, h, h2, h3])
         go_wp2_with (at_builtin; go_must (refine wpList_app1g (w0 := X.alloc (.cells #[] 232)) rfl (.tmp 23) (.tmp 28) _ rfl X.heap.size 232 Tryz.underlying108 info_Kn rfl (by omega) (by omega) (.slice (some ⟨w.heap.size + 1, 0, none⟩) 0 0) 0 [] rfl HOE.out rfl (by simp [Value.oneCell']) (by rw [World.size_alloc]; rfl) (by omega) (by simp) ?_); intro v2 W2 hown hg _; have hbW2 : Below X.heap.size X W2 := (hbE).grown hg (by rw [HE0.out]; omega) (fun k hk => ((HOE.out).lt k hk).1); have Y := HB.out.below hbW2 hlX; have y1 := (show _ = some (Value.int .i64 lo) from Y.cell 1); have y2 := (show _ = some (Value.int .i64 hi) from Y.cell 2); have HOW2 := Lib.hid hown; clear hown hg Y)
         go_meet
         exact ⟨Lib.hid (by rw [HR.out]; exact HOW2.out), hbW2⟩
     · by_cases h3 : hi < 4294967295
       · have HR := Lib.hid (show rangeL lo hi = [(⟨0, 4294967295, 3, hi⟩, false)] by simp [rangeL, h, h2, h3])
         go_wp2_with (at_builtin; go_must (refine wpList_app1g (w0 := X.alloc (.cells #[] 232)) rfl (.tmp 33) (.tmp 37) _ rfl X.heap.size 232 Tryz.underlying108 info_Kn rfl (by omega) (by omega) (.slice (some ⟨w.heap.size + 1, 0, none⟩) 0 0) 0 [] rfl HOE.out rfl (by simp [Value.oneCell']) (by rw [World.size_alloc]; rfl) (by omega) (by simp) ?_); intro v2 W2 hown hg _; have hbW2 : Below X.heap.size X W2 := (hbE).grown hg (by rw [HE0.out]; omega) (fun k hk => ((HOE.out).lt k hk).1); have Y := HB.out.below hbW2 hlX; have y1 := (show _ = some (Value.int .i64 lo) from Y.cell 1); have y2 := (show _ = some (Value.int .i64 hi) from Y.cell 2); have HOW2 := Lib.hid hown; clear hown hg Y)
         go_meet
         exact ⟨Lib.hid (by rw [HR.out]; exact HOW2.out), hbW2⟩
       · have HR := Lib.hid (show rangeL lo hi = [] by simp [rangeL, h, h2, h3])
         go_wp2
         go_meet
         exact ⟨Lib.hid (by rw [HR.out]; exact HOE.out), hbE⟩
 case rest =>
   obtain ⟨HO, hbx⟩ := hcut
   clear b1 b2
   have HRL := Lib.hid (rangeL_len lo hi)
   go_wp2
   go_loopw [4, 5] (fun o i wr => ∃ (k : Nat) (v : Value), k ≤ n ∧ i = .int .i64 k ∧ o = v ∧ Hid (¬ NeverB (ts.take k)) ∧ Hid (wr.ownsRow X.heap.size 232 5 v (rangeL lo hi ++ (ts.take k).flatMap testL).length (knR (rangeL lo hi ++ (ts.take k).flatMap testL)).flatten) ∧ Below X.heap.size X wr) (fun _ i _ => n - (intOf i).toNat)
   case atStart => exact ⟨0, _, Nat.zero_le _, rfl, rfl, Lib.hid (fun h => by obtain ⟨t, ht, _⟩ := h; simp at ht), Lib.hid (by simpa using HO.out), hbx⟩
   case round =>
     clear HO hbx
     obtain ⟨k, v, hk, rfl, rfl, HNV, HO, hb⟩ := hrel
     have hsz := hb.size
     have hz0 : w.heap.size < wr.heap.size := by omega
     have hbw := hb0.trans (hb.mono (Nat.le_of_lt hlX))
     have B1 := HB.out.below hb hlX
     have b3 := (show _ = some (Value.slice A n c) from B1.cell 3)
     clear B1
     by_cases hlt : k < n
     · obtain ⟨b, off, ⟨tf, tm, tO, tvv⟩, rfl, hab, hgp, hcell⟩ := ts_get HA.out hlt
       obtain ⟨c0, c1, c2, c3⟩ := hcell wr _ hbw hab
       simp only at c0 c1 c2 c3
       obtain ⟨tv0, tv1, htop⟩ := HT.out _ (List.mem_of_getElem? hgp)
       simp only at tv0 tv1 htop
       have HTK := Lib.hid (take_next hgp)
       have HLN := Lib.hid (show (rangeL lo hi ++ (ts.take k).flatMap testL).length ≤ 200 by have h1 := flat_tests_len (ts.take k); have h2 := HRL.out; rw [List.length_append]; have h3 : (ts.take k).length ≤ k := List.length_take_le _ _; omega)
       have hln := HLN.out
       clear hcell hgp
       by_cases h2 : tO = 2
       · subst h2
         by_cases h0 : tvv = 0
         · subst h0
           have HNE := Lib.hid (show NeverB ts from ⟨⟨tf, tm, 2, 0⟩, by rw [← List.take_append_drop (k + 1) ts, HTK.out]; simp, rfl, rfl⟩)
           go_wp2
           all_goals
             go_ret2
             exact ⟨_, false, rfl, .inl ⟨HNE.out, rfl⟩, hbw.trans (by go_grown)⟩
         · have HNX := Lib.hid (show testL ⟨tf, tm, 2, tvv⟩ = [(⟨tf, tm, 3, tvv - 1⟩, false)] by simp [testL, h0])
           have HNW := Lib.hid (never_next HTK.out HNV.out (fun h => h0 h.2))
           have HLK := Lib.hid (looks_next (R := rangeL lo hi) HTK.out HNX.out)
           go_wp2_with (at_builtin; go_must (refine wpList_app1g rfl (.tmp 73) (.tmp 75) _ rfl X.heap.size 232 Tryz.underlying108 info_Kn rfl (by omega) (by omega) _ _ (knR (rangeL lo hi ++ (ts.take k).flatMap testL)) rfl (own_below HO.out (by go_grown)) rfl (by simp [Value.oneCell']) (by simp only [World.size_alloc]; rfl) (by omega) (by simp; omega) ?_); intro v2 W2 hown hg _; have hbb := own_gb (own_below HO.out (by go_grown)) hg (by simp; omega); have HO2 := Lib.hid hown; clear hown hg)
           exact ⟨⟨k + 1, v2, by omega, by go_num, rfl, HNW, Lib.hid (by rw [HLK.out, knR_snoc, List.length_append]; exact HO2.out), hb.trans ((show Below X.heap.size wr _ by go_grown).trans hbb)⟩, by simp [intOf]; omega⟩
       · have HNX := Lib.hid (show testL ⟨tf, tm, tO, tvv⟩ = [(⟨tf, tm, tO, tvv⟩, true)] by simp [testL, h2])
         have HNW := Lib.hid (never_next HTK.out HNV.out (fun h => h2 h.1))
         have HLK := Lib.hid (looks_next (R := rangeL lo hi) HTK.out HNX.out)
         go_wp2_with (at_builtin; go_must (refine wpList_app1g rfl (.tmp 73) (.tmp 75) _ rfl X.heap.size 232 Tryz.underlying108 info_Kn rfl (by omega) (by omega) _ _ (knR (rangeL lo hi ++ (ts.take k).flatMap testL)) rfl (own_below HO.out (by go_grown)) rfl (by simp [Value.oneCell']) (by simp only [World.size_alloc]; rfl) (by omega) (by simp; omega) ?_); intro v2 W2 hown hg _; have hbb := own_gb (own_below HO.out (by go_grown)) hg (by simp; omega); have HO2 := Lib.hid hown; clear hown hg)
         exact ⟨⟨k + 1, v2, by omega, by go_num, rfl, HNW, Lib.hid (by rw [HLK.out, knR_snoc, List.length_append]; exact HO2.out), hb.trans ((show Below X.heap.size wr _ by go_grown).trans hbb)⟩, by simp [intOf]; omega⟩
     · obtain rfl : k = n := by omega
       have HE := Lib.hid (show ¬ Never ⟨vd, lo, hi, ts⟩ ∧ wr.ownsRow w.heap.size 232 5 _ (looksOf ⟨vd, lo, hi, ts⟩).length (knR (looksOf ⟨vd, lo, hi, ts⟩)).flatten from ⟨by have := HNV.out; rw [List.take_of_length_le (by rw [HL.out]; omega)] at this; exact this, by have := HO.out; rw [List.take_of_length_le (by rw [HL.out]; omega)] at this; exact own_base this (Nat.le_of_lt hlX)⟩)
       clear HNV HO
       go_wp2
       all_goals
         go_ret2
         exact ⟨_, true, rfl, .inr ⟨HE.out.1, rfl, HE.out.2⟩, hbw⟩
end Go.Proofs.YtdjgicapbpoigaaGreatDoor

namespace Go.Proofs.YtdjgicapbpoigaaGreatDoor
open Go.RowKit
set_option linter.unusedSimpArgs false
set_option linter.unusedVariables false

def LsN (cg : Nat) (w : World) (lv : Value) (l : List (Lk × Bool)) : Prop := ∃ b off n c, lv = .slice (some ⟨b, off, none⟩) n c ∧ SlA w 5 (some ⟨b, off, none⟩) n c (knR l) ∧ b ≠ cg
theorem LsN.grown {cg : Nat} {w w' : World} {lv : Value} {l : List (Lk × Bool)} (h : LsN cg w lv l) (hg : w.grownBy w' (some cg)) : LsN cg w' lv l := by
 obtain ⟨b, off, n, c, e, hs, hb⟩ := h
 exact ⟨b, off, n, c, e, hs.grown hg (fun b' off' e' => by cases e'; exact hb), hb⟩
theorem LsN.sl {cg : Nat} {w : World} {lv : Value} {l : List (Lk × Bool)} (h : LsN cg w lv l) : Sl w 5 lv (knR l) := by
 obtain ⟨b, off, n, c, e, hs, hb⟩ := h
 exact ⟨_, _, _, e, hs⟩
theorem LsN.of_own {cg base n : Nat} {w : World} {v : Value} {l : List (Lk × Bool)} (h : w.ownsRow base 232 5 v (n + 1) (knR l).flatten) (hl : l.length = n + 1) (hc : cg < base) : LsN cg w v l := by
 obtain ⟨A, n', c, e1, hA⟩ := SlA.of_own h ((knR_len l).trans hl) (knR_rows l)
 have hn : 0 < n' := by have := hA.len; rw [knR_len] at this; omega
 obtain ⟨b, off, e2, hb, _⟩ := hA.at_ hn
 subst e1 e2
 refine ⟨b, off, n', c, rfl, hA, fun e => ?_⟩
 subst e
 have := (h.lt b rfl).1
 omega
theorem rulesN_get {cg : Nat} {w : World} {rs : List Rl} {css : List (List Value)} {rv : Value} (hs : SlN cg w 4 rv css) (hr : RulesN cg w rs css) {a : Nat} {r : Rl} (ha : rs[a]? = some r) :
   ∃ b off n c A2 n2 c2, rv = .slice (some ⟨b, off, none⟩) n c ∧ n = rs.length ∧ n ≤ c ∧ c ≤ 9223372036854775807 ∧ b < w.heap.size ∧ b ≠ cg ∧ SlN cg w 4 (.slice A2 n2 c2) (tsR r.tests) ∧
     w.cell? ⟨b, off + a * 4, none⟩ = some (.int .i64 r.verdict) ∧ w.cell? ⟨b, off + a * 4 + 1, none⟩ = some (.int .i64 r.low) ∧ w.cell? ⟨b, off + a * 4 + 2, none⟩ = some (.int .i64 r.high) ∧ w.cell? ⟨b, off + a * 4 + 3, none⟩ = some (.slice A2 n2 c2) := by
 obtain ⟨A, n, c, rfl, hA, hn⟩ := hs
 have hl := (List.getElem?_eq_some_iff.1 ha).1
 have hcs := hr.1
 have hln := hA.len
 obtain ⟨b, off, rfl, hb, hel⟩ := hA.at_ (by omega)
 have hc : css[a]? = some (css[a]'(by omega)) := List.getElem?_eq_getElem (by omega)
 obtain ⟨tv, e, ht⟩ := hr.2 a r _ ha hc
 obtain ⟨A2, n2, c2, rfl, hA2⟩ := id ht
 rw [e] at hc
 exact ⟨b, off, n, c, A2, n2, c2, rfl, by omega, hA.cap, hA.max, hb, hn (by omega) b off rfl, ht, hel a _ hc 0 _ rfl, hel a _ hc 1 _ rfl, hel a _ hc 2 _ rfl, hel a _ hc 3 _ rfl⟩
def RsN (cg : Nat) (w : World) (rv : Value) (rs : List Rl) : Prop := ∃ css, SlN cg w 4 rv css ∧ RulesN cg w rs css
theorem RsN.grown {cg : Nat} {w w' : World} {rv : Value} {rs : List Rl} (h : RsN cg w rv rs) (hg : w.grownBy w' (some cg)) : RsN cg w' rv rs := by
 obtain ⟨css, h1, h2⟩ := h
 exact ⟨css, h1.grown hg, h2.grown hg⟩
theorem RsN.form {cg : Nat} {w : World} {rv : Value} {rs : List Rl} (h : RsN cg w rv rs) : ∃ A n c, rv = .slice A n c ∧ n = rs.length ∧ n ≤ c ∧ c ≤ 9223372036854775807 := by
 obtain ⟨css, ⟨A, n, c, e, hA, _⟩, h2⟩ := h
 exact ⟨A, n, c, e, by have := hA.len; have := h2.1; omega, hA.cap, hA.max⟩
def ChkPost (cg : Nat) (cv rv : Value) (last : Int) (R : Nat → Bool → Prop) (w : World) (e : Ending) (w' : World) : Prop :=
 e = .returned (.tuple #[]) ∧ ∃ s' b, R s' b ∧ Blk w' cg 68 #[cv, rv, .int .i64 last, .int .i64 ((s' : Nat) : Int), .bool b] ∧ w.grownBy w' (some cg)

section
variable (cg : Nat) (cv rv : Value) (last : Int) (rs : List Rl)
set_option maxHeartbeats 1000000 in
theorem sRule_off (s a k : Nat) (v : Int) (lv : Value) (ok : Bool) (w : World) (h : Blk w cg 68 #[cv, rv, .int .i64 last, .int .i64 (s : Int), .bool ok]) (hs : s ≤ 20000) (ho : 6000 ≤ s ∨ ok = false) :
   Calls Tryz.prog 92 #[.pointer (some ⟨cg, 0, none⟩), .int .i64 (a : Int), .int .i64 (k : Int), .int .i64 v, lv] w (ChkPost cg cv rv last (fun s' b => s' = s + 1 ∧ b = false) w) := by
 have H := Lib.hid h; have HO := Lib.hid ho; clear h ho
 go_enter Tryz.func92, Tryz.ntmps92
 go_wp2_with fail
 refine (sStep_off cg cv rv last s ok _ H.out hs HO.out).mono ?_; rintro e w1 ⟨rfl, hb, hg⟩
 have HB := Lib.hid hb; clear hb
 go_wp2
 go_end0
 exact ⟨rfl, s + 1, false, ⟨rfl, rfl⟩, HB.out, hg⟩

theorem sPart_of (a k : Nat) (v : Int) (lv : Value) (fits : Bool) (w : World) (Q : Ending → World → Prop) (ha : a ≤ 100000) (hk : k ≤ 100000) (hQ : ∀ e w', Q e w' → e = .returned (.tuple #[]))
   (h : Calls Tryz.prog 92 #[.pointer (some ⟨cg, 0, none⟩), .int .i64 ((if fits then a else a + 1 : Nat) : Int), .int .i64 ((if fits then k + 1 else 0 : Nat) : Int), .int .i64 v, lv] w Q) :
   Calls Tryz.prog 129 #[.pointer (some ⟨cg, 0, none⟩), .int .i64 (a : Int), .int .i64 (k : Int), .int .i64 v, lv, .bool fits] w Q := by
 have HQ := Lib.hid hQ
 have H := Lib.hid h
 clear h hQ
 cases fits
 · simp only [if_neg (show ¬ (false = true) by simp)] at H
   rw [Int.natCast_add] at H
   go_enter Tryz.func129, Tryz.ntmps129
   go_wp2_with fail
   refine H.out.mono ?_; intro e w1 hq
   obtain rfl := HQ.out _ _ hq
   have H1 := Lib.hid hq; clear hq
   go_wp2
   go_end0
   exact H1.out
 · simp only [if_pos trivial] at H
   rw [Int.natCast_add] at H
   go_enter Tryz.func129, Tryz.ntmps129
   go_wp2_with fail
   refine H.out.mono ?_; intro e w1 hq
   obtain rfl := HQ.out _ _ hq
   have H1 := Lib.hid hq; clear hq
   go_wp2
   go_end0
   exact H1.out
end
end Go.Proofs.YtdjgicapbpoigaaGreatDoor

namespace Go.Proofs.YtdjgicapbpoigaaGreatDoor
open Go.RowKit
set_option linter.unusedSimpArgs false
set_option linter.unusedVariables false

theorem looksOf_len {r : Rl} (h : RlW r) : (looksOf r).length ≤ 200 := by
 have h1 := rangeL_len r.low r.high
 have h2 := flat_tests_len r.tests
 have h3 := h.2.2.1
 unfold looksOf
 rw [List.length_append]
 omega
theorem looksOf_word {r : Rl} (h : RlW r) : ∀ x ∈ looksOf r, (0 ≤ x.1.value ∧ x.1.value ≤ 4294967295) ∧ (¬ Never r → x.1.op = 1 ∨ x.1.op = 3) := by
 obtain ⟨⟨l0, l1⟩, ⟨h0, h1⟩, hl, ht⟩ := h
 intro x hx
 unfold looksOf at hx
 rcases List.mem_append.1 hx with hx | hx
 · unfold rangeL at hx
   split at hx
   · rw [List.mem_singleton] at hx; subst hx; exact ⟨⟨l0, l1⟩, fun _ => .inl rfl⟩
   · rcases List.mem_append.1 hx with hx | hx
     · split at hx
       · rw [List.mem_singleton] at hx; subst hx; exact ⟨⟨by show 0 ≤ r.low - 1; omega, by show r.low - 1 ≤ _; omega⟩, fun _ => .inr rfl⟩
       · cases hx
     · split at hx
       · rw [List.mem_singleton] at hx; subst hx; exact ⟨⟨h0, h1⟩, fun _ => .inr rfl⟩
       · cases hx
 · obtain ⟨t, hm, hx⟩ := List.mem_flatMap.1 hx
   obtain ⟨t0, t1, t2⟩ := ht t hm
   unfold testL at hx
   split at hx
   · split at hx
     · cases hx
     · rw [List.mem_singleton] at hx; subst hx; exact ⟨⟨by show 0 ≤ t.value - 1; omega, by show t.value - 1 ≤ _; omega⟩, fun _ => .inr rfl⟩
   · rw [List.mem_singleton] at hx; subst hx; exact ⟨⟨t0, t1⟩, fun _ => by show t.op = 1 ∨ t.op = 3; omega⟩

theorem nextA_true (a : Nat) (m : Bool) : nextA a true m = if m then a else a + 1 := by cases m <;> rfl
theorem nextK_true (k : Nat) (m : Bool) : nextK k true m = if m then k + 1 else 0 := by cases m <;> rfl
theorem nextA_false (a : Nat) (m : Bool) : nextA a false m = if !m then a else a + 1 := by cases m <;> rfl
theorem nextK_false (k : Nat) (m : Bool) : nextK k false m = if !m then k + 1 else 0 := by cases m <;> rfl
section
variable (cg : Nat) (cv : Value) (last : Int) (rs : List Rl)
set_option maxRecDepth 100000 in
set_option maxHeartbeats 8000000 in
theorem sRule_any (rv : Value) (hrw : ∀ r ∈ rs, RlW r) (hrl : rs.length ≤ 1000) : ∀ (n s a k : Nat) (v : Int) (l : List (Lk × Bool)) (lv : Value) (w : World), 6000 ≤ s + n → s ≤ 6000 → a ≤ rs.length → k ≤ 200 →
   Blk w cg 68 #[cv, rv, .int .i64 last, .int .i64 (s : Int), .bool true] → RsN cg w rv rs → LsN cg w lv l → KnW l → l.length ≤ s →
   Calls Tryz.prog 92 #[.pointer (some ⟨cg, 0, none⟩), .int .i64 (a : Int), .int .i64 (k : Int), .int .i64 v, lv] w (ChkPost cg cv rv last (fun s' b => RuleRun rs last a k v l s s' b) w) := by
 intro n
 induction n with
 | zero =>
   intro s a k v l lv w hn hs ha hk hC hR hL hK hl
   exact (sRule_off cg cv rv last s a k v lv true w hC (by omega) (.inl (by omega))).mono fun e w' ⟨h1, s', b, ⟨h2, h3⟩, h4, h5⟩ => ⟨h1, s', b, by rw [h2, h3]; exact .over (by omega), h4, h5⟩
 | succ n ih =>
   intro s a k v l lv w hn hs ha hk hC hR hL hK hl
   by_cases hs6 : 6000 ≤ s
   · exact (sRule_off cg cv rv last s a k v lv true w hC (by omega) (.inl hs6)).mono fun e w' ⟨h1, s', b, ⟨h2, h3⟩, h4, h5⟩ => ⟨h1, s', b, by rw [h2, h3]; exact .over hs6, h4, h5⟩
   have hs7 : s < 6000 := by omega
   have HI := Lib.hid ih
   have HC := Lib.hid hC; have HR := Lib.hid hR; have HL := Lib.hid hL; have HK := Lib.hid hK
   have HRW := Lib.hid hrw
   clear ih hC hR hL hK hs6 hrw
   obtain ⟨A, nr, cr, rfl, hnr, hcr, hcm⟩ := HR.out.form
   have HNR := Lib.hid hnr; clear hnr
   go_enter Tryz.func92, Tryz.ntmps92
   go_wp2_with fail
   refine (sStep_on cg cv _ last s _ HC.out hs7).mono ?_; rintro e w1 ⟨rfl, hb1, hg1⟩
   have e1 := (show _ = some (Value.slice A nr cr) from hb1.cell 1); have e4 := (show _ = some (Value.bool true) from hb1.cell 4); have e2 := (show _ = some (Value.int .i64 last) from hb1.cell 2); have f4 := hb1.frozen 4
   have HB1 := Lib.hid hb1; have HG1 := Lib.hid hg1
   have hcg := hb1.lt
   clear hb1 hg1
   by_cases hal : a < nr
   · obtain ⟨r, hr⟩ : ∃ r, rs[a]? = some r := ⟨_, List.getElem?_eq_getElem (by rw [← HNR.out]; exact hal)⟩
     have hrm := List.mem_of_getElem? hr
     have hrw := HRW.out r hrm
     have HLK := Lib.hid (looksOf_word hrw)
     have HLL := Lib.hid (looksOf_len hrw)
     obtain ⟨css, hs1, hr1⟩ := HR.out.grown HG1.out
     obtain ⟨rb, roff, n', c', A2, n2, c2, e, -, -, -, hbl, hbn, ht2, r0, r1, r2, r3⟩ := rulesN_get hs1 hr1 hr
     obtain ⟨rfl, rfl, rfl⟩ : A = some ⟨rb, roff, none⟩ ∧ nr = n' ∧ cr = c' := by simpa using e
     have HT2 := Lib.hid ht2.sl; have HRR := Lib.hid hr; have HRWr := Lib.hid hrw
     clear hs1 hr1 e ht2 hr hrm hrw
     go_wp2_with fail
     refine (l6Looks_any r _ _ HT2.out HRWr.out).mono ?_; rintro e w2 ⟨v2, bb, rfl, hor, hb2⟩
     have HOR := Lib.hid hor; clear hor
     have hz12 := hb2.size
     have hcg2 : cg < w2.heap.size := by omega
     have hB2 := HB1.out.below hb2 hcg
     have g1 := (show _ = some (Value.slice (some ⟨rb, roff, none⟩) nr cr) from hB2.cell 1); have g4 := (show _ = some (Value.bool true) from hB2.cell 4); have gf4 := hB2.frozen 4
     have s0 := (hb2.cell (p := ⟨rb, roff + a * 4, none⟩) hbl).trans r0
     have HB2 := Lib.hid hB2; have HG2 := Lib.hid (HG1.out.trans (grown_of_below hb2 _))
     clear hB2 r0 r1 r2 r3 e1 e2 e4 f4 HB1
     have HR2 := Lib.hid (HR.out.grown HG2.out); have HL2 := Lib.hid (HL.out.grown HG2.out)
     by_cases hnv : Never r
     · obtain ⟨rfl⟩ : bb = false := by rcases HOR.out with ⟨_, h⟩ | ⟨h, _⟩; exact h; exact absurd hnv h
       have HNV := Lib.hid hnv
       have h9 : Calls Tryz.prog 92 #[.pointer (some ⟨cg, 0, none⟩), .int .i64 ((a : Int) + 1), .int .i64 0, .int .i64 v, lv] w2 (ChkPost cg cv _ last (fun s' b => RuleRun rs last (a + 1) 0 v l (s + 1) s' b) w2) := HI.out (s + 1) (a + 1) 0 v l lv w2 (by omega) (by omega) (by have := HNR.out; omega) (by omega) HB2.out HR2.out HL2.out HK.out (by omega)
       have H9 := Lib.hid h9
       clear hnv h9 HOR
       go_wp2_with fail
       refine H9.out.mono ?_; rintro e w3 ⟨rfl, s', b', hrun, hb3, hg3⟩
       have HF := Lib.hid (show ChkPost cg cv (.slice (some ⟨rb, roff, none⟩) nr cr) last (fun s' b => RuleRun rs last a k v l s s' b) w (.returned (.tuple #[])) w3 from ⟨rfl, s', b', .never hs7 HRR.out HNV.out hrun, hb3, HG2.out.trans hg3⟩)
       clear hrun hb3 hg3
       go_wp2
       go_end0
       exact HF.out
     · obtain ⟨hbt, ho⟩ : bb = true ∧ w2.ownsRow w1.heap.size 232 5 v2 (looksOf r).length (knR (looksOf r)).flatten := by rcases HOR.out with ⟨h, _⟩ | ⟨_, h1, h2⟩; exact absurd h hnv; exact ⟨h1, h2⟩
       subst hbt
       have HNV := Lib.hid hnv
       obtain ⟨A3, n3, c3, rfl, hA3⟩ := SlA.of_own ho (knR_len _) (knR_rows _)
       have hn3 : (looksOf r).length = n3 := by have := hA3.len; rwa [knR_len] at this
       have hc3 := hA3.cap
       have hm3 := hA3.max
       unfold maxLen at hm3
       have HN3 := Lib.hid hn3
       have hn3' : n3 ≤ 200 := by rw [← hn3]; exact HLL.out
       clear hnv HOR ho hn3
       by_cases hkl : k < n3
       · obtain ⟨xb, xo, ⟨⟨qf, qm, qo, qv⟩, m⟩, rfl, hxb, hq, hxc⟩ := kn_get (cg := 0) hA3 hkl
         obtain ⟨x0, x1, x2, x3, x4⟩ := hxc w2 _ (Below.refl _ _) hxb
         simp only at x0 x1 x2 x3 x4
         obtain ⟨hqw, hqo⟩ := HLK.out _ (List.mem_of_getElem? hq)
         simp only at hqw hqo
         have HQO := Lib.hid (hqo HNV.out); have HQ := Lib.hid hq; have HQW := Lib.hid hqw
         have hbX : Below w2.heap.size w2 (w2.alloc (.cells #[.int .i64 qf, .int .i64 qm, .int .i64 qo, .int .i64 qv, .bool m] 232)) := by go_grown
         have HX := Lib.hid (Blk.new w2 232 #[.int .i64 qf, .int .i64 qm, .int .i64 qo, .int .i64 qv, .bool m])
         clear hA3 hxc hq hqo hqw s0
         go_wp2_with fail
         refine (l6Tell_any lv l ⟨qf, qm, qo, qv⟩ m _ (HL2.out.sl.below hbX) HK.out HQO.out).mono ?_; rintro e w3 ⟨rfl, hb3⟩
         have hb23 := below_then hbX hb3
         have hz23 : w2.heap.size < w3.heap.size := by have := hb3.size; simp at this; omega
         have hX3 := HX.out.below hb3 (by simp)
         have y0 := (show _ = some (Value.int .i64 qf) from hX3.cell 0); have y1 := (show _ = some (Value.int .i64 qm) from hX3.cell 1); have y2 := (show _ = some (Value.int .i64 qo) from hX3.cell 2); have y3 := (show _ = some (Value.int .i64 qv) from hX3.cell 3); have y4 := (show _ = some (Value.bool m) from hX3.cell 4)
         have HX3 := Lib.hid hX3
         have HG23 := Lib.hid (grown_of_below hb23 (some cg))
         have HB3 := Lib.hid (HB2.out.below hb23 hcg2); have HR3 := Lib.hid (HR2.out.grown HG23.out); have HL3 := Lib.hid (HL2.out.grown HG23.out); have HG3 := Lib.hid (HG2.out.trans HG23.out)
         clear hX3 hb3 x0 x1 x2 x3 x4 hbX g1 g4 gf4
         have hal' : a < rs.length := by rw [← HNR.out]; exact hal
         have hkl' : k < 200 := by omega
         cases htell : tellO l ⟨qf, qm, qo, qv⟩ with
         | some h =>
           cases h
           · have HTL := Lib.hid htell
             have HTI := Lib.hid (show tellI l ⟨qf, qm, qo, qv⟩ = 0 by simp [tellI, htell])
             clear htell
             rw [HTI.out]
             have h9 := sPart_of cg a k v lv (!m) w3 _ (by omega) (by omega) (fun e w' h => h.1) (HI.out (s + 1) (if !m then a else a + 1) (if !m then k + 1 else 0) v l lv w3 (by omega) (by omega) (by split <;> omega) (by split <;> omega) HB3.out HR3.out HL3.out HK.out (by omega))
             have H9 := Lib.hid h9
             clear h9
             go_wp2_with fail
             refine H9.out.mono ?_; rintro e w4 ⟨rfl, s', b', hrun, hb4, hg4⟩
             rw [← nextA_false, ← nextK_false] at hrun
             have HF := Lib.hid (show ChkPost cg cv (.slice (some ⟨rb, roff, none⟩) nr cr) last (fun s' b => RuleRun rs last a k v l s s' b) w (.returned (.tuple #[])) w4 from ⟨rfl, s', b', .told hs7 HRR.out HNV.out HQ.out HTL.out hrun, hb4, HG3.out.trans hg4⟩)
             clear hrun hb4 hg4
             go_wp2
             go_end0
             exact HF.out
           · have HTL := Lib.hid htell
             have HTI := Lib.hid (show tellI l ⟨qf, qm, qo, qv⟩ = 1 by simp [tellI, htell])
             clear htell
             rw [HTI.out]
             have h9 := sPart_of cg a k v lv m w3 _ (by omega) (by omega) (fun e w' h => h.1) (HI.out (s + 1) (if m then a else a + 1) (if m then k + 1 else 0) v l lv w3 (by omega) (by omega) (by split <;> omega) (by split <;> omega) HB3.out HR3.out HL3.out HK.out (by omega))
             have H9 := Lib.hid h9
             clear h9
             go_wp2_with fail
             refine H9.out.mono ?_; rintro e w4 ⟨rfl, s', b', hrun, hb4, hg4⟩
             rw [← nextA_true, ← nextK_true] at hrun
             have HF := Lib.hid (show ChkPost cg cv (.slice (some ⟨rb, roff, none⟩) nr cr) last (fun s' b => RuleRun rs last a k v l s s' b) w (.returned (.tuple #[])) w4 from ⟨rfl, s', b', .told hs7 HRR.out HNV.out HQ.out HTL.out hrun, hb4, HG3.out.trans hg4⟩)
             clear hrun hb4 hg4
             go_wp2
             go_end0
             exact HF.out
         | none =>
           have HTL := Lib.hid htell
           have HTI := Lib.hid (show tellI l ⟨qf, qm, qo, qv⟩ = -1 by simp [tellI, htell])
           clear htell
           rw [HTI.out]
           obtain ⟨lb, loff, ln, lc, rfl, hla, hlb⟩ := HL3.out
           have hll : l.length = ln := by have := hla.len; rwa [knR_len] at this
           have HLA := Lib.hid hla
           have hln : ln ≤ 100000 := by omega
           have HLLn := Lib.hid hll
           clear hla hll
           go_wp2_with fail
           refine (l6With_any lb loff ln lc l ⟨qf, qm, qo, qv⟩ m true _ HLA.out hln).mono ?_; rintro e w4 ⟨v4, rfl, ho4, hb4⟩
           have hz34 := hb4.size
           have HG34 := Lib.hid (grown_of_below hb4 (some cg))
           have hL4 := LsN.of_own (cg := cg) ho4 (by rw [List.length_append, HLLn.out]; rfl) (by omega)
           have hX4 := HX3.out.below hb4 hz23
           have y0 := (show _ = some (Value.int .i64 qf) from hX4.cell 0); have y1 := (show _ = some (Value.int .i64 qm) from hX4.cell 1); have y2 := (show _ = some (Value.int .i64 qo) from hX4.cell 2); have y3 := (show _ = some (Value.int .i64 qv) from hX4.cell 3); have y4 := (show _ = some (Value.bool m) from hX4.cell 4)
           have h9 := sPart_of cg a k v v4 m w4 _ (by omega) (by omega) (fun e w' h => h.1) (HI.out (s + 1) (if m then a else a + 1) (if m then k + 1 else 0) v (l ++ [(⟨qf, qm, qo, qv⟩, true)]) v4 w4 (by omega) (by omega) (by split <;> omega) (by split <;> omega) (HB3.out.same hb4) (HR3.out.grown HG34.out) hL4 (HK.out.snoc HQW.out) (by rw [List.length_append]; simp; omega))
           have H9 := Lib.hid h9
           have HX4 := Lib.hid hX4
           have hcg4 : cg < w4.heap.size := by omega
           have HB4 := Lib.hid (HB3.out.same hb4)
           clear h9 ho4 hb4 hL4 hX4
           go_wp2_with fail
           refine H9.out.mono ?_; rintro e w5 ⟨rfl, s1, b1, hrun1, hb5, hg5⟩
           have hz45 := hg5.size
           have HG45 := Lib.hid hg5
           have hX5 := HX4.out.grown hg5 (by simp; omega)
           have y0 := (show _ = some (Value.int .i64 qf) from hX5.cell 0); have y1 := (show _ = some (Value.int .i64 qm) from hX5.cell 1); have y2 := (show _ = some (Value.int .i64 qo) from hX5.cell 2); have y3 := (show _ = some (Value.int .i64 qv) from hX5.cell 3); have y4 := (show _ = some (Value.bool m) from hX5.cell 4)
           have HX5 := Lib.hid hX5; have HB5 := Lib.hid hb5; have HRUN1 := Lib.hid hrun1
           have HLA5 := Lib.hid ((HLA.out.grown HG34.out (fun b' off' e' => by cases e'; exact hlb)).grown HG45.out (fun b' off' e' => by cases e'; exact hlb))
           clear hX5 hb5 hrun1 hg5
           go_wp2_with fail
           refine (l6With_any lb loff ln lc l ⟨qf, qm, qo, qv⟩ m false _ HLA5.out hln).mono ?_; rintro e w6 ⟨v6, rfl, ho6, hb6⟩
           have HG56 := Lib.hid (grown_of_below hb6 (some cg))
           have hL6 := LsN.of_own (cg := cg) ho6 (by rw [List.length_append, HLLn.out]; rfl) (by omega)
           have hX6 := HX5.out.same hb6
           have y0 := (show _ = some (Value.int .i64 qf) from hX6.cell 0); have y1 := (show _ = some (Value.int .i64 qm) from hX6.cell 1); have y2 := (show _ = some (Value.int .i64 qo) from hX6.cell 2); have y3 := (show _ = some (Value.int .i64 qv) from hX6.cell 3); have y4 := (show _ = some (Value.bool m) from hX6.cell 4)
           have hB6 := HB5.out.same hb6
           have hbd := HRUN1.out.bound (by omega)
           have HGA := Lib.hid ((HG3.out.trans HG34.out).trans (HG45.out.trans HG56.out))
           rw [← nextA_true, ← nextK_true] at HRUN1
           cases b1
           · have h9 := sPart_of cg a k v v6 (!m) w6 _ (by omega) (by omega) (fun e w' h => h.1) (sRule_off cg cv (.slice (some ⟨rb, roff, none⟩) nr cr) last s1 (if !m then a else a + 1) (if !m then k + 1 else 0) v v6 false w6 hB6 (by omega) (.inr rfl))
             have H9 := Lib.hid h9
             clear h9 ho6 hb6 hL6 hX6 hB6 hbd
             go_wp2_with fail
             refine H9.out.mono ?_; rintro e w7 ⟨rfl, s', b', ⟨rfl, rfl⟩, hb7, hg7⟩
             have HF := Lib.hid (show ChkPost cg cv (.slice (some ⟨rb, roff, none⟩) nr cr) last (fun s' b => RuleRun rs last a k v l s s' b) w (.returned (.tuple #[])) w7 from ⟨rfl, s1 + 1, false, .stop hs7 HRR.out HNV.out HQ.out HTL.out HRUN1.out, hb7, HGA.out.trans hg7⟩)
             clear hb7 hg7
             go_wp2
             go_end0
             exact HF.out
           · have h9 := sPart_of cg a k v v6 (!m) w6 _ (by omega) (by omega) (fun e w' h => h.1) (HI.out s1 (if !m then a else a + 1) (if !m then k + 1 else 0) v (l ++ [(⟨qf, qm, qo, qv⟩, false)]) v6 w6 (by omega) (hbd.2.2 rfl) (by split <;> omega) (by split <;> omega) hB6 (HR3.out.grown (HG34.out.trans (HG45.out.trans HG56.out))) hL6 (HK.out.snoc HQW.out) (by rw [List.length_append]; simp; omega))
             have H9 := Lib.hid h9
             clear h9 ho6 hb6 hL6 hX6 hB6 hbd
             go_wp2_with fail
             refine H9.out.mono ?_; rintro e w7 ⟨rfl, s', b', hrun, hb7, hg7⟩
             rw [← nextA_false, ← nextK_false] at hrun
             have HF := Lib.hid (show ChkPost cg cv (.slice (some ⟨rb, roff, none⟩) nr cr) last (fun s' b => RuleRun rs last a k v l s s' b) w (.returned (.tuple #[])) w7 from ⟨rfl, s', b', .both hs7 HRR.out HNV.out HQ.out HTL.out HRUN1.out hrun, hb7, HGA.out.trans hg7⟩)
             clear hrun hb7 hg7
             go_wp2
             go_end0
             exact HF.out
       · have HKL := Lib.hid (show (looksOf r).length ≤ k by rw [HN3.out]; omega)
         clear hA3
         by_cases hv : v = r.verdict
         · have HX := Lib.hid (show decide (v = r.verdict) = true by simp [hv])
           have hve : (v == r.verdict) = true := by simp [hv]
           clear hv
           go_wp2
           go_end0
           exact ⟨rfl, s + 1, true, by have := RuleRun.fits (rs := rs) (last := last) (k := k) (v := v) (l := l) hs7 HRR.out HNV.out HKL.out; rw [HX.out] at this; exact this, HB2.out.set_ 4 (.bool true), HG2.out.trans (grown_set _ _ _ _)⟩
         · have HX := Lib.hid (show decide (v = r.verdict) = false by simp [hv])
           have hve : (v == r.verdict) = false := by simp [hv]
           go_wp2
           go_end0
           exact ⟨rfl, s + 1, false, by have := RuleRun.fits (rs := rs) (last := last) (k := k) (v := v) (l := l) hs7 HRR.out HNV.out HKL.out; rw [HX.out] at this; exact this, HB2.out.set_ 4 (.bool false), HG2.out.trans (grown_set _ _ _ _)⟩
   · have HA := Lib.hid (show rs.length ≤ a by rw [← HNR.out]; omega)
     by_cases hv : v = last
     · have HX := Lib.hid (show decide (v = last) = true by simp [hv])
       subst hv
       go_wp2
       go_end0
       exact ⟨rfl, s + 1, true, by have := RuleRun.done (rs := rs) (last := v) (k := k) (v := v) (l := l) hs7 HA.out; simpa using this, HB1.out.set_ 4 (.bool true), HG1.out.trans (grown_set _ _ _ _)⟩
     · have HX := Lib.hid (show decide (v = last) = false by simp [hv])
       have hve : (v == last) = false := by simp [hv]
       go_wp2
       go_end0
       exact ⟨rfl, s + 1, false, by have := RuleRun.done (rs := rs) (last := last) (k := k) (v := v) (l := l) hs7 HA.out; rw [HX.out] at this; exact this, HB1.out.set_ 4 (.bool false), HG1.out.trans (grown_set _ _ _ _)⟩
end
end Go.Proofs.YtdjgicapbpoigaaGreatDoor

namespace Go.Proofs.YtdjgicapbpoigaaGreatDoor
open Go.RowKit
set_option linter.unusedSimpArgs false
set_option linter.unusedVariables false

theorem bits_zero (k : Int) : Go.bits BinOp.and IntKind.i64 0 k = 0 := by
 have h : BitVec.ofInt 64 0 &&& BitVec.ofInt 64 k = 0#64 := BitVec.zero_and
 show IntKind.i64.wrap (((BitVec.ofInt 64 0 &&& BitVec.ofInt 64 k).toNat : Nat) : Int) = 0
 rw [h]
 rfl
def FOk (fs f m : Int) : Prop := (fs = f ∧ 0 ≤ f) ∨ (fs = -1 ∧ f = 0 ∧ m = 0)
theorem FOk.mask {fs f m k : Int} (h : FOk fs f m) : FOk fs f (Go.bits BinOp.and IntKind.i64 m k) := by
 rcases h with h | ⟨h1, h2, h3⟩
 · exact .inl h
 · subst h3; exact .inr ⟨h1, h2, bits_zero k⟩
theorem FOk.zero {fs f m : Int} (h : FOk fs f m) (hz : fs < 0 ∨ m = 0) : m = 0 := by
 rcases h with h | ⟨h1, h2, h3⟩
 · omega
 · exact h3
theorem place_at {g : List In4} (hg : waysOk g) {a : Nat} {x : In4} (hx : g[a]? = some x) : ∃ kn yn nn : Nat, x = ⟨x.op, kn, yn, nn⟩ ∧ kn ≤ 4294967295 ∧ yn ≤ 6 ∧ nn ≤ 6 ∧ a < g.length ∧ (1 ≤ x.op ∧ x.op ≤ 6) ∧
   (x.op = 1 ∨ x.op = 2 → a + 1 < g.length) ∧ (x.op = 3 ∨ x.op = 4 → a + 1 + yn < g.length ∧ a + 1 + nn < g.length) ∧ (x.op = 5 → a + 1 + kn < g.length) := by
 have hi := (List.getElem?_eq_some_iff.1 hx).1
 have ho := hg.2.2 a x hi hx
 have hl := hg.2.1
 obtain ⟨op, k, yes, no⟩ := x
 unfold insOk at ho
 simp only at ho
 have h1 : 0 ≤ k := by omega
 have h2 : 0 ≤ yes := by omega
 have h3 : 0 ≤ no := by omega
 refine ⟨k.toNat, yes.toNat, no.toNat, by rw [Int.toNat_of_nonneg h1, Int.toNat_of_nonneg h2, Int.toNat_of_nonneg h3], by omega, by omega, by omega, hi, by show 1 ≤ op ∧ op ≤ 6; omega, ?_, ?_, ?_⟩
 · show op = 1 ∨ op = 2 → _; omega
 · show op = 3 ∨ op = 4 → _; omega
 · show op = 5 → _; omega

section
variable (cg : Nat) (cv rv : Value) (last : Int) (rs : List Rl) (g : List In4)
def RunIH (n : Nat) : Prop := ∀ (s a : Nat) (fs f m : Int) (l : List (Lk × Bool)) (lv : Value) (w : World), 6000 ≤ s + n → s ≤ 6000 → a < g.length → FOk fs f m →
   Blk w cg 68 #[cv, rv, .int .i64 last, .int .i64 (s : Int), .bool true] → SlN cg w 4 cv (insR g) → RsN cg w rv rs → LsN cg w lv l → KnW l → l.length ≤ s →
   Calls Tryz.prog 59 #[.pointer (some ⟨cg, 0, none⟩), .int .i64 (a : Int), .int .i64 fs, .int .i64 m, .int .i64 0, lv] w (ChkPost cg cv rv last (fun s' b => WayRun g rs last a f m l s s' b) w)

set_option maxHeartbeats 1000000 in
theorem sRun_off (s a : Nat) (fs m : Int) (lv : Value) (ok : Bool) (w : World) (h : Blk w cg 68 #[cv, rv, .int .i64 last, .int .i64 (s : Int), .bool ok]) (hs : s ≤ 20000) (ho : 6000 ≤ s ∨ ok = false) :
   Calls Tryz.prog 59 #[.pointer (some ⟨cg, 0, none⟩), .int .i64 (a : Int), .int .i64 fs, .int .i64 m, .int .i64 0, lv] w (ChkPost cg cv rv last (fun s' b => s' = s + 1 ∧ b = false) w) := by
 have H := Lib.hid h; have HO := Lib.hid ho; clear h ho
 go_enter Tryz.func59, Tryz.ntmps59
 go_wp2_with fail
 refine (sStep_off cg cv rv last s ok _ H.out hs HO.out).mono ?_; rintro e w1 ⟨rfl, hb, hg⟩
 have HB := Lib.hid hb; clear hb
 go_wp2
 go_end0
 exact ⟨rfl, s + 1, false, ⟨rfl, rfl⟩, HB.out, hg⟩
set_option maxRecDepth 100000 in
set_option maxHeartbeats 8000000 in
theorem sLook_of (hg : waysOk g) (n : Nat) (ih : RunIH cg cv rv last rs g n) (s a : Nat) (fs f m : Int) (l : List (Lk × Bool)) (lv : Value) (w : World) (x : In4) (hn : 6000 ≤ s + 1 + n) (hs : s < 6000) (hx : g[a]? = some x) (hop : x.op = 3 ∨ x.op = 4) (hf : FOk fs f m)
   (hC : Blk w cg 68 #[cv, rv, .int .i64 last, .int .i64 ((s + 1 : Nat) : Int), .bool true]) (hV : SlN cg w 4 cv (insR g)) (hR : RsN cg w rv rs) (hL : LsN cg w lv l) (hK : KnW l) (hl : l.length ≤ s) :
   Calls Tryz.prog 93 #[.pointer (some ⟨cg, 0, none⟩), .int .i64 (a : Int), .int .i64 fs, .int .i64 m, .int .i64 0, lv] w (ChkPost cg cv rv last (fun s' b => WayRun g rs last a f m l s s' b) w) := by
 obtain ⟨kn, yn, nn, hxe, hkn, hyn, hnn, hag, hop1, h12, h34, h5⟩ := place_at hg hx
 have hgl := hg.2.1
 have hlk := h34 hop
 obtain ⟨op, k, yes, no⟩ := x
 simp only [In4.mk.injEq, true_and] at hxe
 obtain ⟨rfl, rfl, rfl⟩ := hxe
 simp only at hop
 have HI := Lib.hid ih; have HC := Lib.hid hC; have HV := Lib.hid hV; have HR := Lib.hid hR; have HL := Lib.hid hL; have HK := Lib.hid hK; have HX := Lib.hid hx; have HF := Lib.hid hf
 have hcg := hC.lt
 obtain ⟨A, gn, gc, rfl, hSA, hne⟩ := hV
 have hgn : g.length = gn := by have := hSA.len; rwa [insR_len] at this
 have hgc := hSA.cap
 have hgm := hSA.max
 unfold maxLen at hgm
 have HGN := Lib.hid hgn
 obtain ⟨cb, coff, x', rfl, hcb, hx', hcell⟩ := ins_get hSA (k := a) (by omega)
 rw [hx] at hx'
 obtain rfl := Option.some.inj hx'
 obtain ⟨c0, c1, c2, c3⟩ := hcell w _ (Below.refl _ _) hcb
 simp only at c0 c1 c2 c3
 have e0 := (show _ = some (Value.slice (some ⟨cb, coff, none⟩) gn gc) from hC.cell 0)
 have han : a < gn := by omega
 have hfin : ∀ (yn : Nat) (hy : a + 1 + yn < g.length) (s1 : Nat) (l1 : List (Lk × Bool)) (lv1 : Value) (W : World), 6000 ≤ s1 + n → s1 ≤ 6000 → Blk W cg 68 #[.slice (some ⟨cb, coff, none⟩) gn gc, rv, .int .i64 last, .int .i64 (s1 : Int), .bool true] → w.grownBy W (some cg) → LsN cg W lv1 l1 → KnW l1 → l1.length ≤ s1 →
     Calls Tryz.prog 59 #[.pointer (some ⟨cg, 0, none⟩), .int .i64 ((a : Int) + 1 + (yn : Int)), .int .i64 fs, .int .i64 m, .int .i64 0, lv1] W (ChkPost cg (.slice (some ⟨cb, coff, none⟩) gn gc) rv last (fun s' b => WayRun g rs last (a + 1 + yn) f m l1 s1 s' b) W) := fun yn hy s1 l1 lv1 W h1 h2 h3 h4 h5 h6 h7 =>
   HI.out s1 (a + 1 + yn) fs f m l1 lv1 W h1 h2 hy HF.out h3 (HV.out.grown h4) (HR.out.grown h4) h5 h6 h7
 have HFIN := Lib.hid hfin
 clear ih hC hR hL hK hx hf hSA hne hgn hcell hx' hfin h12 h34 h5 hop1 HI
 by_cases hz : fs < 0 ∨ m = 0
 · obtain rfl : m = 0 := HF.out.zero hz
   clear hz
   rcases hop with rfl | rfl
   · by_cases hk0 : kn = 0
     · have hk2 : ((0 : Int) == (kn : Int)) = true := by simp [hk0]
       have hzb : wayOf ⟨3, (kn : Int), (yn : Int), (nn : Int)⟩ (zeroB ⟨3, (kn : Int), (yn : Int), (nn : Int)⟩) = yn := by simp [wayOf, zeroB, hk0]
       clear hk0
       have HZB := Lib.hid hzb
       have h9 := HFIN.out yn hlk.1 (s + 1) l lv (w.alloc (.cells #[.int .i64 3, .int .i64 (kn : Int), .int .i64 (yn : Int), .int .i64 (nn : Int)] 63)) (by omega) (by omega) (HC.out.alloc _) (grown_of_below (by go_grown) _) (HL.out.grown (grown_of_below (by go_grown) _)) HK.out (by omega)
       have H9 := Lib.hid h9
       clear hzb h9 HC
       by_cases hfs : fs < 0
       all_goals
         go_enter Tryz.func93, Tryz.ntmps93
         go_wp2_with fail
         refine H9.out.mono ?_; rintro e w2 ⟨rfl, s', b', hrun, hb2, hg2⟩
         have HFF := Lib.hid (show ChkPost cg (.slice (some ⟨cb, coff, none⟩) gn gc) rv last (fun s' b => WayRun g rs last a f 0 l s s' b) w (.returned (.tuple #[])) w2 from ⟨rfl, s', b', .zero hs HX.out (by simp) rfl (by rw [HZB.out]; exact hrun), hb2, (grown_of_below (show Below w.heap.size w _ by go_grown) _).trans hg2⟩)
         clear hrun hb2 hg2
         go_wp2
         go_end0
         exact HFF.out
     · have hk1 : ¬ (0 : Int) = (kn : Int) := by omega
       have hk2 : ((0 : Int) == (kn : Int)) = false := by simp; omega
       have hzb : wayOf ⟨3, (kn : Int), (yn : Int), (nn : Int)⟩ (zeroB ⟨3, (kn : Int), (yn : Int), (nn : Int)⟩) = nn := by simp [wayOf, zeroB, hk0]
       have HZB := Lib.hid hzb
       have h9 := HFIN.out nn hlk.2 (s + 1) l lv (w.alloc (.cells #[.int .i64 3, .int .i64 (kn : Int), .int .i64 (yn : Int), .int .i64 (nn : Int)] 63)) (by omega) (by omega) (HC.out.alloc _) (grown_of_below (by go_grown) _) (HL.out.grown (grown_of_below (by go_grown) _)) HK.out (by omega)
       have H9 := Lib.hid h9
       clear hzb h9 HC
       by_cases hfs : fs < 0
       all_goals
         go_enter Tryz.func93, Tryz.ntmps93
         go_wp2_with fail
         refine H9.out.mono ?_; rintro e w2 ⟨rfl, s', b', hrun, hb2, hg2⟩
         have HFF := Lib.hid (show ChkPost cg (.slice (some ⟨cb, coff, none⟩) gn gc) rv last (fun s' b => WayRun g rs last a f 0 l s s' b) w (.returned (.tuple #[])) w2 from ⟨rfl, s', b', .zero hs HX.out (by simp) rfl (by rw [HZB.out]; exact hrun), hb2, (grown_of_below (show Below w.heap.size w _ by go_grown) _).trans hg2⟩)
         clear hrun hb2 hg2
         go_wp2
         go_end0
         exact HFF.out
   · have hk1 : ¬ (kn : Int) < 0 := by omega
     have hzb : wayOf ⟨4, (kn : Int), (yn : Int), (nn : Int)⟩ (zeroB ⟨4, (kn : Int), (yn : Int), (nn : Int)⟩) = nn := by simp [wayOf, zeroB]; omega
     have HZB := Lib.hid hzb
     have h9 := HFIN.out nn hlk.2 (s + 1) l lv (w.alloc (.cells #[.int .i64 4, .int .i64 (kn : Int), .int .i64 (yn : Int), .int .i64 (nn : Int)] 63)) (by omega) (by omega) (HC.out.alloc _) (grown_of_below (by go_grown) _) (HL.out.grown (grown_of_below (by go_grown) _)) HK.out (by omega)
     have H9 := Lib.hid h9
     clear hzb h9 HC
     by_cases hfs : fs < 0
     all_goals
       go_enter Tryz.func93, Tryz.ntmps93
       go_wp2_with fail
       refine H9.out.mono ?_; rintro e w2 ⟨rfl, s', b', hrun, hb2, hg2⟩
       have HFF := Lib.hid (show ChkPost cg (.slice (some ⟨cb, coff, none⟩) gn gc) rv last (fun s' b => WayRun g rs last a f 0 l s s' b) w (.returned (.tuple #[])) w2 from ⟨rfl, s', b', .zero hs HX.out (by simp) rfl (by rw [HZB.out]; exact hrun), hb2, (grown_of_below (show Below w.heap.size w _ by go_grown) _).trans hg2⟩)
       clear hrun hb2 hg2
       go_wp2
       go_end0
       exact HFF.out
 · have hff : fs = f := by rcases HF.out with h | h; exact h.1; exact absurd (.inl (by omega)) hz
   have hfs : ¬ fs < 0 := fun h => hz (.inl h)
   have hm0 : ¬ m = 0 := fun h => hz (.inr h)
   obtain rfl : f = fs := hff.symm
   have HM := Lib.hid hm0
   clear hz
   rcases hop with rfl | rfl
   · skip
     obtain ⟨WX, hWX⟩ : ∃ WX, WX = w.alloc (.cells #[.int .i64 3, .int .i64 (kn : Int), .int .i64 (yn : Int), .int .i64 (nn : Int)] 63) := ⟨_, rfl⟩
     have hIX : Blk WX w.heap.size 63 #[.int .i64 3, .int .i64 (kn : Int), .int .i64 (yn : Int), .int .i64 (nn : Int)] := by rw [hWX]; exact Blk.new _ _ _
     have hzX : WX.heap.size = w.heap.size + 1 := by rw [hWX]; simp
     have hbX : Below w.heap.size w WX := by rw [hWX]; go_grown
     have hQX := Blk.new WX 232 #[.int .i64 f, .int .i64 m, .int .i64 1, .int .i64 (kn : Int), .bool false]
     have hbQ : Below WX.heap.size WX (WX.alloc (.cells #[.int .i64 f, .int .i64 m, .int .i64 1, .int .i64 (kn : Int), .bool false] 232)) := by go_grown
     rw [hzX] at hQX hbQ
     rw [hWX] at hQX hbQ hIX hbX
     have hIQ := hIX.alloc (.cells #[.int .i64 f, .int .i64 m, .int .i64 1, .int .i64 (kn : Int), .bool false] 232)
     have hbWQ := hbX.trans (hbQ.mono (by omega))
     have HIQ := Lib.hid hIQ; have HQX := Lib.hid hQX
     clear hWX hIX hzX hbX hQX hbQ hIQ
     have hsp := HL.out.sl.below hbWQ
     have HSP := Lib.hid hsp; have HBW := Lib.hid hbWQ
     clear hsp hbWQ
     go_enter Tryz.func93, Tryz.ntmps93
     go_wp2_with fail
     refine (l6Tell_any lv l ⟨f, m, 1, (kn : Int)⟩ false _ HSP.out HK.out (by simp)).mono ?_; rintro e w3 ⟨rfl, hb3⟩
     have hzz : w.heap.size + 1 < w3.heap.size := by have := hb3.size; simp at this; omega
     have hI3 := HIQ.out.below hb3 (by simp; omega); have hQ3 := HQX.out.below hb3 (by simp)
     have y0 := (show _ = some (Value.int .i64 f) from hQ3.cell 0); have y1 := (show _ = some (Value.int .i64 m) from hQ3.cell 1); have y2 := (show _ = some (Value.int .i64 1) from hQ3.cell 2); have y3 := (show _ = some (Value.int .i64 (kn : Int)) from hQ3.cell 3); have y4 := (show _ = some (Value.bool false) from hQ3.cell 4)
     have z0 := (show _ = some (Value.int .i64 3) from hI3.cell 0); have z1 := (show _ = some (Value.int .i64 (kn : Int)) from hI3.cell 1); have z2 := (show _ = some (Value.int .i64 (yn : Int)) from hI3.cell 2); have z3 := (show _ = some (Value.int .i64 (nn : Int)) from hI3.cell 3)
     have HI3 := Lib.hid hI3; have HQ3 := Lib.hid hQ3
     have hb03 := below_then HBW.out hb3
     have HG3 := Lib.hid (grown_of_below hb03 (some cg))
     have HB3 := Lib.hid (HC.out.same hb03); have HL3 := Lib.hid (HL.out.grown HG3.out)
     clear hI3 hQ3 hb3 hb03 HC HBW HSP
     cases htell : tellO l ⟨f, m, 1, (kn : Int)⟩ with
     | some h =>
       cases h
       · have HTL := Lib.hid htell
         have HTI := Lib.hid (show tellI l ⟨f, m, 1, (kn : Int)⟩ = 0 by simp [tellI, htell])
         clear htell
         rw [HTI.out]
         have H9 := Lib.hid (HFIN.out nn hlk.2 (s + 1) l lv w3 (by omega) (by omega) HB3.out HG3.out HL3.out HK.out (by omega))
         go_wp2_with fail
         refine H9.out.mono ?_; rintro e w4 ⟨rfl, s', b', hrun, hb4, hg4⟩
         have HFF := Lib.hid (show ChkPost cg (.slice (some ⟨cb, coff, none⟩) gn gc) rv last (fun s' b => WayRun g rs last a f m l s s' b) w (.returned (.tuple #[])) w4 from ⟨rfl, s', b', .told hs HX.out (by simp) HM.out HTL.out hrun, hb4, HG3.out.trans hg4⟩)
         clear hrun hb4 hg4
         go_wp2
         go_end0
         exact HFF.out
       · have HTL := Lib.hid htell
         have HTI := Lib.hid (show tellI l ⟨f, m, 1, (kn : Int)⟩ = 1 by simp [tellI, htell])
         clear htell
         rw [HTI.out]
         have H9 := Lib.hid (HFIN.out yn hlk.1 (s + 1) l lv w3 (by omega) (by omega) HB3.out HG3.out HL3.out HK.out (by omega))
         go_wp2_with fail
         refine H9.out.mono ?_; rintro e w4 ⟨rfl, s', b', hrun, hb4, hg4⟩
         have HFF := Lib.hid (show ChkPost cg (.slice (some ⟨cb, coff, none⟩) gn gc) rv last (fun s' b => WayRun g rs last a f m l s s' b) w (.returned (.tuple #[])) w4 from ⟨rfl, s', b', .told hs HX.out (by simp) HM.out HTL.out hrun, hb4, HG3.out.trans hg4⟩)
         clear hrun hb4 hg4
         go_wp2
         go_end0
         exact HFF.out
     | none =>
       have HTL := Lib.hid htell
       have HTI := Lib.hid (show tellI l ⟨f, m, 1, (kn : Int)⟩ = -1 by simp [tellI, htell])
       clear htell
       rw [HTI.out]
       obtain ⟨lb, loff, ln, lc, rfl, hla, hlb⟩ := HL3.out
       have hll : l.length = ln := by have := hla.len; rwa [knR_len] at this
       have HLA := Lib.hid hla
       have hln : ln ≤ 100000 := by omega
       have HLLn := Lib.hid hll
       clear hla hll
       go_wp2_with fail
       refine (l6With_any lb loff ln lc l ⟨f, m, 1, (kn : Int)⟩ false true _ HLA.out hln).mono ?_; rintro e w4 ⟨v4, rfl, ho4, hb4⟩
       have hz34 := hb4.size
       have HG34 := Lib.hid (grown_of_below hb4 (some cg))
       have hL4 := LsN.of_own (cg := cg) ho4 (by rw [List.length_append, HLLn.out]; rfl) (by omega)
       have hQ4 := HQ3.out.below hb4 (by omega); have hI4 := HI3.out.below hb4 (by omega)
       have y0 := (show _ = some (Value.int .i64 f) from hQ4.cell 0); have y1 := (show _ = some (Value.int .i64 m) from hQ4.cell 1); have y2 := (show _ = some (Value.int .i64 1) from hQ4.cell 2); have y3 := (show _ = some (Value.int .i64 (kn : Int)) from hQ4.cell 3); have y4 := (show _ = some (Value.bool false) from hQ4.cell 4)
       have z0 := (show _ = some (Value.int .i64 3) from hI4.cell 0); have z1 := (show _ = some (Value.int .i64 (kn : Int)) from hI4.cell 1); have z2 := (show _ = some (Value.int .i64 (yn : Int)) from hI4.cell 2); have z3 := (show _ = some (Value.int .i64 (nn : Int)) from hI4.cell 3)
       have h9 := HFIN.out yn hlk.1 (s + 1) (l ++ [(⟨f, m, 1, (kn : Int)⟩, true)]) v4 w4 (by omega) (by omega) (HB3.out.same hb4) (HG3.out.trans HG34.out) hL4 (HK.out.snoc ⟨by show (0 : Int) ≤ (kn : Int); omega, by show (kn : Int) ≤ _; omega⟩) (by rw [List.length_append]; simp; omega)
       have H9 := Lib.hid h9
       have HQ4 := Lib.hid hQ4; have HI4 := Lib.hid hI4
       clear h9 ho4 hb4 hL4 hQ4 hI4
       go_wp2_with fail
       refine H9.out.mono ?_; rintro e w5 ⟨rfl, s1, b1, hrun1, hb5, hg5⟩
       have hz45 := hg5.size
       have HG45 := Lib.hid hg5
       have hQ5 := HQ4.out.grown hg5 (by simp; omega); have hI5 := HI4.out.grown hg5 (by simp; omega)
       have y0 := (show _ = some (Value.int .i64 f) from hQ5.cell 0); have y1 := (show _ = some (Value.int .i64 m) from hQ5.cell 1); have y2 := (show _ = some (Value.int .i64 1) from hQ5.cell 2); have y3 := (show _ = some (Value.int .i64 (kn : Int)) from hQ5.cell 3); have y4 := (show _ = some (Value.bool false) from hQ5.cell 4)
       have z0 := (show _ = some (Value.int .i64 3) from hI5.cell 0); have z1 := (show _ = some (Value.int .i64 (kn : Int)) from hI5.cell 1); have z2 := (show _ = some (Value.int .i64 (yn : Int)) from hI5.cell 2); have z3 := (show _ = some (Value.int .i64 (nn : Int)) from hI5.cell 3)
       have HQ5 := Lib.hid hQ5; have HI5 := Lib.hid hI5; have HB5 := Lib.hid hb5; have HRUN1 := Lib.hid hrun1
       have HLA5 := Lib.hid ((HLA.out.grown HG34.out (fun b' off' e' => by cases e'; exact hlb)).grown HG45.out (fun b' off' e' => by cases e'; exact hlb))
       clear hQ5 hI5 hb5 hrun1 hg5
       go_wp2_with fail
       refine (l6With_any lb loff ln lc l ⟨f, m, 1, (kn : Int)⟩ false false _ HLA5.out hln).mono ?_; rintro e w6 ⟨v6, rfl, ho6, hb6⟩
       have HG56 := Lib.hid (grown_of_below hb6 (some cg))
       have hL6 := LsN.of_own (cg := cg) ho6 (by rw [List.length_append, HLLn.out]; rfl) (by omega)
       have hQ6 := HQ5.out.same hb6; have hI6 := HI5.out.same hb6
       have y0 := (show _ = some (Value.int .i64 f) from hQ6.cell 0); have y1 := (show _ = some (Value.int .i64 m) from hQ6.cell 1); have y2 := (show _ = some (Value.int .i64 1) from hQ6.cell 2); have y3 := (show _ = some (Value.int .i64 (kn : Int)) from hQ6.cell 3); have y4 := (show _ = some (Value.bool false) from hQ6.cell 4)
       have z0 := (show _ = some (Value.int .i64 3) from hI6.cell 0); have z1 := (show _ = some (Value.int .i64 (kn : Int)) from hI6.cell 1); have z2 := (show _ = some (Value.int .i64 (yn : Int)) from hI6.cell 2); have z3 := (show _ = some (Value.int .i64 (nn : Int)) from hI6.cell 3)
       have hB6 := HB5.out.same hb6
       have hbd := HRUN1.out.bound (by omega)
       have HGA := Lib.hid ((HG3.out.trans HG34.out).trans (HG45.out.trans HG56.out))
       cases b1
       · have h9 : Calls Tryz.prog 59 #[.pointer (some ⟨cg, 0, none⟩), .int .i64 ((a : Int) + 1 + (nn : Int)), .int .i64 f, .int .i64 m, .int .i64 0, v6] w6 (ChkPost cg (.slice (some ⟨cb, coff, none⟩) gn gc) rv last (fun s' b => s' = s1 + 1 ∧ b = false) w6) := sRun_off cg (.slice (some ⟨cb, coff, none⟩) gn gc) rv last s1 (a + 1 + nn) f m v6 false w6 hB6 (by omega) (.inr rfl)
         have H9 := Lib.hid h9
         clear h9 ho6 hb6 hL6 hQ6 hI6 hB6 hbd
         go_wp2_with fail
         refine H9.out.mono ?_; rintro e w7 ⟨rfl, s', b', ⟨rfl, rfl⟩, hb7, hg7⟩
         have HFF := Lib.hid (show ChkPost cg (.slice (some ⟨cb, coff, none⟩) gn gc) rv last (fun s' b => WayRun g rs last a f m l s s' b) w (.returned (.tuple #[])) w7 from ⟨rfl, s1 + 1, false, .stop hs HX.out (by simp) HM.out HTL.out HRUN1.out, hb7, HGA.out.trans hg7⟩)
         clear hb7 hg7
         go_wp2
         go_end0
         exact HFF.out
       · have h9 := HFIN.out nn hlk.2 s1 (l ++ [(⟨f, m, 1, (kn : Int)⟩, false)]) v6 w6 (by omega) (hbd.2.2 rfl) hB6 HGA.out hL6 (HK.out.snoc ⟨by show (0 : Int) ≤ (kn : Int); omega, by show (kn : Int) ≤ _; omega⟩) (by rw [List.length_append]; simp; omega)
         have H9 := Lib.hid h9
         clear h9 ho6 hb6 hL6 hQ6 hI6 hB6 hbd
         go_wp2_with fail
         refine H9.out.mono ?_; rintro e w7 ⟨rfl, s', b', hrun, hb7, hg7⟩
         have HFF := Lib.hid (show ChkPost cg (.slice (some ⟨cb, coff, none⟩) gn gc) rv last (fun s' b => WayRun g rs last a f m l s s' b) w (.returned (.tuple #[])) w7 from ⟨rfl, s', b', .both hs HX.out (by simp) HM.out HTL.out HRUN1.out hrun, hb7, HGA.out.trans hg7⟩)
         clear hrun hb7 hg7
         go_wp2
         go_end0
         exact HFF.out
   · skip
     obtain ⟨WX, hWX⟩ : ∃ WX, WX = w.alloc (.cells #[.int .i64 4, .int .i64 (kn : Int), .int .i64 (yn : Int), .int .i64 (nn : Int)] 63) := ⟨_, rfl⟩
     have hIX : Blk WX w.heap.size 63 #[.int .i64 4, .int .i64 (kn : Int), .int .i64 (yn : Int), .int .i64 (nn : Int)] := by rw [hWX]; exact Blk.new _ _ _
     have hzX : WX.heap.size = w.heap.size + 1 := by rw [hWX]; simp
     have hbX : Below w.heap.size w WX := by rw [hWX]; go_grown
     have hQX := Blk.new WX 232 #[.int .i64 f, .int .i64 m, .int .i64 3, .int .i64 (kn : Int), .bool false]
     have hbQ : Below WX.heap.size WX (WX.alloc (.cells #[.int .i64 f, .int .i64 m, .int .i64 3, .int .i64 (kn : Int), .bool false] 232)) := by go_grown
     rw [hzX] at hQX hbQ
     rw [hWX] at hQX hbQ hIX hbX
     have hIQ := hIX.alloc (.cells #[.int .i64 f, .int .i64 m, .int .i64 3, .int .i64 (kn : Int), .bool false] 232)
     have hbWQ := hbX.trans (hbQ.mono (by omega))
     have HIQ := Lib.hid hIQ; have HQX := Lib.hid hQX
     clear hWX hIX hzX hbX hQX hbQ hIQ
     have hsp := HL.out.sl.below hbWQ
     have HSP := Lib.hid hsp; have HBW := Lib.hid hbWQ
     clear hsp hbWQ
     go_enter Tryz.func93, Tryz.ntmps93
     go_wp2_with fail
     refine (l6Tell_any lv l ⟨f, m, 3, (kn : Int)⟩ false _ HSP.out HK.out (by simp)).mono ?_; rintro e w3 ⟨rfl, hb3⟩
     have hzz : w.heap.size + 1 < w3.heap.size := by have := hb3.size; simp at this; omega
     have hI3 := HIQ.out.below hb3 (by simp; omega); have hQ3 := HQX.out.below hb3 (by simp)
     have y0 := (show _ = some (Value.int .i64 f) from hQ3.cell 0); have y1 := (show _ = some (Value.int .i64 m) from hQ3.cell 1); have y2 := (show _ = some (Value.int .i64 3) from hQ3.cell 2); have y3 := (show _ = some (Value.int .i64 (kn : Int)) from hQ3.cell 3); have y4 := (show _ = some (Value.bool false) from hQ3.cell 4)
     have z0 := (show _ = some (Value.int .i64 4) from hI3.cell 0); have z1 := (show _ = some (Value.int .i64 (kn : Int)) from hI3.cell 1); have z2 := (show _ = some (Value.int .i64 (yn : Int)) from hI3.cell 2); have z3 := (show _ = some (Value.int .i64 (nn : Int)) from hI3.cell 3)
     have HI3 := Lib.hid hI3; have HQ3 := Lib.hid hQ3
     have hb03 := below_then HBW.out hb3
     have HG3 := Lib.hid (grown_of_below hb03 (some cg))
     have HB3 := Lib.hid (HC.out.same hb03); have HL3 := Lib.hid (HL.out.grown HG3.out)
     clear hI3 hQ3 hb3 hb03 HC HBW HSP
     cases htell : tellO l ⟨f, m, 3, (kn : Int)⟩ with
     | some h =>
       cases h
       · have HTL := Lib.hid htell
         have HTI := Lib.hid (show tellI l ⟨f, m, 3, (kn : Int)⟩ = 0 by simp [tellI, htell])
         clear htell
         rw [HTI.out]
         have H9 := Lib.hid (HFIN.out nn hlk.2 (s + 1) l lv w3 (by omega) (by omega) HB3.out HG3.out HL3.out HK.out (by omega))
         go_wp2_with fail
         refine H9.out.mono ?_; rintro e w4 ⟨rfl, s', b', hrun, hb4, hg4⟩
         have HFF := Lib.hid (show ChkPost cg (.slice (some ⟨cb, coff, none⟩) gn gc) rv last (fun s' b => WayRun g rs last a f m l s s' b) w (.returned (.tuple #[])) w4 from ⟨rfl, s', b', .told hs HX.out (by simp) HM.out HTL.out hrun, hb4, HG3.out.trans hg4⟩)
         clear hrun hb4 hg4
         go_wp2
         go_end0
         exact HFF.out
       · have HTL := Lib.hid htell
         have HTI := Lib.hid (show tellI l ⟨f, m, 3, (kn : Int)⟩ = 1 by simp [tellI, htell])
         clear htell
         rw [HTI.out]
         have H9 := Lib.hid (HFIN.out yn hlk.1 (s + 1) l lv w3 (by omega) (by omega) HB3.out HG3.out HL3.out HK.out (by omega))
         go_wp2_with fail
         refine H9.out.mono ?_; rintro e w4 ⟨rfl, s', b', hrun, hb4, hg4⟩
         have HFF := Lib.hid (show ChkPost cg (.slice (some ⟨cb, coff, none⟩) gn gc) rv last (fun s' b => WayRun g rs last a f m l s s' b) w (.returned (.tuple #[])) w4 from ⟨rfl, s', b', .told hs HX.out (by simp) HM.out HTL.out hrun, hb4, HG3.out.trans hg4⟩)
         clear hrun hb4 hg4
         go_wp2
         go_end0
         exact HFF.out
     | none =>
       have HTL := Lib.hid htell
       have HTI := Lib.hid (show tellI l ⟨f, m, 3, (kn : Int)⟩ = -1 by simp [tellI, htell])
       clear htell
       rw [HTI.out]
       obtain ⟨lb, loff, ln, lc, rfl, hla, hlb⟩ := HL3.out
       have hll : l.length = ln := by have := hla.len; rwa [knR_len] at this
       have HLA := Lib.hid hla
       have hln : ln ≤ 100000 := by omega
       have HLLn := Lib.hid hll
       clear hla hll
       go_wp2_with fail
       refine (l6With_any lb loff ln lc l ⟨f, m, 3, (kn : Int)⟩ false true _ HLA.out hln).mono ?_; rintro e w4 ⟨v4, rfl, ho4, hb4⟩
       have hz34 := hb4.size
       have HG34 := Lib.hid (grown_of_below hb4 (some cg))
       have hL4 := LsN.of_own (cg := cg) ho4 (by rw [List.length_append, HLLn.out]; rfl) (by omega)
       have hQ4 := HQ3.out.below hb4 (by omega); have hI4 := HI3.out.below hb4 (by omega)
       have y0 := (show _ = some (Value.int .i64 f) from hQ4.cell 0); have y1 := (show _ = some (Value.int .i64 m) from hQ4.cell 1); have y2 := (show _ = some (Value.int .i64 3) from hQ4.cell 2); have y3 := (show _ = some (Value.int .i64 (kn : Int)) from hQ4.cell 3); have y4 := (show _ = some (Value.bool false) from hQ4.cell 4)
       have z0 := (show _ = some (Value.int .i64 4) from hI4.cell 0); have z1 := (show _ = some (Value.int .i64 (kn : Int)) from hI4.cell 1); have z2 := (show _ = some (Value.int .i64 (yn : Int)) from hI4.cell 2); have z3 := (show _ = some (Value.int .i64 (nn : Int)) from hI4.cell 3)
       have h9 := HFIN.out yn hlk.1 (s + 1) (l ++ [(⟨f, m, 3, (kn : Int)⟩, true)]) v4 w4 (by omega) (by omega) (HB3.out.same hb4) (HG3.out.trans HG34.out) hL4 (HK.out.snoc ⟨by show (0 : Int) ≤ (kn : Int); omega, by show (kn : Int) ≤ _; omega⟩) (by rw [List.length_append]; simp; omega)
       have H9 := Lib.hid h9
       have HQ4 := Lib.hid hQ4; have HI4 := Lib.hid hI4
       clear h9 ho4 hb4 hL4 hQ4 hI4
       go_wp2_with fail
       refine H9.out.mono ?_; rintro e w5 ⟨rfl, s1, b1, hrun1, hb5, hg5⟩
       have hz45 := hg5.size
       have HG45 := Lib.hid hg5
       have hQ5 := HQ4.out.grown hg5 (by simp; omega); have hI5 := HI4.out.grown hg5 (by simp; omega)
       have y0 := (show _ = some (Value.int .i64 f) from hQ5.cell 0); have y1 := (show _ = some (Value.int .i64 m) from hQ5.cell 1); have y2 := (show _ = some (Value.int .i64 3) from hQ5.cell 2); have y3 := (show _ = some (Value.int .i64 (kn : Int)) from hQ5.cell 3); have y4 := (show _ = some (Value.bool false) from hQ5.cell 4)
       have z0 := (show _ = some (Value.int .i64 4) from hI5.cell 0); have z1 := (show _ = some (Value.int .i64 (kn : Int)) from hI5.cell 1); have z2 := (show _ = some (Value.int .i64 (yn : Int)) from hI5.cell 2); have z3 := (show _ = some (Value.int .i64 (nn : Int)) from hI5.cell 3)
       have HQ5 := Lib.hid hQ5; have HI5 := Lib.hid hI5; have HB5 := Lib.hid hb5; have HRUN1 := Lib.hid hrun1
       have HLA5 := Lib.hid ((HLA.out.grown HG34.out (fun b' off' e' => by cases e'; exact hlb)).grown HG45.out (fun b' off' e' => by cases e'; exact hlb))
       clear hQ5 hI5 hb5 hrun1 hg5
       go_wp2_with fail
       refine (l6With_any lb loff ln lc l ⟨f, m, 3, (kn : Int)⟩ false false _ HLA5.out hln).mono ?_; rintro e w6 ⟨v6, rfl, ho6, hb6⟩
       have HG56 := Lib.hid (grown_of_below hb6 (some cg))
       have hL6 := LsN.of_own (cg := cg) ho6 (by rw [List.length_append, HLLn.out]; rfl) (by omega)
       have hQ6 := HQ5.out.same hb6; have hI6 := HI5.out.same hb6
       have y0 := (show _ = some (Value.int .i64 f) from hQ6.cell 0); have y1 := (show _ = some (Value.int .i64 m) from hQ6.cell 1); have y2 := (show _ = some (Value.int .i64 3) from hQ6.cell 2); have y3 := (show _ = some (Value.int .i64 (kn : Int)) from hQ6.cell 3); have y4 := (show _ = some (Value.bool false) from hQ6.cell 4)
       have z0 := (show _ = some (Value.int .i64 4) from hI6.cell 0); have z1 := (show _ = some (Value.int .i64 (kn : Int)) from hI6.cell 1); have z2 := (show _ = some (Value.int .i64 (yn : Int)) from hI6.cell 2); have z3 := (show _ = some (Value.int .i64 (nn : Int)) from hI6.cell 3)
       have hB6 := HB5.out.same hb6
       have hbd := HRUN1.out.bound (by omega)
       have HGA := Lib.hid ((HG3.out.trans HG34.out).trans (HG45.out.trans HG56.out))
       cases b1
       · have h9 : Calls Tryz.prog 59 #[.pointer (some ⟨cg, 0, none⟩), .int .i64 ((a : Int) + 1 + (nn : Int)), .int .i64 f, .int .i64 m, .int .i64 0, v6] w6 (ChkPost cg (.slice (some ⟨cb, coff, none⟩) gn gc) rv last (fun s' b => s' = s1 + 1 ∧ b = false) w6) := sRun_off cg (.slice (some ⟨cb, coff, none⟩) gn gc) rv last s1 (a + 1 + nn) f m v6 false w6 hB6 (by omega) (.inr rfl)
         have H9 := Lib.hid h9
         clear h9 ho6 hb6 hL6 hQ6 hI6 hB6 hbd
         go_wp2_with fail
         refine H9.out.mono ?_; rintro e w7 ⟨rfl, s', b', ⟨rfl, rfl⟩, hb7, hg7⟩
         have HFF := Lib.hid (show ChkPost cg (.slice (some ⟨cb, coff, none⟩) gn gc) rv last (fun s' b => WayRun g rs last a f m l s s' b) w (.returned (.tuple #[])) w7 from ⟨rfl, s1 + 1, false, .stop hs HX.out (by simp) HM.out HTL.out HRUN1.out, hb7, HGA.out.trans hg7⟩)
         clear hb7 hg7
         go_wp2
         go_end0
         exact HFF.out
       · have h9 := HFIN.out nn hlk.2 s1 (l ++ [(⟨f, m, 3, (kn : Int)⟩, false)]) v6 w6 (by omega) (hbd.2.2 rfl) hB6 HGA.out hL6 (HK.out.snoc ⟨by show (0 : Int) ≤ (kn : Int); omega, by show (kn : Int) ≤ _; omega⟩) (by rw [List.length_append]; simp; omega)
         have H9 := Lib.hid h9
         clear h9 ho6 hb6 hL6 hQ6 hI6 hB6 hbd
         go_wp2_with fail
         refine H9.out.mono ?_; rintro e w7 ⟨rfl, s', b', hrun, hb7, hg7⟩
         have HFF := Lib.hid (show ChkPost cg (.slice (some ⟨cb, coff, none⟩) gn gc) rv last (fun s' b => WayRun g rs last a f m l s s' b) w (.returned (.tuple #[])) w7 from ⟨rfl, s', b', .both hs HX.out (by simp) HM.out HTL.out HRUN1.out hrun, hb7, HGA.out.trans hg7⟩)
         clear hrun hb7 hg7
         go_wp2
         go_end0
         exact HFF.out
end
end Go.Proofs.YtdjgicapbpoigaaGreatDoor

namespace Go.Proofs.YtdjgicapbpoigaaGreatDoor
open Go.RowKit
set_option linter.unusedSimpArgs false
set_option linter.unusedVariables false

section
variable (cg : Nat) (cv rv : Value) (last : Int) (rs : List Rl) (g : List In4)
set_option maxRecDepth 100000 in
set_option maxHeartbeats 8000000 in
theorem sRun_any (hg : waysOk g) (hrw : ∀ r ∈ rs, RlW r) (hrl : rs.length ≤ 1000) : ∀ n, RunIH cg cv rv last rs g n := by
 intro n
 induction n with
 | zero =>
   intro s a fs f m l lv w hn hs ha hf hC hV hR hL hK hl
   exact (sRun_off cg cv rv last s a fs m lv true w hC (by omega) (.inl (by omega))).mono fun e w' ⟨h1, s', b, ⟨h2, h3⟩, h4, h5⟩ => ⟨h1, s', b, by rw [h2, h3]; exact .over (by omega), h4, h5⟩
 | succ n ih =>
   intro s a fs f m l lv w hn hs ha hf hC hV hR hL hK hl
   by_cases hs6 : 6000 ≤ s
   · exact (sRun_off cg cv rv last s a fs m lv true w hC (by omega) (.inl hs6)).mono fun e w' ⟨h1, s', b, ⟨h2, h3⟩, h4, h5⟩ => ⟨h1, s', b, by rw [h2, h3]; exact .over hs6, h4, h5⟩
   have hs7 : s < 6000 := by omega
   obtain ⟨x, hx⟩ : ∃ x, g[a]? = some x := ⟨_, List.getElem?_eq_getElem ha⟩
   obtain ⟨kn, yn, nn, hxe, hkn, hyn, hnn, hag, hop1, h12, h34, h5⟩ := place_at hg hx
   have hgl := hg.2.1
   obtain ⟨op, k, yes, no⟩ := x
   simp only [In4.mk.injEq, true_and] at hxe
   obtain ⟨rfl, rfl, rfl⟩ := hxe
   simp only at hop1 h12 h34 h5
   have HI := Lib.hid ih; have HC := Lib.hid hC; have HV := Lib.hid hV; have HR := Lib.hid hR; have HL := Lib.hid hL; have HK := Lib.hid hK; have HX := Lib.hid hx; have HF := Lib.hid hf; have HG := Lib.hid hg; have HRW := Lib.hid hrw
   have hcg := hC.lt
   obtain ⟨A, gn, gc, rfl, hSA, hne⟩ := hV
   have hgn : g.length = gn := by have := hSA.len; rwa [insR_len] at this
   have hgc := hSA.cap
   have hgm := hSA.max
   unfold maxLen at hgm
   obtain ⟨cb, coff, x', rfl, hcb, hx', hcell⟩ := ins_get hSA (k := a) (by omega)
   rw [hx] at hx'
   obtain rfl := Option.some.inj hx'
   have hne := hne (by omega) cb coff rfl
   have HCELL := Lib.hid hcell
   have han : a < gn := by omega
   have hz := bits_zero (kn : Int)
   have HH := Lib.hid hop1; have H12 := Lib.hid h12; have H34 := Lib.hid h34; have H5 := Lib.hid h5
   have hfin : ∀ (s1 a1 : Nat) (fs1 f1 m1 : Int) (W : World), 6000 ≤ s1 + n → s1 ≤ 6000 → a1 < g.length → FOk fs1 f1 m1 → Blk W cg 68 #[(.slice (some ⟨cb, coff, none⟩) gn gc), rv, .int .i64 last, .int .i64 (s1 : Int), .bool true] → w.grownBy W (some cg) → l.length ≤ s1 →
     Calls Tryz.prog 59 #[.pointer (some ⟨cg, 0, none⟩), .int .i64 (a1 : Int), .int .i64 fs1, .int .i64 m1, .int .i64 0, lv] W (ChkPost cg (.slice (some ⟨cb, coff, none⟩) gn gc) rv last (fun s' b => WayRun g rs last a1 f1 m1 l s1 s' b) W) := fun s1 a1 fs1 f1 m1 W h1 h2 h3 h4 h5 h6 h7 =>
       HI.out s1 a1 fs1 f1 m1 l lv W h1 h2 h3 h4 h5 (HV.out.grown h6) (HR.out.grown h6) (HL.out.grown h6) HK.out h7
   have HFIN := Lib.hid hfin
   clear ih hC hR hL hK hx hf hSA hgn hx' hfin h12 h34 h5 hop1 hg hrw hcell hs6
   go_enter Tryz.func59, Tryz.ntmps59
   go_wp2_with fail
   refine (sStep_on cg (.slice (some ⟨cb, coff, none⟩) gn gc) rv last s _ HC.out hs7).mono ?_; rintro e w1 ⟨rfl, hb1, hg1⟩
   obtain ⟨c0, c1, c2, c3⟩ : w1.cell? ⟨cb, coff + a * 4, none⟩ = some (.int .i64 op) ∧ w1.cell? ⟨cb, coff + a * 4 + 1, none⟩ = some (.int .i64 (kn : Int)) ∧ w1.cell? ⟨cb, coff + a * 4 + 2, none⟩ = some (.int .i64 (yn : Int)) ∧ w1.cell? ⟨cb, coff + a * 4 + 3, none⟩ = some (.int .i64 (nn : Int)) := by
     obtain ⟨d0, d1, d2, d3⟩ := HCELL.out w _ (Below.refl _ _) hcb
     have hn' : some cb ≠ some cg := fun e => hne (Option.some.inj e)
     exact ⟨hg1.cell d0 hn', hg1.cell d1 hn', hg1.cell d2 hn', hg1.cell d3 hn'⟩
   have e0 := (show _ = some (Value.slice (some ⟨cb, coff, none⟩) gn gc) from hb1.cell 0)
   have hb1X := hb1.alloc (.cells #[.int .i64 op, .int .i64 (kn : Int), .int .i64 (yn : Int), .int .i64 (nn : Int)] 63)
   have hg1X := hg1.trans (grown_of_below (show Below w1.heap.size w1 (w1.alloc (.cells #[.int .i64 op, .int .i64 (kn : Int), .int .i64 (yn : Int), .int .i64 (nn : Int)] 63)) by go_grown) (some cg))
   have HB1 := Lib.hid hb1X; have HG1 := Lib.hid hg1X
   clear hb1 hg1 hb1X hg1X HC HCELL
   by_cases o1 : op = 1
   · subst o1
     have h9 : Calls Tryz.prog 59 #[.pointer (some ⟨cg, 0, none⟩), .int .i64 ((a : Int) + 1), .int .i64 (kn : Int), .int .i64 4294967295, .int .i64 0, lv] _ (ChkPost cg (.slice (some ⟨cb, coff, none⟩) gn gc) rv last (fun s' b => WayRun g rs last (a + 1) (kn : Int) 4294967295 l (s + 1) s' b) _) := HFIN.out (s + 1) (a + 1) (kn : Int) (kn : Int) 4294967295 _ (by omega) (by omega) (H12.out (.inl rfl)) (.inl ⟨rfl, by omega⟩) HB1.out HG1.out (by omega)
     have H9 := Lib.hid h9
     clear h9
     go_wp2_with fail
     refine H9.out.mono ?_; rintro e w3 ⟨rfl, s', b', hrun, hb3, hg3⟩
     have HFF := Lib.hid (show ChkPost cg (.slice (some ⟨cb, coff, none⟩) gn gc) rv last (fun s' b => WayRun g rs last a f m l s s' b) w (.returned (.tuple #[])) w3 from ⟨rfl, s', b', .load hs7 HX.out rfl hrun, hb3, HG1.out.trans hg3⟩)
     clear hrun hb3 hg3
     go_wp2
     go_end0
     exact HFF.out
   · by_cases o2 : op = 2
     · subst o2
       have h9 : Calls Tryz.prog 59 #[.pointer (some ⟨cg, 0, none⟩), .int .i64 ((a : Int) + 1), .int .i64 fs, .int .i64 (Go.bits BinOp.and IntKind.i64 m (kn : Int)), .int .i64 0, lv] _ (ChkPost cg (.slice (some ⟨cb, coff, none⟩) gn gc) rv last (fun s' b => WayRun g rs last (a + 1) f (Go.bits BinOp.and IntKind.i64 m (kn : Int)) l (s + 1) s' b) _) := HFIN.out (s + 1) (a + 1) fs f (Go.bits BinOp.and IntKind.i64 m (kn : Int)) _ (by omega) (by omega) (H12.out (.inr rfl)) HF.out.mask HB1.out HG1.out (by omega)
       have H9 := Lib.hid h9
       clear h9
       go_wp2_with fail
       refine H9.out.mono ?_; rintro e w3 ⟨rfl, s', b', hrun, hb3, hg3⟩
       have HFF := Lib.hid (show ChkPost cg (.slice (some ⟨cb, coff, none⟩) gn gc) rv last (fun s' b => WayRun g rs last a f m l s s' b) w (.returned (.tuple #[])) w3 from ⟨rfl, s', b', .mask hs7 HX.out rfl hrun, hb3, HG1.out.trans hg3⟩)
       clear hrun hb3 hg3
       go_wp2
       go_end0
       exact HFF.out
     · by_cases o5 : op = 5
       · subst o5
         have h9 : Calls Tryz.prog 59 #[.pointer (some ⟨cg, 0, none⟩), .int .i64 ((a : Int) + 1 + (kn : Int)), .int .i64 fs, .int .i64 m, .int .i64 0, lv] _ (ChkPost cg (.slice (some ⟨cb, coff, none⟩) gn gc) rv last (fun s' b => WayRun g rs last (a + 1 + kn) f m l (s + 1) s' b) _) := HFIN.out (s + 1) (a + 1 + kn) fs f m _ (by omega) (by omega) (H5.out rfl) HF.out HB1.out HG1.out (by omega)
         have H9 := Lib.hid h9
         clear h9
         go_wp2_with fail
         refine H9.out.mono ?_; rintro e w3 ⟨rfl, s', b', hrun, hb3, hg3⟩
         have HFF := Lib.hid (show ChkPost cg (.slice (some ⟨cb, coff, none⟩) gn gc) rv last (fun s' b => WayRun g rs last a f m l s s' b) w (.returned (.tuple #[])) w3 from ⟨rfl, s', b', .jump hs7 HX.out rfl hrun, hb3, HG1.out.trans hg3⟩)
         clear hrun hb3 hg3
         go_wp2
         go_end0
         exact HFF.out
       · by_cases o6 : op = 6
         · subst o6
           have h9 : Calls Tryz.prog 92 #[.pointer (some ⟨cg, 0, none⟩), .int .i64 0, .int .i64 0, .int .i64 (kn : Int), lv] _ (ChkPost cg (.slice (some ⟨cb, coff, none⟩) gn gc) rv last (fun s' b => RuleRun rs last 0 0 (kn : Int) l (s + 1) s' b) _) := sRule_any cg (.slice (some ⟨cb, coff, none⟩) gn gc) last rs rv HRW.out hrl n (s + 1) 0 0 (kn : Int) l lv _ (by omega) (by omega) (by omega) (by omega) HB1.out (HR.out.grown HG1.out) (HL.out.grown HG1.out) HK.out (by omega)
           have H9 := Lib.hid h9
           clear h9
           go_wp2_with fail
           refine H9.out.mono ?_; rintro e w3 ⟨rfl, s', b', hrun, hb3, hg3⟩
           have HFF := Lib.hid (show ChkPost cg (.slice (some ⟨cb, coff, none⟩) gn gc) rv last (fun s' b => WayRun g rs last a f m l s s' b) w (.returned (.tuple #[])) w3 from ⟨rfl, s', b', .end_ hs7 HX.out rfl hrun, hb3, HG1.out.trans hg3⟩)
           clear hrun hb3 hg3
           go_wp2
           go_end0
           exact HFF.out
         · have o34 : op = 3 ∨ op = 4 := by have := HH.out; omega
           have h9 : Calls Tryz.prog 93 #[.pointer (some ⟨cg, 0, none⟩), .int .i64 (a : Int), .int .i64 fs, .int .i64 m, .int .i64 0, lv] _ (ChkPost cg (.slice (some ⟨cb, coff, none⟩) gn gc) rv last (fun s' b => WayRun g rs last a f m l s s' b) _) := sLook_of cg (.slice (some ⟨cb, coff, none⟩) gn gc) rv last rs g HG.out n HI.out s a fs f m l lv _ ⟨op, (kn : Int), (yn : Int), (nn : Int)⟩ (by omega) hs7 HX.out o34 HF.out HB1.out (HV.out.grown HG1.out) (HR.out.grown HG1.out) (HL.out.grown HG1.out) HK.out (by omega)
           have O34 := Lib.hid o34; clear o34
           have H9 := Lib.hid h9
           clear h9
           go_wp2_with fail
           refine H9.out.mono ?_; rintro e w3 ⟨rfl, s', b', hrun, hb3, hg3⟩
           have HFF := Lib.hid (show ChkPost cg (.slice (some ⟨cb, coff, none⟩) gn gc) rv last (fun s' b => WayRun g rs last a f m l s s' b) w (.returned (.tuple #[])) w3 from ⟨rfl, s', b', hrun, hb3, HG1.out.trans hg3⟩)
           clear hrun hb3 hg3
           go_wp2
           go_end0
           exact HFF.out
end

theorem rlW_of {r : Rl} (h : ruleOkB r = true) : RlW r := by
 obtain ⟨_, ⟨l0, l1⟩, h1, h4, ht⟩ := ruleOkB_words h
 refine ⟨⟨l0, by omega⟩, ⟨by omega, h1⟩, by omega, fun t htm => ?_⟩
 obtain ⟨_, _, hv, ho⟩ := testOkB_words (ht t htm)
 exact ⟨hv.1, hv.2, by omega⟩
def ChkOut (g : List In4) (p : Pol) (s : Nat) (b : Bool) : Prop := (codeOk g ∧ polOkB p = true ∧ ChkIs g p s b) ∨ (¬ (codeOk g ∧ polOkB p = true) ∧ s = 0 ∧ b = false)
theorem ChkOut.one {g : List In4} {p : Pol} {s t : Nat} {b c : Bool} (h : ChkOut g p s b) (k : ChkOut g p t c) : s = t ∧ b = c := by
 rcases h with ⟨h1, h2, h⟩ | ⟨h, rfl, rfl⟩ <;> rcases k with ⟨k1, k2, k⟩ | ⟨k, rfl, rfl⟩
 · exact h.one k
 · exact absurd ⟨h1, h2⟩ k
 · exact absurd ⟨k1, k2⟩ h
 · exact ⟨rfl, rfl⟩
theorem ChkIs.bound {g : List In4} {p : Pol} {s : Nat} {b : Bool} (h : ChkIs g p s b) : s ≤ 12001 := by
 have := WayRun.bound h (by omega); omega
theorem ChkOut.bound {g : List In4} {p : Pol} {s : Nat} {b : Bool} (h : ChkOut g p s b) : s ≤ 12001 := by
 rcases h with ⟨_, _, h⟩ | ⟨_, rfl, _⟩
 · exact h.bound
 · omega

def AllPost (cv : Value) (g : List In4) (p : Pol) (w : World) (e : Ending) (w' : World) : Prop :=
 ∃ (cg s : Nat) (b : Bool) (rv : Value), e = .returned (.pointer (some ⟨cg, 0, none⟩)) ∧ ChkIs g p s b ∧ Blk w' cg 68 #[cv, rv, .int .i64 p.els, .int .i64 (s : Int), .bool b] ∧ Below w.heap.size w w'
set_option maxHeartbeats 4000000 in
theorem l6All_any (cv : Value) (g : List In4) (p : Pol) (v : Value) (w : World) (hv : Sl w 4 cv (insR g)) (hP : PolIs w p v) (hg : codeOk g) (hp : polOkB p = true) :
   Calls Tryz.prog 31 #[cv, v] w (AllPost cv g p w) := by
 obtain ⟨rv, css, rfl, hS, hR⟩ := hP
 have hsh := (polOkB_shape hp).1
 have hrules : ∀ r ∈ p.rules, ruleOkB r = true := (polShapeB_words hsh).2.2
 have hrl : p.rules.length ≤ 1000 := by have := (polShapeB_words hsh).1; omega
 have hbX : Below w.heap.size w (w.alloc (.cells #[rv, .int .i64 p.els] 35)) := by go_grown
 obtain ⟨A, n, c, rfl, hSA⟩ := hS
 have hbY : Below w.heap.size w ((w.alloc (.cells #[.slice A n c, .int .i64 p.els] 35)).alloc (.cells #[cv, .slice A n c, .int .i64 p.els, .int .i64 0, .bool true] 68)) := by go_grown
 have hbZ : Below w.heap.size w (((w.alloc (.cells #[.slice A n c, .int .i64 p.els] 35)).alloc (.cells #[cv, .slice A n c, .int .i64 p.els, .int .i64 0, .bool true] 68)).alloc (.cells #[] 232)) := by go_grown
 have hv' : SlN (w.heap.size + 1) w 4 cv (insR g) := SlN.of_sl hv (by omega)
 have hR' : RsN (w.heap.size + 1) w (.slice A n c) p.rules := ⟨css, SlN.of_sl ⟨A, n, c, rfl, hSA⟩ (by omega), RulesN.of hR (by omega)⟩
 have hgz := grown_of_below hbZ (some (w.heap.size + 1))
 obtain ⟨VA, vn, vc, rfl, hVA⟩ := hv
 have hC : Blk (((w.alloc (.cells #[.slice A n c, .int .i64 p.els] 35)).alloc (.cells #[.slice VA vn vc, .slice A n c, .int .i64 p.els, .int .i64 0, .bool true] 68)).alloc (.cells #[] 232)) (w.heap.size + 1) 68 #[.slice VA vn vc, .slice A n c, .int .i64 p.els, .int .i64 ((0 : Nat) : Int), .bool true] := by
   have := (Blk.new (w.alloc (.cells #[.slice A n c, .int .i64 p.els] 35)) 68 #[.slice VA vn vc, .slice A n c, .int .i64 p.els, .int .i64 0, .bool true]).alloc (.cells #[] 232)
   simpa using this
 have hL : LsN (w.heap.size + 1) (((w.alloc (.cells #[.slice A n c, .int .i64 p.els] 35)).alloc (.cells #[.slice VA vn vc, .slice A n c, .int .i64 p.els, .int .i64 0, .bool true] 68)).alloc (.cells #[] 232)) (.slice (some ⟨w.heap.size + 1 + 1, 0, none⟩) 0 0) [] :=
   ⟨_, _, _, _, rfl, ⟨rfl, by omega, by omega, fun h => absurd h (by omega)⟩, by omega⟩
 have h9 : Calls Tryz.prog 59 #[.pointer (some ⟨w.heap.size + 1, 0, none⟩), .int .i64 0, .int .i64 (-1), .int .i64 0, .int .i64 0, .slice (some ⟨w.heap.size + 1 + 1, 0, none⟩) 0 0] _ _ := sRun_any (w.heap.size + 1) (.slice VA vn vc) (.slice A n c) p.els p.rules g hg.1 (fun r hr => rlW_of (hrules r hr)) hrl 6000 0 0 (-1) 0 0 [] _ _ (by omega) (by omega) hg.1.1 (.inr ⟨rfl, rfl, rfl⟩) hC (hv'.grown hgz) (hR'.grown hgz) hL KnW.nil (by simp)
 have H9 := Lib.hid h9
 have HZ := Lib.hid hbZ
 clear hbX hbY hbZ hv' hR' hgz hVA hC hL h9 hSA hR hrules hsh
 go_enter Tryz.func31, Tryz.ntmps31
 go_wp2_with fail
 refine H9.out.mono ?_; rintro e w3 ⟨rfl, s', b', hrun, hb3, hg3⟩
 have HB := Lib.hid hb3; have HRUN := Lib.hid hrun
 have HBB := Lib.hid (HZ.out.trans (below_of_grown hg3 (show w.heap.size ≤ w.heap.size + 1 by omega) (by simp)))
 clear hb3 hrun hg3
 go_wp2
 go_ret
 exact ⟨_, s', b', _, rfl, HRUN.out, HB.out, HBB.out⟩

def CheckCodePost (g : List In4) (p : Pol) (w : World) (e : Ending) (w' : World) : Prop := ∃ (s : Nat) (b : Bool), e = .returned (.bool b) ∧ ChkOut g p s b ∧ Below w.heap.size w w'
set_option maxHeartbeats 2000000 in
theorem sCheckCode_any (cv : Value) (g : List In4) (p : Pol) (v : Value) (w : World) (hv : Sl w 4 cv (insR g)) (hP : PolIs w p v) :
   Calls Tryz.prog 15 #[cv, v] w (CheckCodePost g p w) := by
 have HV := Lib.hid hv; have HP := Lib.hid hP
 obtain ⟨rv, css, rfl, ⟨A, n, c, rfl, hSA⟩, hR⟩ := hP
 have hb0 : Below w.heap.size w (w.alloc (.cells #[.slice A n c, .int .i64 p.els] 35)) := by go_grown
 have B0 := Blk.new w 35 #[.slice A n c, .int .i64 p.els]
 have HB := Lib.hid B0
 obtain ⟨VA, vn, vc, rfl, hVA⟩ := hv
 clear hSA hR hVA B0
 go_enter Tryz.func15, Tryz.ntmps15
 go_wp2_with fail
 refine (sCodeOk_any _ g _ (HV.out.below hb0)).mono ?_; rintro e w1 ⟨rfl, hb1⟩
 have hb01 := below_then hb0 hb1
 have hB1 := HB.out.below hb1 (by simp)
 have z1 := hb1.size
 simp only [World.size_alloc] at z1
 have hlt1 : w.heap.size < w1.heap.size := by omega
 have e0 := (show _ = some (Value.slice A n c) from hB1.cell 0); have e1 := (show _ = some (Value.int .i64 p.els) from hB1.cell 1)
 have HB1 := Lib.hid hB1
 clear hB1 hb1
 cases hc : codeOkB g with
 | false =>
   have HO := Lib.hid (show ChkOut g p 0 false from .inr ⟨(fun h => by rw [codeOkB_iff.2 h.1] at hc; cases hc), rfl, rfl⟩)
   clear hc
   go_wp2
   go_ret
   exact ⟨0, false, rfl, HO.out, hb01⟩
 | true =>
   have HC := Lib.hid (codeOkB_iff.1 hc)
   clear hc
   go_wp2_with fail
   refine (PolicyOk_any p _ _ (HP.out.below hb01)).mono ?_; rintro e w2 ⟨rfl, hb2⟩
   have hb02 := below_then hb01 hb2
   have hB2 := HB1.out.below hb2 hlt1
   have e0 := (show _ = some (Value.slice A n c) from hB2.cell 0); have e1 := (show _ = some (Value.int .i64 p.els) from hB2.cell 1)
   clear hB2 hb2 HB1
   cases hp : polOkB p with
   | false =>
     have HO := Lib.hid (show ChkOut g p 0 false from .inr ⟨(fun h => by rw [h.2] at hp; cases hp), rfl, rfl⟩)
     clear hp
     go_wp2
     go_ret
     exact ⟨0, false, rfl, HO.out, hb02⟩
   | true =>
     have HPO := Lib.hid hp
     clear hp
     go_wp2_with fail
     refine (l6All_any _ g p _ _ (HV.out.below hb02) (HP.out.below hb02) HC.out HPO.out).mono ?_; rintro e w3 ⟨cg, s, b, rv', rfl, hck, hbk, hb3⟩
     have HO := Lib.hid (show ChkOut g p s b from .inl ⟨HC.out, HPO.out, hck⟩)
     have q3 := (show _ = some (Value.int .i64 (s : Int)) from hbk.cell 3); have q4 := (show _ = some (Value.bool b) from hbk.cell 4)
     have hb03 := below_then hb02 hb3
     clear hck hbk hb3
     go_wp2
     go_ret
     exact ⟨s, b, rfl, HO.out, hb03⟩

end Go.Proofs.YtdjgicapbpoigaaGreatDoor
