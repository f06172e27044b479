/- How the laws draw programs: l11Code. -/
import Derived.Test.YteflnpejhhkchaaGreatDoorMakeA
import Derived.Test.YteflnpejhhkchaaGreatDoorDrawPol2
namespace Go.Proofs.YteflnpejhhkchaaGreatDoor
open Go.RowKit
set_option linter.unusedSimpArgs false
set_option linter.unusedVariables false

/-- 'append(out, a, b, c)': only the row's own block has turned, and new ones are there. -/
theorem wpList_appNg {P : Program} {w0 : World} {ops : Array Oper} {rest : List Oper} {o : Oper} {a : Act} {Q : Exit → Act → World → Prop} {e2 : TypeId} {r : List Value} (m : Nat) (hm : 0 < m) (hgd : o.guard = none) (s x : Operand) (t : TypeId)
    (ho : o.op = .call { callee := .builtin .append, args := #[s, x], argTypes := #[t, t] })
    (base : Nat) (e : TypeId) {z : Value} {size bytes : Nat} (ht : P.underlying t = some (.slice e)) (hinfo : (P.info? e).map (fun i => (i.zero, i.size, i.bytes)) = some (some z, size, bytes))
    (hzs : z.cells.size = size) (hsz : 0 < size) (hby : 0 < bytes)
    (v : Value) (n : Nat) (xs : List Value) (hs : a.eval s = v) (hown : w0.ownsRow base e size v n xs)
    (hr : r.length = m * size) (h1 : ∀ u ∈ r, u.oneCell' = true) (hx : a.eval x = .slice (some ⟨w0.heap.size, 0, none⟩) m m)
    (hn : (n + m) * bytes ≤ 140737488355328) (hbase : base ≤ w0.heap.size)
    (h : ∀ v' w', w'.ownsRow base e size v' (n + m) (xs ++ r) → w0.grownBy w' v.ownBlock → v' ≠ .slice none 0 0 → wpList P ops Q rest (a.put o.dst v') w') :
    wpList P ops Q (o :: rest) a (w0.alloc (.cells r.toArray e2)) := by
  obtain ⟨i0, hi0, hz0, hz1, hz2⟩ := info_parts hinfo
  have hn1 : n + m ≤ 140737488355328 := Nat.le_trans (Nat.le_mul_of_pos_right _ hby) hn
  refine wpList_append_own _ hgd s x t ho base e i0 z size bytes ht hi0 hz0 hz1 hz2 hzs hsz v n xs hs (hown.alloc _) ⟨w0.heap.size, 0, none⟩ m m r hx hr (fun j u hu => ?_) h1 (by unfold maxLen; omega) hn
    (by simp; omega) (fun v' w' hown' hg hv => h v' w' hown' ?_ (fun e => by have := (hv.1 e).2; omega))
  · rw [add_at, cell_of_row _ _ _ r.toArray e2 (0, 0) (heap_alloc_new w0 _)]
    simpa using hu
  · exact (World.grownBy_alloc w0 _ _).trans hg

set_option maxRecDepth 100000 in
set_option maxHeartbeats 8000000 in
theorem l11Code_any (g p : Nat) (w : World) (h : Rd w g p) (hp : p ≤ 600000000) :
    Calls Tryz.prog 55 #[.pointer (some ⟨g, 0, none⟩)] w fun e w' =>
      ∃ (v : Value) (x : List In4) (q : Nat), e = .returned v ∧ Sl w' 4 v (insR x) ∧ x.length ≤ 700 ∧ w.grownBy w' (some g) ∧ Rd w' g q ∧ q ≤ p + 2000 := by
  have D0 := Dq.start h
  have hgl := h.lt
  go_enter Tryz.func55, Tryz.ntmps55
  go_wp2_with fail
  refine (l11Policy_any g p 4 3 _ D0.rd (by omega) (by omega) (by omega)).mono ?_; rintro e w1 ⟨po, v1, q1, rfl, hP, g1, r1, hq1⟩
  have D1 := D0.step g1 r1
  clear D0 g1 r1
  go_wp2_with fail
  refine (sMakeCode_any po v1 _ hP).mono ?_; rintro e w2 ⟨v2, x2, ok, rfl, hx2, ho2, hb2⟩
  have D2 := D1.next hb2
  have ho2' := own_base ho2 D1.size
  have hs2 := D2.size
  clear D1 hP hb2 ho2
  have HO2 := Lib.hid ho2'; clear ho2'
  cases ok
  case' true =>
    go_wp2_with fail
    refine (pick_any g q1 4 _ D2.rd (by omega)).mono ?_; rintro e w3 ⟨k3, rfl, a3, b3, g3, r3⟩
    have b3' := b3 (by omega)
    have D3 := D2.step g3 r3
    have O3 := own_low HO2.out g3 hgl
    clear D2 HO2 g3 r3 b3
    rcases Decidable.em (k3 = 0) with hk3 | hk3
    case' inr =>
      have hd3 : (k3 == 0) = false := by simp [hk3]
      have HS := Lib.hid (SlA.of_own O3 (insR_len x2) (insR_rows x2)); have HD := Lib.hid D3
      clear O3 D3
      go_wp2
      go_ret
      exact ⟨_, x2, _, rfl, HS.out, by omega, HD.out.grown, HD.out.rd, by omega⟩
    case' inl =>
      subst hk3
      obtain ⟨q3, hq3, D3'⟩ : ∃ q3, q3 ≤ p + 1010 ∧ Dq w w3 g q3 := ⟨_, by omega, D3⟩
      clear D3 O3
  case' false =>
    obtain ⟨q3, hq3, D3'⟩ : ∃ q3, q3 ≤ p + 1010 ∧ Dq w w2 g q3 := ⟨_, by omega, D2⟩
    clear D2 HO2
    obtain ⟨w3, rfl⟩ : ∃ w3, w3 = w2 := ⟨_, rfl⟩
  all_goals
    have D4 : Dq w (w3.alloc (.cells #[] 56)) g q3 := D3'.next (by go_grown)
    have O4 : (w3.alloc (.cells #[] 56)).ownsRow w.heap.size 56 4 (.slice (some ⟨w3.heap.size, 0, none⟩) 0 0) 0 (insR []).flatten := World.ownsRow_lit (base := w.heap.size) (e := 56) (size := 4) w3 #[] 0 D3'.size (by unfold maxLen; omega) rfl
    clear D3'
    have HO4 := Lib.hid O4; clear O4
    go_wp2_with fail
    refine (pick_any g q3 8 _ D4.rd (by omega)).mono ?_; rintro e w5 ⟨k5, rfl, a5, b5, g5, r5⟩
    have b5' := b5 (by omega)
    have D5 := D4.step g5 r5
    have O5 := own_low HO4.out g5 hgl
    clear D4 HO4 g5 r5 b5
    obtain ⟨y, rfl⟩ : ∃ y : Nat, k5 = y := ⟨k5.toNat, by omega⟩
    have HD5 := Lib.hid D5; have HO5 := Lib.hid O5; clear D5 O5
    go_wp2
    go_loopw [3, 6] (fun o i wr => ∃ (m q : Nat) (xs : List In4), m ≤ y ∧ i = .int .i64 m ∧ xs.length = m ∧ q ≤ q3 + 1 + 5 * m ∧ Dq w wr g q ∧ wr.ownsRow w.heap.size 56 4 o xs.length (insR xs).flatten) (fun _ i _ => (y - intOf i).toNat)
    case atStart => exact ⟨0, q3 + 1, [], Nat.zero_le _, rfl, rfl, by omega, HD5.out, HO5.out⟩
    case round =>
      obtain ⟨m, q, xs, hm, rfl, hxl, hq, D, O⟩ := hrel
      clear HD5 HO5
      have hsz := D.size
      by_cases hmy : m < y
      · have hmyi : (m : Int) < y := by omega
        have HO := Lib.hid O; have HD := Lib.hid D
        have E0 := Dq.start D.rd
        have hgr := D.rd.lt
        clear O D
        go_wp2_with fail
        refine (pick_any g q 5 _ E0.rd (by omega)).mono ?_; rintro e w6 ⟨k6, rfl, a6, b6, g6, r6⟩
        have b6' := b6 (by omega)
        have E1 := E0.step g6 r6
        clear E0 g6 r6 b6
        go_wp2_with fail
        refine (pick_any g (q + 1) 5 _ E1.rd (by omega)).mono ?_; rintro e w7 ⟨k7, rfl, a7, b7, g7, r7⟩
        have b7' := b7 (by omega)
        have E2 := E1.step g7 r7
        have hs7 := E2.size
        clear E1 g7 r7 b7
        have X7 : Blk (w7.alloc (.cells #[.int .i64 (1 + k6), .int .i64 k7, .int .i64 0, .int .i64 0] 56)) w7.heap.size 56 #[.int .i64 (1 + k6), .int .i64 k7, .int .i64 0, .int .i64 0] := Blk.new w7 _ _
        have E3 : Dq wr (w7.alloc (.cells #[.int .i64 (1 + k6), .int .i64 k7, .int .i64 0, .int .i64 0] 56)) g (q + 2) := E2.next (by go_grown)
        clear E2
        rcases (by omega : k6 = 2 ∨ k6 = 3 ∨ k6 = 4 ∨ (k6 ≠ 2 ∧ k6 ≠ 3 ∧ k6 ≠ 4)) with hk | hk | hk | hk
        case' inl => have h3 : (1 + k6 == 3) = true := by simp; omega
        case' inr.inl => have h3 : (1 + k6 == 3) = false := by simp; omega
        case' inr.inr.inl => have h3 : (1 + k6 == 3) = false := by simp; omega
        case' inr.inr.inr => have h3 : (1 + k6 == 3) = false := by simp; omega
        case' inl => have h4 : (1 + k6 == 4) = false := by simp; omega
        case' inr.inl => have h4 : (1 + k6 == 4) = true := by simp; omega
        case' inr.inr.inl => have h4 : (1 + k6 == 4) = false := by simp; omega
        case' inr.inr.inr => have h4 : (1 + k6 == 4) = false := by simp; omega
        case' inl => have h5 : (1 + k6 == 5) = false := by simp; omega
        case' inr.inl => have h5 : (1 + k6 == 5) = false := by simp; omega
        case' inr.inr.inl => have h5 : (1 + k6 == 5) = true := by simp; omega
        case' inr.inr.inr => have h5 : (1 + k6 == 5) = false := by simp; omega
        all_goals clear hk
        case' inr.inr.inr =>
          have X := X7
          obtain ⟨qE, hqE, E⟩ : ∃ qE, qE ≤ q + 5 ∧ Dq wr (w7.alloc (.cells #[.int .i64 (1 + k6), .int .i64 k7, .int .i64 0, .int .i64 0] 56)) g qE := ⟨_, by omega, E3⟩
        case' inr.inr.inl =>
          go_wp2_with fail
          refine (pick_any g (q + 2) 2 _ E3.rd (by omega)).mono ?_; rintro e w8 ⟨k8, rfl, a8, b8, g8, r8⟩
          have b8' := b8 (by omega)
          have E4 := E3.step g8 r8
          have X8 := E3.blk X7 hs7 g8
          have f8 := X8.frozen 1
          have s8 := (show _ = some (Value.int .i64 k7) from X8.cell 1)
          obtain ⟨qE, hqE, E⟩ : ∃ qE, qE ≤ q + 5 ∧ Dq wr (w8.setCell ⟨w7.heap.size, 1, none⟩ (.int .i64 k8)) g qE := ⟨_, by omega, E4.set hs7 _⟩
          have X := X8.set_ 1 (.int .i64 k8)
          have s80 := (show _ = some (Value.int .i64 (1 + k6)) from X8.cell 0)
          clear E4 X8 g8 r8 b8
        case' inl =>
          go_wp2_with fail
          refine (pick_any g (q + 2) 3 _ E3.rd (by omega)).mono ?_; rintro e w8 ⟨k8, rfl, a8, b8, g8, r8⟩
          have b8' := b8 (by omega)
          have E4 := E3.step g8 r8
          have X8 := E3.blk X7 hs7 g8
          have f8 := X8.frozen 2
          have s8 := (show _ = some (Value.int .i64 0) from X8.cell 2)
          have E5 := E4.set (a := w7.heap.size) (i := 2) hs7 (.int .i64 k8)
          have X9 := X8.set_ 2 (.int .i64 k8)
          clear E4 X8 g8 r8 b8
          go_wp2_with fail
        case' inr.inl =>
          go_wp2_with fail
          refine (pick_any g (q + 2) 3 _ E3.rd (by omega)).mono ?_; rintro e w8 ⟨k8, rfl, a8, b8, g8, r8⟩
          have b8' := b8 (by omega)
          have E4 := E3.step g8 r8
          have X8 := E3.blk X7 hs7 g8
          have f8 := X8.frozen 2
          have s8 := (show _ = some (Value.int .i64 0) from X8.cell 2)
          have E5 := E4.set (a := w7.heap.size) (i := 2) hs7 (.int .i64 k8)
          have X9 := X8.set_ 2 (.int .i64 k8)
          clear E4 X8 g8 r8 b8
          go_wp2_with fail
        case' inl =>
          refine (pick_any g (q + 3) 3 _ E5.rd (by omega)).mono ?_; rintro e w9 ⟨k9, rfl, a9, b9, g9, r9⟩
          have b9' := b9 (by omega)
          have E6 := E5.step g9 r9
          have X10 := E5.blk X9 hs7 g9
          clear f8 s8
          have f9 := X10.frozen 3
          have s9 := (show _ = some (Value.int .i64 0) from X10.cell 3)
          obtain ⟨qE, hqE, E⟩ : ∃ qE, qE ≤ q + 5 ∧ Dq wr (w9.setCell ⟨w7.heap.size, 3, none⟩ (.int .i64 k9)) g qE := ⟨_, by omega, E6.set hs7 _⟩
          have X := X10.set_ 3 (.int .i64 k9)
          clear E5 X9 E6 X10 g9 r9 b9
        case' inr.inl =>
          refine (pick_any g (q + 3) 3 _ E5.rd (by omega)).mono ?_; rintro e w9 ⟨k9, rfl, a9, b9, g9, r9⟩
          have b9' := b9 (by omega)
          have E6 := E5.step g9 r9
          have X10 := E5.blk X9 hs7 g9
          clear f8 s8
          have f9 := X10.frozen 3
          have s9 := (show _ = some (Value.int .i64 0) from X10.cell 3)
          obtain ⟨qE, hqE, E⟩ : ∃ qE, qE ≤ q + 5 ∧ Dq wr (w9.setCell ⟨w7.heap.size, 3, none⟩ (.int .i64 k9)) g qE := ⟨_, by omega, E6.set hs7 _⟩
          have X := X10.set_ 3 (.int .i64 k9)
          clear E5 X9 E6 X10 g9 r9 b9
        all_goals
          obtain ⟨c0, c1, c2, c3, hX⟩ : ∃ c0 c1 c2 c3 : Int, Blk _ w7.heap.size 56 #[.int .i64 c0, .int .i64 c1, .int .i64 c2, .int .i64 c3] := ⟨_, _, _, _, X⟩
          have x0 := (show _ = some (Value.int .i64 _) from X.cell 0)
          have x1 := (show _ = some (Value.int .i64 _) from X.cell 1)
          have x2 := (show _ = some (Value.int .i64 _) from X.cell 2)
          have x3 := (show _ = some (Value.int .i64 _) from X.cell 3)
          have HOW := Lib.hid (own_low HO.out E.grown hgl)
          have hs9 := Nat.le_trans hsz E.size
          have HE := Lib.hid E
          clear X E X7 E3 hX
          go_wp2_with (at_builtin; go_must (refine wpList_app1g rfl (.tmp 57) (.tmp 59) _ rfl w.heap.size 56 Tryz.underlying23 info_Ins rfl (by omega) (by omega) _ xs.length (insR xs) rfl (by exact HOW.out) rfl (by simp [Value.oneCell']) (by first | (rw [World.size_setCell]; rfl) | (rw [World.size_alloc]; rfl)) (by omega) (by exact hs9) ?_); intro v13 w13 hown13 hg13 _)
          exact ⟨⟨m + 1, qE, xs ++ [⟨_, _, _, _⟩], by omega, by go_num, by simp [hxl], by omega, (HD.out.step HE.out.grown HE.out.rd).app ((Below.refl w.heap.size _).grown hg13 hs9 (fun k hk => (HOW.out.lt k hk).1)) (Nat.le_refl _), own_eq hown13 (by simp) (by simp [insR, In4.cells]; exact ⟨rfl, rfl, rfl, rfl⟩)⟩, by simp [intOf]; omega⟩
      · obtain rfl : m = y := by omega
        have HO := Lib.hid O
        clear O
        go_wp2_with fail
        refine (pick_any g q 4 _ D.rd (by omega)).mono ?_; rintro e w6 ⟨k6, rfl, a6, b6, g6, r6⟩
        have b6' := b6 (by omega)
        have D6 := D.step g6 r6
        have O6 := own_low HO.out g6 hgl
        clear D HO g6 r6 b6
        go_wp2_with fail
        refine (pick_any g (q + 1) 4 _ D6.rd (by omega)).mono ?_; rintro e w7 ⟨k7, rfl, a7, b7, g7, r7⟩
        have b7' := b7 (by omega)
        have HD7 := Lib.hid (D6.step g7 r7)
        have HO7 := Lib.hid (own_low O6 g7 hgl)
        have hs7 := HD7.out.size
        clear D6 O6 g7 r7 b7
        go_wp2_with (at_builtin; go_must (refine wpList_appNg 3 (by omega) rfl (.tmp 61) (.tmp 71) _ rfl w.heap.size 56 Tryz.underlying23 info_Ins rfl (by omega) (by omega) _ xs.length (insR xs).flatten rfl (by exact HO7.out) rfl (by simp [Value.oneCell']) rfl (by omega) (by exact hs7) ?_); intro v13 w13 hown13 hg13 _; have D13 := HD7.out.app ((Below.refl w.heap.size _).grown hg13 hs7 (fun k hk => (HO7.out.lt k hk).1)) (Nat.le_refl _); have HD13 := Lib.hid D13; have HO13 := Lib.hid hown13; clear hown13 hg13 D13)
        go_ret
        refine ⟨_, xs ++ [⟨6, 1 + k6, 0, 0⟩, ⟨6, 1 + k7, 0, 0⟩, ⟨6, 1, 0, 0⟩], q + 2, rfl, ?_, by simp; omega, HD13.out.grown, HD13.out.rd, by omega⟩
        exact SlA.of_own (n := xs.length + 3) (own_eq HO13.out rfl (by simp [insR, In4.cells])) (by simp [insR]) (insR_rows _)
end Go.Proofs.YteflnpejhhkchaaGreatDoor
