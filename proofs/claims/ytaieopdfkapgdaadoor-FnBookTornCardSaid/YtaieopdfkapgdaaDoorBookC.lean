/- The program's books: BookCount. -/
import Derived.Test.YtaieopdfkapgdaaDoorBookS
namespace Go.Proofs.YtaieopdfkapgdaaDoor
open Go.RowKit
set_option linter.unusedSimpArgs false
set_option linter.unusedVariables false

/-- How far a pointer lies. -/
def ptrAt : Value → Nat
  | .pointer (some a) => a.block + 1
  | _ => 0
theorem Pages.at {w : World} {lo hi : Nat} {lns : List Ln} {v : Value} (h : Pages w lo hi lns v) : ptrAt v ≤ hi := by
  cases h with
  | nil _ h => exact Nat.zero_le _
  | cons h ho hg hp hb => exact hp
theorem cnt_cons (gate verdict : Int) (b : List Ln) (ln : Ln) : cnt gate verdict (ln :: b) = cnt gate verdict b + if ln.told.gate = gate ∧ ln.told.verdict = verdict then 1 else 0 := by
  unfold cnt
  by_cases h1 : ln.told.gate = gate <;> by_cases h2 : ln.told.verdict = verdict <;> simp [List.filter_cons, h1, h2]

set_option maxRecDepth 100000 in
set_option maxHeartbeats 4000000 in
theorem BookCount_any (v : Value) (b : List Ln) (gate verdict : Int) (w : World) (hpw : Pow w) (hkw : Kww w) (hb : BookIs w v b) :
    Calls Tryd.prog 17 #[v, .int .i64 gate, .int .i64 verdict] w fun e w' => e = .returned (.int .i64 (bookCount gate verdict b)) ∧ Below w.heap.size w w' := by
  have HB0 := Lib.hid hb
  obtain ⟨A, n, c, css, rfl, hA, hcl, hli⟩ := hb
  clear hA hli hcl
  go_enter Tryd.func17, Tryd.ntmps17
  go_wp2_with fail
  refine (openBook_any _ b _ hpw hkw HB0.out).mono ?_
  rintro e w1 ⟨hb1, ⟨hok, v1, rfl, hp⟩ | ⟨hno, rfl⟩⟩
  · have HC := Lib.hid (show bookCount gate verdict b = ((cnt gate verdict b.reverse : Nat) : Int) by unfold bookCount; rw [if_pos (bookOkB_iff.2 hok), cnt_rev])
    have hlen : b.reverse.length ≤ 40 := by rw [List.length_reverse]; exact hok.2
    obtain ⟨pp, rfl⟩ := hp.ptr
    have HP := Lib.hid hp
    have HL := Lib.hid hlen
    clear hok hp hlen
    go_wp2
    go_loop [9, 10] (fun m at_ => ∃ (z : Nat) (rest : List Ln) (hi : Nat), m = .int .i64 z ∧ z + rest.length ≤ 40 ∧ (∃ pp, at_ = .pointer pp) ∧ Hid (Pages w1 w.heap.size hi rest at_ ∧ z + cnt gate verdict rest = cnt gate verdict b.reverse)) (fun _ at_ => ptrAt at_)
    case atStart => exact ⟨0, b.reverse, _, rfl, by rw [Nat.zero_add]; exact HL.out, ⟨_, rfl⟩, Lib.hid ⟨HP.out, Nat.zero_add _⟩⟩
    case round =>
      obtain ⟨z, rest, hi, rfl, hz, ⟨pp, rfl⟩, HR⟩ := hrel
      obtain ⟨hR, hcn⟩ := HR.out
      clear HR
      cases hR with
      | nil _ h =>
        have HCN := Lib.hid hcn
        clear hcn h
        go_wp2
        go_ret
        exact ⟨ret_int (by rw [HC.out, ← HCN.out]; simp [cnt]), hb1⟩
      | @cons q _ p g c5 lns ov ln h ho hg hp hbk =>
        have c0 := (show _ = some (Value.int .i64 ln.told.gate) from hbk.cell 0)
        have c4 := (show _ = some (Value.int .i64 ln.told.verdict) from hbk.cell 4)
        have c7 := (show _ = some ov from hbk.cell 7)
        obtain ⟨po, rfl⟩ := h.ptr
        have hqg : q ≤ g := by
          obtain ⟨g', c', e, h1, _⟩ := ho.form (by omega)
          injection e with e; injection e with e; injection e with e
          omega
        have hms := h.at
        have HMS := Lib.hid (show ptrAt (.pointer po) < ptrAt (.pointer (some ⟨p, 0, none⟩)) from Nat.lt_of_le_of_lt hms (show q < p + 1 by omega))
        rw [cnt_cons] at hcn
        have HCN := Lib.hid hcn
        have H := Lib.hid h
        obtain ⟨⟨gt, ep, nm, xs, vd⟩, sm⟩ := ln
        simp only at c0 c4
        simp only [List.length_cons] at hz
        clear hcn h ho hg hp hbk hqg hms
        by_cases h1 : gt = gate
        · have d1 : (gt == gate) = true := by simpa using h1
          have H1 := Lib.hid h1
          clear h1
          by_cases h2 : vd = verdict
          · have d2 : (vd == verdict) = true := by simpa using h2
            have H2 := Lib.hid h2
            clear h2
            go_wp2
            refine ⟨⟨z + 1, lns, q, by go_num, by omega, ⟨_, rfl⟩, Lib.hid ⟨H.out, ?_⟩⟩, HMS.out⟩
            have := HCN.out
            rw [if_pos ⟨H1.out, H2.out⟩] at this
            omega
          · have d2 : (vd == verdict) = false := by simpa using h2
            have H2 := Lib.hid h2
            clear h2
            go_wp2
            refine ⟨⟨z, lns, q, rfl, by omega, ⟨_, rfl⟩, Lib.hid ⟨H.out, ?_⟩⟩, HMS.out⟩
            have := HCN.out
            rw [if_neg (fun h => H2.out h.2)] at this
            omega
        · have d1 : (gt == gate) = false := by simpa using h1
          have H1 := Lib.hid h1
          clear h1
          go_wp2
          refine ⟨⟨z, lns, q, rfl, by omega, ⟨_, rfl⟩, Lib.hid ⟨H.out, ?_⟩⟩, HMS.out⟩
          have := HCN.out
          rw [if_neg (fun h => H1.out h.1)] at this
          omega
  · have HC := Lib.hid (show bookCount gate verdict b = 0 by unfold bookCount; rw [if_neg (fun h => hno (bookOkB_iff.1 h))])
    clear hno
    go_wp2
    go_ret
    exact ⟨ret_int HC.out.symm, hb1⟩
end Go.Proofs.YtaieopdfkapgdaaDoor
