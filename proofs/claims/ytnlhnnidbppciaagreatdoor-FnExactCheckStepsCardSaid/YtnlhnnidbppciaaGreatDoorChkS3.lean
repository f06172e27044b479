/- spec's check: what is known, with a look more. -/
import Derived.Test.YtnlhnnidbppciaaGreatDoorChkS2
namespace Go.Proofs.YtnlhnnidbppciaaGreatDoor
open Go.RowKit
set_option linter.unusedSimpArgs false
set_option linter.unusedVariables false

theorem info_Kn : (Tryz.prog.info? 253).map (fun i => (i.zero, i.size, i.bytes)) = some (some (.agg #[.int .i64 0, .int .i64 0, .int .i64 0, .int .i64 0, .bool false]), 5, 40) := by kernel_rfl
theorem kn_one (l : List (Lk × Bool)) : ∀ u ∈ (knR l).flatten, u.oneCell' = true := fun u hu => by
  obtain ⟨r, hr, h⟩ := List.mem_flatten.1 hu
  obtain ⟨x, _, rfl⟩ := List.mem_map.1 hr
  simp [knC] at h
  rcases h with rfl | rfl | rfl | rfl | rfl <;> rfl
theorem knC_one (x : Lk × Bool) : ∀ u ∈ knC x, u.oneCell' = true := fun u h => by
  simp [knC] at h
  rcases h with rfl | rfl | rfl | rfl | rfl <;> rfl
theorem SlA.flatAt {w : World} {size b off n c : Nat} {cs : List (List Value)} (h : SlA w size (some ⟨b, off, none⟩) n c cs) (hs : ∀ r ∈ cs, r.length = size) {j : Nat} {u : Value} (hj : cs.flatten[j]? = some u) : b < w.heap.size ∧ w.cell? ⟨b, off + j, none⟩ = some u := by
  have hl := (List.getElem?_eq_some_iff.1 hj).1
  rw [flat_len cs hs] at hl
  have hz : 0 < size := Nat.pos_of_ne_zero (fun e => by subst e; simp at hl)
  have hk : j / size < cs.length := (Nat.div_lt_iff_lt_mul hz).2 hl
  have hn : 0 < n := h.len ▸ Nat.lt_of_le_of_lt (Nat.zero_le _) hk
  obtain ⟨b', off', e, hb, hel⟩ := h.at_ hn
  cases e
  have hr : cs[j / size]? = some (cs[j / size]'hk) := List.getElem?_eq_getElem hk
  have hrl := hs _ (List.getElem_mem (l := cs) (n := j / size) hk)
  have hi : j % size < (cs[j / size]'hk).length := by rw [hrl]; exact Nat.mod_lt _ hz
  have hv := List.getElem?_eq_getElem hi
  have h1 := flat_get cs hs _ _ hr _ _ hv
  have e2 : j / size * size + j % size = j := by rw [Nat.mul_comm]; exact Nat.div_add_mod j size
  rw [e2, hj] at h1
  have h2 := hel _ _ hr _ _ hv
  rw [← Option.some.inj h1, Nat.add_assoc, e2] at h2
  exact ⟨hb, h2⟩
theorem own_empty {W : World} {g base : Nat} {t : TypeId} {size : Nat} (h : Blk W g t #[]) (hb : base ≤ g) : W.ownsRow base t size (.slice (some ⟨g, 0, none⟩) 0 0) 0 [] :=
  ⟨by simp, .inr ⟨g, 0, #[], rfl, hb, h, Nat.le_refl _, Nat.zero_le _, by simp, by simp⟩⟩
/-- 'append(x, y...)' inside a region. -/
theorem step_ownK {P : Program} {w : World} {ops : Array Oper} {o : Oper} {a : Act} {K : Act → World → Prop} {Q : Exit → Act → World → Prop} {E : Prop} (hgd : o.guard = none) (s x : Operand) (t : TypeId)
    (ho : o.op = .call { callee := .builtin .append, args := #[s, x], argTypes := #[t, t] })
    (base : Nat) (e : TypeId) {z : Value} {size bytes : Nat} (ht : P.underlying t = some (.slice e)) (hinfo : (P.info? e).map (fun i => (i.zero, i.size, i.bytes)) = some (some z, size, bytes))
    (hzs : z.cells.size = size) (hsz : 0 < size) (hby : 0 < bytes)
    (v : Value) (n : Nat) (xs : List Value) (hs : a.eval s = v) (hown : w.ownsRow base e size v n xs)
    (ad : Addr) (m c : Nat) (news : List Value) (hx : a.eval x = .slice (some ad) m c) (hl : news.length = m * size) (hnews : ∀ j u, news[j]? = some u → w.cell? (ad.add j) = some u) (h1 : ∀ u ∈ news, u.oneCell' = true)
    (hn : (n + m) * bytes ≤ 140737488355328) (hbase : base ≤ w.heap.size)
    (h : ∀ v' w', w'.ownsRow base e size v' (n + m) (xs ++ news) → w.grownBy w' v.ownBlock → K (a.put o.dst v') w') :
    if Region.wanted o (yielded ops a.tmps) = true then Oper.wp P o a w K Q else E := by
  have hw : Region.wanted o (yielded ops a.tmps) = true := by simp [Region.wanted, hgd]
  rw [if_pos hw]
  obtain ⟨i0, hi0, hz0, hz1, hz2⟩ := info_parts hinfo
  have hn1 : n + m ≤ 140737488355328 := Nat.le_trans (Nat.le_mul_of_pos_right _ hby) hn
  exact wp_append_own w s x t ho base e i0 z size bytes ht hi0 hz0 hz1 hz2 hzs hsz v n xs hs hown ad m c news hx hl hnews h1 (by unfold maxLen; omega) hn hbase (fun v' w' a b _ => h v' w' a b)

set_option maxHeartbeats 2000000 in
theorem l6With_any (b off n c : Nat) (l : List (Lk × Bool)) (q : Lk) (qh h : Bool) (w : World) (hl : SlA w 5 (some ⟨b, off, none⟩) n c (knR l)) (hn9 : n ≤ 100000) :
    Calls Tryz.prog 202 #[.slice (some ⟨b, off, none⟩) n c, .agg #[.int .i64 q.field, .int .i64 q.mask, .int .i64 q.op, .int .i64 q.value, .bool qh], .bool h] w fun e w' =>
      ∃ v', e = .returned v' ∧ w'.ownsRow w.heap.size 253 5 v' (n + 1) (knR (l ++ [(q, h)])).flatten ∧ Below w.heap.size w w' := by
  obtain ⟨qf, qm, qo, qv⟩ := q
  simp only
  have hlen : l.length = n := by have := hl.len; rwa [knR_len] at this
  have HX1 := Lib.hid (show ∀ (W : World), Below w.heap.size w W → ∀ (j : Nat) (u : Value), (knR l).flatten[j]? = some u → W.cell? ((⟨b, off, none⟩ : Addr).add j) = some u from fun W hb j u hj => by
    obtain ⟨h1, h2⟩ := hl.flatAt (knR_rows l) hj
    have e : (⟨b, off, none⟩ : Addr).add j = ⟨b, off + j, none⟩ := by unfold Addr.add; split <;> simp_all
    rw [e]
    exact (hb.cell (p := ⟨b, off + j, none⟩) h1).trans h2)
  have HL2 := Lib.hid (show (knR l).flatten.length = n * 5 by rw [flat_len _ (knR_rows l), knR_len, hlen])
  have hm := hl.max
  unfold maxLen at hm
  have HKR := Lib.hid (show (knR (l ++ [(⟨qf, qm, qo, qv⟩, h)])).flatten = (knR l ++ [knC (⟨qf, qm, qo, qv⟩, h)]).flatten by rw [knR_snoc])
  clear hl hlen
  obtain ⟨X, hX⟩ : ∃ X, X = w.alloc (.cells #[.int .i64 qf, .int .i64 qm, .int .i64 qo, .int .i64 qv, .bool h] 253) := ⟨_, rfl⟩
  have hbX : Below w.heap.size w X := by rw [hX]; go_grown
  have hzX : X.heap.size = w.heap.size + 1 := by rw [hX]; simp
  have BX : Blk X w.heap.size 253 #[.int .i64 qf, .int .i64 qm, .int .i64 qo, .int .i64 qv, .bool h] := by rw [hX]; exact Blk.new _ _ _
  have HX := Lib.hid hX; have HBX := Lib.hid BX; have HZX := Lib.hid hzX
  have hlX : w.heap.size < X.heap.size := by omega
  clear hX BX hzX
  go_enter Tryz.func202, Tryz.ntmps202
  go_wp2
  rw [← HX.out]
  have b0 := (show _ = some (Value.int .i64 qf) from HBX.out.cell 0); have b1 := (show _ = some (Value.int .i64 qm) from HBX.out.cell 1); have b2 := (show _ = some (Value.int .i64 qo) from HBX.out.cell 2); have b3 := (show _ = some (Value.int .i64 qv) from HBX.out.cell 3); have b4 := (show _ = some (Value.bool h) from HBX.out.cell 4)
  go_region_law (first
    | (refine step_ownK (w := (X.alloc (.cells #[] 253)).drew) rfl (.tmp 9) (.tmp 10) _ rfl X.heap.size 253 Tryz.underlying150 info_Kn rfl (by omega) (by omega) (.slice (some ⟨X.heap.size, 0, none⟩) 0 0) 0 [] rfl (own_empty (Blk.new X _ _).drew (Nat.le_refl _)) ⟨b, off, none⟩ n c (knR l).flatten rfl HL2.out (HX1.out _ (by go_grown)) (kn_one l) (by omega) (by simp) ?_; intro v2 W2 hown2 hg2; have hb2 : Below X.heap.size X W2 := ((Below.refl X.heap.size X).alloc (Nat.le_refl _) _).drew.grown hg2 (by simp) (fun k hk => by simp [Value.ownBlock] at hk; omega); have Y := HBX.out.below hb2 hlX; have y0 := (show _ = some (Value.int .i64 qf) from Y.cell 0); have y1 := (show _ = some (Value.int .i64 qm) from Y.cell 1); have y2 := (show _ = some (Value.int .i64 qo) from Y.cell 2); have y3 := (show _ = some (Value.int .i64 qv) from Y.cell 3); have y4 := (show _ = some (Value.bool h) from Y.cell 4); have HO2 := Lib.hid hown2; have hz2 := hb2.size; clear hown2 hg2 Y)
    | (refine step_app0g (w0 := W2) rfl (.tmp 11) (.tmp 13) _ rfl X.heap.size 253 Tryz.underlying150 info_Kn rfl (by omega) (by omega) v2 n (knR l) rfl (by have := HO2.out; simp only [Nat.zero_add, List.nil_append] at this; exact this) rfl (by simp [Value.oneCell']) rfl (by omega) (by omega) ?_; intro v3 W3 hown3 hg3 _)
    | (refine step_ownK (w := ((X.alloc (.cells #[] 253)).alloc (.cells #[.int .i64 qf, .int .i64 qm, .int .i64 qo, .int .i64 qv, .bool h] 253)).drew) rfl (.tmp 9) (.tmp 10) _ rfl X.heap.size 253 Tryz.underlying150 info_Kn rfl (by omega) (by omega) (.slice (some ⟨X.heap.size, 0, none⟩) 0 0) 0 [] rfl (own_empty (((Blk.new X _ _).alloc _).drew) (by omega)) ⟨b, off, none⟩ n c (knR l).flatten rfl HL2.out (HX1.out _ (by go_grown)) (kn_one l) (by omega) (by simp; omega) ?_; intro v2 W2 hown2 hg2; have hb2 : Below X.heap.size X W2 := (show Below X.heap.size X (((X.alloc (.cells #[] 253)).alloc (.cells #[.int .i64 qf, .int .i64 qm, .int .i64 qo, .int .i64 qv, .bool h] 253)).drew) by go_grown).grown hg2 (by simp; omega) (fun k hk => by simp [Value.ownBlock] at hk; omega); have Y : Blk W2 (X.heap.size + 1) 253 #[.int .i64 qf, .int .i64 qm, .int .i64 qo, .int .i64 qv, .bool h] := ((show Blk (((X.alloc (.cells #[] 253)).alloc (.cells #[.int .i64 qf, .int .i64 qm, .int .i64 qo, .int .i64 qv, .bool h] 253)).drew) (X.heap.size + 1) 253 #[.int .i64 qf, .int .i64 qm, .int .i64 qo, .int .i64 qv, .bool h] from by have := (Blk.new (X.alloc (.cells #[] 253)) 253 #[.int .i64 qf, .int .i64 qm, .int .i64 qo, .int .i64 qv, .bool h]).drew; simpa using this)).grown hg2 (by simp [Value.ownBlock]); have HY := Lib.hid Y; have HO2 := Lib.hid hown2; have hz2 := hb2.size; clear hown2 hg2 Y)
    | (refine step_ownK (w := ((X.alloc (.cells #[.int .i64 qf, .int .i64 qm, .int .i64 qo, .int .i64 qv, .bool h] 253)).alloc (.cells #[] 253)).drew) rfl (.tmp 9) (.tmp 10) _ rfl X.heap.size 253 Tryz.underlying150 info_Kn rfl (by omega) (by omega) (.slice (some ⟨X.heap.size + 1, 0, none⟩) 0 0) 0 [] rfl (own_empty (by have := (Blk.new (X.alloc (.cells #[.int .i64 qf, .int .i64 qm, .int .i64 qo, .int .i64 qv, .bool h] 253)) 253 #[]).drew; simpa using this) (by omega)) ⟨b, off, none⟩ n c (knR l).flatten rfl HL2.out (HX1.out _ (by go_grown)) (kn_one l) (by omega) (by simp; omega) ?_; intro v2 W2 hown2 hg2; have hb2 : Below X.heap.size X W2 := (show Below X.heap.size X (((X.alloc (.cells #[.int .i64 qf, .int .i64 qm, .int .i64 qo, .int .i64 qv, .bool h] 253)).alloc (.cells #[] 253)).drew) by go_grown).grown hg2 (by simp; omega) (fun k hk => by simp [Value.ownBlock] at hk; omega); have Y : Blk W2 (X.heap.size) 253 #[.int .i64 qf, .int .i64 qm, .int .i64 qo, .int .i64 qv, .bool h] := ((show Blk (((X.alloc (.cells #[.int .i64 qf, .int .i64 qm, .int .i64 qo, .int .i64 qv, .bool h] 253)).alloc (.cells #[] 253)).drew) X.heap.size 253 #[.int .i64 qf, .int .i64 qm, .int .i64 qo, .int .i64 qv, .bool h] from ((Blk.new X _ _).alloc _).drew)).grown hg2 (by simp [Value.ownBlock]); have HY := Lib.hid Y; have HO2 := Lib.hid hown2; have hz2 := hb2.size; clear hown2 hg2 Y)
    | (refine step_ownK (w := W2) rfl (.tmp 11) (.tmp 13) _ rfl X.heap.size 253 Tryz.underlying150 info_Kn rfl (by omega) (by omega) v2 n (knR l).flatten rfl (by have := HO2.out; simp only [Nat.zero_add, List.nil_append] at this; exact this) ⟨X.heap.size + 1, 0, none⟩ 1 1 (knC (⟨qf, qm, qo, qv⟩, h)) rfl rfl (fun j u hj => by have e : (⟨X.heap.size + 1, 0, none⟩ : Addr).add j = ⟨X.heap.size + 1, j, none⟩ := add_at _ _; rw [e, HY.out.cell j]; simpa [knC] using hj) (knC_one _) (by omega) (by omega) ?_; intro v3 W3 hown3 hg3)
    | (refine step_ownK (w := W2) rfl (.tmp 11) (.tmp 13) _ rfl X.heap.size 253 Tryz.underlying150 info_Kn rfl (by omega) (by omega) v2 n (knR l).flatten rfl (by have := HO2.out; simp only [Nat.zero_add, List.nil_append] at this; exact this) ⟨X.heap.size, 0, none⟩ 1 1 (knC (⟨qf, qm, qo, qv⟩, h)) rfl rfl (fun j u hj => by have e : (⟨X.heap.size, 0, none⟩ : Addr).add j = ⟨X.heap.size, j, none⟩ := add_at _ _; rw [e, HY.out.cell j]; simpa [knC] using hj) (knC_one _) (by omega) (by omega) ?_; intro v3 W3 hown3 hg3))
  all_goals
    have hb3 : Below X.heap.size X W3 := hb2.grown hg3 hz2 (fun k hk => (HO2.out.lt k hk).1)
    have hbw := hbX.trans (hb3.mono (by omega))
    have HO3 := Lib.hid hown3
    clear hown3 hg3
    go_wp2
    go_ret
    exact ⟨v3, rfl, own_base (by rw [HKR.out]; have := HO3.out; simp only [List.flatten_append, List.flatten_cons, List.flatten_nil, List.append_nil] at this ⊢; exact this) (by omega), hbw⟩
end Go.Proofs.YtnlhnnidbppciaaGreatDoor
