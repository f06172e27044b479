/- Joined texts: FrameV Door DoorF. -/
import Derived.Test.YtdjgicapbpoigaaGreatDoorFrame
import Derived.ChangeVars
import Derived.Test.YtdjgicapbpoigaaGreatDoorLinesI
import Derived.Test.YtdjgicapbpoigaaGreatDoorCards
import Derived.Test.YtdjgicapbpoigaaGreatDoorTie
import Derived.Deep.DeepHandedRow
import Derived.LaidSub
import Derived.MakeChecks
import Derived.Test.YtdjgicapbpoigaaGreatDoorGoodIB
import Derived.LaidHandle
-- What every law's last step shares where its row names package-level variables: a call that returns true and leaves what was there as it was meets the given row.
namespace Go.Proofs.YtdjgicapbpoigaaGreatDoor
open Go.RowKit Go.WideShapes Go.ChangeShapes Go.ChangeAt
set_option linter.unusedSimpArgs false
set_option linter.unusedVariables false

section
variable {H : Type} {enc : TypeId × Value → H} {P : Program}

theorem var_below {W W' : World} {n : String} {cs : Array Value} (hb : Below W.heap.size W W') (h : W.var? P n = some cs) : W'.var? P n = some cs := by
 unfold World.var? at h ⊢
 cases hg : P.globalNamed n with
 | none => simp [hg] at h
 | some g =>
   simp only [hg, Option.bind_some] at h ⊢
   by_cases hlt : g < W.heap.size
   · rw [hb.block g hlt]; exact h
   · rw [Array.getElem?_eq_none (by omega)] at h
     simp at h

theorem trodVars_stay (hl : laidOutB P = true) {W W' : World} (hb : Below W.heap.size W W') {sp : Nat → Bool} : ∀ (ns : List String) (gs : List (DataW H)) (ps : List MemPlace),
   (ns.all fun n => match (P.globalNamed n).bind fun g => (P.globals[g]?).map (·.type) with | some t => P.readableRec t && decide (t < P.types.size) | none => true) = true →
   DataW.TrodVars enc P W (fun _ => true) ns gs ps → (∀ x ∈ ps, W.sameAt W' x) → (∀ x ∈ ps, sp x.block = true) → DataW.TrodVars enc P W' sp ns gs ps
 | [], [], ps, _, h, _, _ => h
 | n :: ns, d :: ds, ps, hr, h, hs, hp => by
   obtain ⟨g, t, cs, fuel, p, q, h1, h2, h3, h4, h5, rfl⟩ := h
   simp only [List.all_cons, Bool.and_eq_true] at hr
   obtain ⟨hr1, hr2⟩ := hr
   simp only [h1, Option.bind_some, h2, Bool.and_eq_true, decide_eq_true_eq] at hr1
   have hk : DataW.Trod enc P W 0 (fun _ => true) true t (.agg cs) d p := ⟨fuel, h4⟩
   obtain ⟨fuel', h4'⟩ := WideElems.Trod_stays hl hr1.1 hr1.2 hk (fun x hx => hs x (by simp [hx])) (fun x hx => hp x (by simp [hx]))
   exact ⟨g, t, cs, fuel', p, q, h1, h2, var_below hb h3, h4', trodVars_stay hl hb ns ds q hr2 h5 (fun x hx => hs x (by simp [hx])) (fun x hx => hp x (by simp [hx])), rfl⟩
 | [], _ :: _, _, _, h, _, _ => h.elim
 | _ :: _, [], _, _, h, _, _ => h.elim

theorem law_postV {f : Func} {s : ChangeSpec} {W W' : World} {args : Array Value} {ds gs : List (DataW H)} {before : List MemPlace} {tb : TypeId}
   (hl : laidOutB P = true) (hr : (f.params.toList.all fun t => P.readableRec t && decide (t < P.types.size)) = true)
   (hv : (s.vars.all fun n => match (P.globalNamed n).bind fun g => (P.globals[g]?).map (·.type) with | some t => P.readableRec t && decide (t < P.types.size) | none => true) = true)
   (hres : f.resultTypes = #[tb]) (hb1 : P.underlying tb = some .bool)
   (hfn : s.fn H (ds ++ gs) = { results := [.lit (.bool true)], args := ds, vars := gs })
   (hW : DataW.Whole enc P f.params.toList s.vars false W args.toList ds gs before) (hb : Below W.heap.size W W') :
   s.post enc P f false true false false W args (.bool true) W' := by
 have hlt : ∀ p ∈ before, p.block < W.heap.size := fun p hp => hW.lt p hp
 have hW0 := hW
 obtain ⟨p, q, hA, hV, rfl, hz, hn⟩ := hW
 have hargs : ∀ sp : Nat → Bool, (∀ x ∈ p, sp x.block = true) → DataW.TrodAll enc P W' 0 sp true f.params.toList args.toList ds p := fun sp hsp =>
   trodAll_stay hl _ _ _ _ hr hA (fun x hx => hb.same (hlt x (by simp [hx]))) hsp
 have hresult : ∀ (b : Nat) (sp : Nat → Bool) (hd : Bool), DataW.TrodAll enc P W' b sp hd f.resultTypes.toList ((Value.bool true).resultList f.resultTypes.size) [.lit (.bool true)] [] := fun b sp hd => by
   rw [hres]
   exact trodAll_mk1 (shut_bool hb1 true)
 have hvars : ∀ sp : Nat → Bool, (∀ x ∈ q, sp x.block = true) → DataW.TrodVars enc P W' sp s.vars gs q := fun sp hsp =>
   trodVars_stay hl hb _ _ _ hv hV (fun x hx => hb.same (hlt x (by simp [hx]))) hsp
 refine ⟨ds, gs, p ++ q, [], p, q, hW0, by simpa [hfn] using hresult _ _ _, by simpa [hfn] using hargs _ (fun x hx => by simpa using hlt x (by simp [hx])), by simpa [hfn] using hvars _ (fun x hx => by simpa using hlt x (by simp [hx])), World.keptBut_mono (fun x hx => ⟨hx, Or.inr (by simpa using hx)⟩) (hb.frame (· ∈ p ++ q)), fun h => by cases h⟩
end
end Go.Proofs.YtdjgicapbpoigaaGreatDoor

-- What every law's last step shares where its row lists tables of integers: the world that holds them, and what the row's list gives.
namespace Go.Proofs.YtdjgicapbpoigaaGreatDoor
open Go.RowKit Go.WideShapes Go.ChangeShapes Go.ChangeAt
set_option linter.unusedSimpArgs false
set_option linter.unusedVariables false

end Go.Proofs.YtdjgicapbpoigaaGreatDoor

-- What a law's row gives where it lists the library's tables and the handle errors.errorType; and a world that holds them.
namespace Go.Proofs.YtdjgicapbpoigaaGreatDoor
open Go.RowKit Go.WideShapes Go.ChangeShapes Go.ChangeAt
set_option linter.unusedSimpArgs false
set_option linter.unusedVariables false

theorem laidMetH_split {P : Program} {l hs : List (String × DataW Unit)} {W : World} {x : String × DataW Unit} (h : laidMetH P l W) (hf : (l.filter fun x => x.2.handleName?.isSome) = x :: hs) :
   laidMet P (l.filter fun x => x.2.handleName?.isNone) W ∧ handlesMet P (x :: hs) W := by
 unfold laidMetH at h
 rw [hf] at h
 exact h
theorem pow_of_laidE {l : List (String × DataW Unit)} {W : World} (h : laidMet Tryz.prog l W)
   (hf : l.filter (fun x => x.1 == "internal/strconv.uint64pow10") = [("internal/strconv.uint64pow10", Lib.tabData .u64 Lib.pow10Tab)]) : Pow W := by
 have h1 := h.filter (fun x => x.1 == "internal/strconv.uint64pow10")
 rw [hf] at h1
 exact Lib.tabIs_of_head (g := 4) (n := 20) (rest := []) (by kernel_rfl) (by kernel_rfl) Tryz.underlying273 Tryz.underlying263 (by kernel_rfl) (by kernel_rfl) h1
theorem etGlob : Tryz.prog.globalNamed "errors.errorType" = some 0 := by kernel_rfl
theorem etRt : (Tryz.prog.cutTypes.find? (·.1 == "internal/reflectlite.rtype")).map (·.2) = some 174 := by kernel_rfl
theorem etSize : Tryz.prog.types.size = 308 := by kernel_rfl
theorem etRow : ((List.range 308).filter fun t => Tryz.prog.rowNamed t [101, 114, 114, 111, 114]) = [48] := by kernel_rfl
theorem et_of_handles {W : World} {hs : List (String × DataW Unit)} (h : handlesMet Tryz.prog (("errors.errorType", .iface "internal/reflectlite.rtype" (.agg [.ptr (.lit (.string [101, 114, 114, 111, 114]))])) :: hs) W) : EtIs W := by
 obtain ⟨name, u, ty, e1, e2, e3, e4, e5⟩ := h _ (List.mem_cons_self)
 have en : name = [101, 114, 114, 111, 114] := (Option.some.inj e1).symm
 subst en
 obtain rfl := Option.some.inj (etRt.symm.trans e2)
 have hm : ty ∈ (List.range 308).filter fun t => Tryz.prog.rowNamed t [101, 114, 114, 111, 114] := List.mem_filter.2 ⟨List.mem_range.2 (by rw [← etSize]; exact e3), e4⟩
 rw [etRow] at hm
 obtain rfl := List.mem_singleton.1 hm
 have hh : typeHandle Tryz.prog 48 = .pointer (some ⟨7, 48, none⟩) := by kernel_rfl
 rw [hh] at e5
 have := World.var?_cell etGlob e5 0
 unfold EtIs
 simpa using this

end Go.Proofs.YtdjgicapbpoigaaGreatDoor
