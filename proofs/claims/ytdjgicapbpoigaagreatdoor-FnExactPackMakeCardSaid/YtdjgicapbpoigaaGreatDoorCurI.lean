/- impl's cursor on a line that is one: need, word, verdict. -/
import Derived.Test.YtdjgicapbpoigaaGreatDoorReaderN
import Derived.Test.YtdjgicapbpoigaaGreatDoorPolK
namespace Go.Proofs.YtdjgicapbpoigaaGreatDoor
open Go.RowKit
set_option linter.unusedSimpArgs false
set_option linter.unusedVariables false

abbrev TCur : TypeId := 93
structure Cur (w w' : World) (g : Nat) (line : Int) (t : List UInt8) : Prop where
 blk : Blk w' g TCur #[.string ⟨t.toArray⟩, .int .i64 line]
 grown : w.grownBy w' (some g)
theorem Cur.start {w : World} {g : Nat} {line : Int} {t : List UInt8} (h : Blk w g TCur #[.string ⟨t.toArray⟩, .int .i64 line]) : Cur w w g line t := ⟨h, World.grownBy.refl _ _⟩
theorem Cur.to {w w' : World} {g : Nat} {line : Int} {t t' : List UInt8} (h : Cur w w' g line t) : Cur w (w'.setCell ⟨g, 0, none⟩ (.string ⟨t'.toArray⟩)) g line t' :=
 ⟨h.blk.set_ 0 _, h.grown.trans (grown_set _ _ _ _)⟩
theorem Cur.same {w w' : World} {g : Nat} {line : Int} {t : List UInt8} {s : ByteArray} (h : Cur w w' g line t) (hs : s.data.toList = t) : Cur w (w'.setCell ⟨g, 0, none⟩ (.string s)) g line t := by
 have e : s = ⟨t.toArray⟩ := by rw [← hs]
 rw [e]
 exact h.to
theorem Cur.trans {w w1 w2 : World} {g : Nat} {line : Int} {t t' : List UInt8} (h : Cur w w1 g line t) (k : Cur w1 w2 g line t') : Cur w w2 g line t' := ⟨k.blk, h.grown.trans k.grown⟩
theorem Cur.next {w w1 w2 : World} {g : Nat} {line : Int} {t : List UInt8} (h : Cur w w1 g line t) (hb : Below w1.heap.size w1 w2) : Cur w w2 g line t := ⟨h.blk.below hb h.blk.lt, h.grown.trans (grown_of_below hb _)⟩

theorem need_yes (p : Value) (w : World) : Calls Tryz.prog 42 #[p, .bool true] w fun e w' => e = .returned (.tuple #[]) ∧ w = w' := by
 go_enter Tryz.func42, Tryz.ntmps42
 go_wp2
 first
   | go_end0
   | refine bodyPost_ret (results_none rfl _ _ _) rfl ?_
 exact ⟨rfl, rfl⟩
theorem word_yes (g : Nat) (line : Int) (t r : List UInt8) (v : Int) (w : World) (h : Blk w g TCur #[.string ⟨t.toArray⟩, .int .i64 line]) (hn : NumAt 4294967295 t v r) (hl : t.length ≤ 10000) :
   Calls Tryz.prog 76 #[.pointer (some ⟨g, 0, none⟩)] w fun e w' => e = .returned (.int .i64 v) ∧ w' = w.setCell ⟨g, 0, none⟩ (.string ⟨r.toArray⟩) := by
 have HN := Lib.hid hn
 have x0 := (show _ = some (Value.string ⟨t.toArray⟩) from h.cell 0); have f0 := h.frozen 0
 clear hn h
 go_enter Tryz.func76, Tryz.ntmps76
 go_wp2_with fail
 refine (number_any 4294967295 ⟨t.toArray⟩ g 0 w x0 f0 (by show t.toArray.size ≤ _; simp; omega) (by omega) (by omega)).mono ?_
 rintro e w1 (⟨v1, r1, h1, rfl, rfl⟩ | ⟨h1, -, -⟩)
 · obtain ⟨rfl, rfl⟩ := h1.unique (show NumAt 4294967295 (⟨t.toArray⟩ : ByteArray).data.toList v r from HN.out)
   go_wp2_with (go_at_call 42; refine (need_yes _ _).mono ?_; rintro e w2 ⟨rfl, rfl⟩)
   go_ret
   exact ⟨rfl, rfl⟩
 · exact absurd ⟨v, r, HN.out⟩ h1
end Go.Proofs.YtdjgicapbpoigaaGreatDoor
