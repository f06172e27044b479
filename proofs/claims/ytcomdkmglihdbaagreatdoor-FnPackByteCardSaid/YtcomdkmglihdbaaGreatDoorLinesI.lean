/- Joined texts: Builder Itoa Lines CodeWI. -/
import Derived.Test.YtcomdkmglihdbaaGreatDoorKit
import Derived.Test.YtcomdkmglihdbaaGreatDoorShelf
import Derived.Lib.Walk
import Derived.Lib.Builder
import Derived.Lib.AppendStr
import Derived.Lib.UnsafeStr
import Derived.Laws.Externs
import Derived.Lib.OthersKept
import Derived.Lib.LaidTab
import Derived.Lib.AppendIntMem
import Derived.Test.YtcomdkmglihdbaaGreatDoorCodeWA
-- (*strings.Builder).WriteString, at a builder that the caller owns.
namespace Go.Proofs.YtcomdkmglihdbaaGreatDoor
open Go.RowKit
set_option linter.unusedSimpArgs false
set_option linter.unusedVariables false

theorem info_byte : (Tryz.prog.info? 5).map (fun i => (i.zero, i.size, i.bytes)) = some (some (.int .u8 0), 1, 1) := by kernel_rfl

end Go.Proofs.YtcomdkmglihdbaaGreatDoor

-- strconv.Itoa, called in a world that holds the library's table of powers of ten.
namespace Go.Proofs.YtcomdkmglihdbaaGreatDoor
open Go.RowKit Go.Sort
set_option linter.unusedSimpArgs false
set_option linter.unusedVariables false

/-- The world holds the table of powers of ten. -/
def Pow (w : World) : Prop := Lib.TabIs Tryz.prog w "internal/strconv.uint64pow10" .u64 Lib.pow10Tab
theorem powGlob : ∃ g, Tryz.prog.globalNamed "internal/strconv.uint64pow10" = some g := Option.isSome_iff_exists.1 (by kernel_rfl)
theorem Pow.below {w w' : World} (h : Pow w) (hb : Below w.heap.size w w') : Pow w' := by
  obtain ⟨g, hg⟩ := powGlob
  unfold Pow Lib.TabIs World.var? at h ⊢
  rw [hg] at h ⊢
  simp only [Option.bind_some] at h ⊢
  have hlt : g < w.heap.size := by
    rcases Nat.lt_or_ge g w.heap.size with h' | h'
    · exact h'
    · rw [Array.getElem?_eq_none h'] at h; cases h
  rw [hb.block g hlt]
  exact h
theorem itoa_any (n : Int) (w : World) (hp : Pow w) (h0 : -9223372036854775808 ≤ n) (h1 : n ≤ 9223372036854775807) :
    Calls Tryz.prog 16 #[.int .i64 n] w fun e w' => e = .returned (.string ⟨(Lib.itoa n).toArray⟩) ∧ Below w.heap.size w w' :=
  (Tryz.strconv_Itoa n h0 h1 w hp).mono fun e w' ⟨he, k, os, hw⟩ => ⟨he, hw ▸ Go.Lib.below_grow _ w (Nat.le_refl _) k os⟩
end Go.Proofs.YtcomdkmglihdbaaGreatDoor

-- impl's programs: codeLines, CodeWrite, CodeOk.
namespace Go.Proofs.YtcomdkmglihdbaaGreatDoor
open Go.RowKit
set_option linter.unusedSimpArgs false
set_option linter.unusedVariables false

/-- A block of another kind stays while a builder is written on. -/
theorem Blk.others {w w' : World} {g b : Nat} {t e : TypeId} {cs : Array Value} (h : Blk w g t cs) (hk : Lib.OthersKept e (some b) w w') (hb : g ≠ b) (ht : t ≠ e) : Blk w' g t cs :=
  hk g _ h (fun h1 => hb (Option.some.inj h1)) (fun c fz h1 => ht (by cases h1; rfl))
theorem ba_list3 (a b c : List UInt8) : (⟨a.toArray⟩ ++ ⟨b.toArray⟩ ++ ⟨c.toArray⟩ : ByteArray).data.toList = a ++ b ++ c := by rw [ba_append, ba_append]
theorem ba_list4 (a b c d : List UInt8) : (⟨a.toArray⟩ ++ ⟨b.toArray⟩ ++ ⟨c.toArray⟩ ++ ⟨d.toArray⟩ : ByteArray).data.toList = a ++ b ++ c ++ d := by rw [ba_append, ba_append, ba_append]

end Go.Proofs.YtcomdkmglihdbaaGreatDoor

-- impl's programs: CodeWrite, CodeOk.
namespace Go.Proofs.YtcomdkmglihdbaaGreatDoor
open Go.RowKit
set_option linter.unusedSimpArgs false
set_option linter.unusedVariables false

end Go.Proofs.YtcomdkmglihdbaaGreatDoor
