/-
  No cell of these rows narrows 'for every input' (looked for: loops, veiled, ifaces, maps, wideKeys, modest, calm, conditions, laid).
  DERIVED. THE GIVEN ROWS OF THIS SEAT. 3 by the template 'for every input the law returns true; each argument reads behind the call as it read before'; 0 by the template 'total and deterministic' (their statements: YtdjalkngfogegaaTotals.lean).
  GIVEN WITH THE SEED: the statements are not yours to turn. If you find one false, say at which input.
  Laid BY PROGRAM, IN A SANDBOX (cutbox-rows.mjs): the forced cells as the released guide's own fill.sh prints them over the translation b92754c7598e3f95… (all of the seat's roots in one cut). By AI agents, Wed Nov 11 2026. No macro, syntax, notation, axiom, sorry.
-/
import Derived.Test.YtdjalkngfogegaaChecked
import GoSem.Claim
import GoSem.ClaimJoined
import GoSem.ClaimMapViews
import Derived.JoinedTies
import Derived.KernelRfl
namespace Go.Proofs.Ytdjalkngfogegaa
/- THE CELL 'sum', in the pinned program and in every row, IS THE sha256 OF THE DUMP (.gsa) THAT YtdjalkngfogegaaProg.lean LOADS. Nothing in Lean hashes anything: it is a label: what it is worth is what the hold of that sum in a sandbox is worth. -/
noncomputable def Try.pinned : Pinned := { name := "ytdjalkngfogegaa", sum := "b92754c7598e3f95cfb7fe5a450ad4c591ea05354e2271a918587506868a0bd3", checked := Try.checked }
namespace Rows
def none {H : Type} : Left H := { results := [], args := [] }

/-- 'laws.FnExactGraphMost': WHATEVER THE INPUT: true; the input reads as it did. -/
def fnExactGraphMostSpec : ChangeSpec := { name := "fnExactGraphMost", fn := fun _ => fun
  | [d] => { results := [.lit (.bool true)], args := [d] }
  | _ => none }
def fnExactGraphMostRow : OpenClaim := { program := "ytdjalkngfogegaa", sum := "b92754c7598e3f95cfb7fe5a450ad4c591ea05354e2271a918587506868a0bd3", func := "loop.example/gatelodge/laws.FnExactGraphMost", spec := "fnExactGraphMost", apart := false }
def FnExactGraphMostSaid : Prop := fnExactGraphMostRow.holds Try.pinned (OpenSpec.ofChange fnExactGraphMostSpec)

/-- ITS FALSE NEIGHBOUR: 'it returns false'. Refute it at one input. -/
def fnExactGraphMostWrong : ChangeSpec := { name := "fnExactGraphMost", fn := fun _ => fun
  | [d] => { results := [.lit (.bool false)], args := [d] }
  | _ => none }
def FnExactGraphMostWrongFalsely : Prop := fnExactGraphMostRow.holds Try.pinned (OpenSpec.ofChange fnExactGraphMostWrong)

/-- 'laws.FnExactGraphWays': WHATEVER THE INPUT: true; the input reads as it did. -/
def fnExactGraphWaysSpec : ChangeSpec := { name := "fnExactGraphWays", fn := fun _ => fun
  | [d] => { results := [.lit (.bool true)], args := [d] }
  | _ => none }
def fnExactGraphWaysRow : OpenClaim := { program := "ytdjalkngfogegaa", sum := "b92754c7598e3f95cfb7fe5a450ad4c591ea05354e2271a918587506868a0bd3", func := "loop.example/gatelodge/laws.FnExactGraphWays", spec := "fnExactGraphWays", apart := false }
def FnExactGraphWaysSaid : Prop := fnExactGraphWaysRow.holds Try.pinned (OpenSpec.ofChange fnExactGraphWaysSpec)

/-- ITS FALSE NEIGHBOUR: 'it returns false'. Refute it at one input. -/
def fnExactGraphWaysWrong : ChangeSpec := { name := "fnExactGraphWays", fn := fun _ => fun
  | [d] => { results := [.lit (.bool false)], args := [d] }
  | _ => none }
def FnExactGraphWaysWrongFalsely : Prop := fnExactGraphWaysRow.holds Try.pinned (OpenSpec.ofChange fnExactGraphWaysWrong)

/-- 'laws.FnGraphMost': WHATEVER THE INPUT: true; the input reads as it did. -/
def fnGraphMostSpec : ChangeSpec := { name := "fnGraphMost", fn := fun _ => fun
  | [d] => { results := [.lit (.bool true)], args := [d] }
  | _ => none }
def fnGraphMostRow : OpenClaim := { program := "ytdjalkngfogegaa", sum := "b92754c7598e3f95cfb7fe5a450ad4c591ea05354e2271a918587506868a0bd3", func := "loop.example/gatelodge/laws.FnGraphMost", spec := "fnGraphMost", recurses := true, apart := false }
def FnGraphMostSaid : Prop := fnGraphMostRow.holds Try.pinned (OpenSpec.ofChange fnGraphMostSpec)

/-- ITS FALSE NEIGHBOUR: 'it returns false'. Refute it at one input. -/
def fnGraphMostWrong : ChangeSpec := { name := "fnGraphMost", fn := fun _ => fun
  | [d] => { results := [.lit (.bool false)], args := [d] }
  | _ => none }
def FnGraphMostWrongFalsely : Prop := fnGraphMostRow.holds Try.pinned (OpenSpec.ofChange fnGraphMostWrong)

/- THE SECOND FORM. 'bulk': how many values and letters a reading holds, each counted each time it is reached (what is shared counts as often as it is met; a slice's spare places count too). A statement '..UptoSaid' is the law's where the arguments, and the package variables that the reading takes, are together of bulk at most 1048576: NARROWER than '..Said'. Prove '..Said' where nothing that the law and all that it calls make is longer than what came in: it says more and counts as full. Else prove '..UptoSaid'. A law counts once. -/
mutual
def uptoBulk {H : Type} : DataW H → Nat
  | .lit (.string bytes) => bytes.length + 1
  | .lit _ => 1
  | .nil => 1
  | .ptr d => uptoBulk d + 1
  | .slice elems spare => uptoBulkAll elems + uptoBulkAll spare + 1
  | .agg parts => uptoBulkAll parts + 1
  | .iface _ d => uptoBulk d + 1
  | .map entries => uptoBulkEntries entries + 1
  | .held _ => 1
def uptoBulkAll {H : Type} : List (DataW H) → Nat
  | [] => 0
  | d :: r => uptoBulk d + uptoBulkAll r
def uptoBulkEntries {H : Type} : List (Lit × DataW H) → Nat
  | [] => 0
  | x :: r => uptoBulkEntry x + uptoBulkEntries r
def uptoBulkEntry {H : Type} : Lit × DataW H → Nat
  | (.string bytes, d) => bytes.length + uptoBulk d + 1
  | (_, d) => uptoBulk d + 1
 end
def uptoSmall : (H : Type) → List (DataW H) → Bool := fun _ ds => decide (uptoBulkAll ds ≤ 1048576)
def OpenSpec.upto (s : _root_.Go.ChangeSpec) : _root_.Go.OpenSpec := { _root_.Go.OpenSpec.ofChange s with cond := some uptoSmall }

/-- 'laws.FnExactGraphMost', WHERE WHAT IT READS IS OF BULK AT MOST 1048576: true; the input reads as it did. -/
def fnExactGraphMostUptoRow : OpenClaim := { program := "ytdjalkngfogegaa", sum := "b92754c7598e3f95cfb7fe5a450ad4c591ea05354e2271a918587506868a0bd3", func := "loop.example/gatelodge/laws.FnExactGraphMost", spec := "fnExactGraphMost", apart := false, narrowed := true }
def FnExactGraphMostUptoSaid : Prop := fnExactGraphMostUptoRow.holds Try.pinned (OpenSpec.upto fnExactGraphMostSpec)

/-- 'laws.FnExactGraphWays', WHERE WHAT IT READS IS OF BULK AT MOST 1048576: true; the input reads as it did. -/
def fnExactGraphWaysUptoRow : OpenClaim := { program := "ytdjalkngfogegaa", sum := "b92754c7598e3f95cfb7fe5a450ad4c591ea05354e2271a918587506868a0bd3", func := "loop.example/gatelodge/laws.FnExactGraphWays", spec := "fnExactGraphWays", apart := false, narrowed := true }
def FnExactGraphWaysUptoSaid : Prop := fnExactGraphWaysUptoRow.holds Try.pinned (OpenSpec.upto fnExactGraphWaysSpec)

/-- 'laws.FnGraphMost', WHERE WHAT IT READS IS OF BULK AT MOST 1048576: true; the input reads as it did. -/
def fnGraphMostUptoRow : OpenClaim := { program := "ytdjalkngfogegaa", sum := "b92754c7598e3f95cfb7fe5a450ad4c591ea05354e2271a918587506868a0bd3", func := "loop.example/gatelodge/laws.FnGraphMost", spec := "fnGraphMost", recurses := true, apart := false, narrowed := true }
def FnGraphMostUptoSaid : Prop := fnGraphMostUptoRow.holds Try.pinned (OpenSpec.upto fnGraphMostSpec)

end Rows
end Go.Proofs.Ytdjalkngfogegaa
