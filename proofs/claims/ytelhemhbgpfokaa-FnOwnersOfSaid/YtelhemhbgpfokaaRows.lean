/-
  No cell of these rows narrows 'for every input' (looked for: loops, veiled, ifaces, maps, wideKeys, modest, calm, conditions, laid).
  DERIVED. THE GIVEN ROWS OF THIS SEAT. 7 by the template 'for every input the law returns true; each argument reads behind the call as it read before'; 0 by the template 'total and deterministic' (their statements: YtelhemhbgpfokaaTotals.lean).
  GIVEN WITH THE SEED: the statements are not yours to turn. If you find one false, say at which input.
  Laid BY PROGRAM, IN A SANDBOX (cutbox-rows.mjs): the forced cells as the released guide's own fill.sh prints them over the translation a3cb8c01c4ddd831… (all of the seat's roots in one cut). By AI agents, Wed Nov 11 2026. No macro, syntax, notation, axiom, sorry.
-/
import Derived.Test.YtelhemhbgpfokaaChecked
import GoSem.Claim
import GoSem.ClaimJoined
import GoSem.ClaimMapViews
import Derived.JoinedTies
import Derived.KernelRfl
namespace Go.Proofs.Ytelhemhbgpfokaa
/- THE CELL 'sum', in the pinned program and in every row, IS THE sha256 OF THE DUMP (.gsa) THAT YtelhemhbgpfokaaProg.lean LOADS. Nothing in Lean hashes anything: it is a label: what it is worth is what the hold of that sum in a sandbox is worth. -/
noncomputable def Try.pinned : Pinned := { name := "ytelhemhbgpfokaa", sum := "a3cb8c01c4ddd8315a1a660f11447b299dc2cb44ae25380cfe52cd26c3972b3c", checked := Try.checked }
namespace Rows
def none {H : Type} : Left H := { results := [], args := [] }

/-- 'laws.FnOwnersOf': WHATEVER THE INPUT: true; the input reads as it did. -/
def fnOwnersOfSpec : ChangeSpec := { name := "fnOwnersOf", fn := fun _ => fun
  | [d] => { results := [.lit (.bool true)], args := [d] }
  | _ => none }
def fnOwnersOfRow : OpenClaim := { program := "ytelhemhbgpfokaa", sum := "a3cb8c01c4ddd8315a1a660f11447b299dc2cb44ae25380cfe52cd26c3972b3c", func := "loop.example/closurecells/laws.FnOwnersOf", spec := "fnOwnersOf", unfollowed := true, recurses := true, apart := false }
def FnOwnersOfSaid : Prop := fnOwnersOfRow.holds Try.pinned (OpenSpec.ofChange fnOwnersOfSpec)

/-- ITS FALSE NEIGHBOUR: 'it returns false'. Refute it at one input. -/
def fnOwnersOfWrong : ChangeSpec := { name := "fnOwnersOf", fn := fun _ => fun
  | [d] => { results := [.lit (.bool false)], args := [d] }
  | _ => none }
def FnOwnersOfWrongFalsely : Prop := fnOwnersOfRow.holds Try.pinned (OpenSpec.ofChange fnOwnersOfWrong)

/-- 'laws.FnExactOwnersOf': WHATEVER THE INPUT: true; the input reads as it did. -/
def fnExactOwnersOfSpec : ChangeSpec := { name := "fnExactOwnersOf", fn := fun _ => fun
  | [d] => { results := [.lit (.bool true)], args := [d] }
  | _ => none }
def fnExactOwnersOfRow : OpenClaim := { program := "ytelhemhbgpfokaa", sum := "a3cb8c01c4ddd8315a1a660f11447b299dc2cb44ae25380cfe52cd26c3972b3c", func := "loop.example/closurecells/laws.FnExactOwnersOf", spec := "fnExactOwnersOf", unfollowed := true, recurses := true, apart := false }
def FnExactOwnersOfSaid : Prop := fnExactOwnersOfRow.holds Try.pinned (OpenSpec.ofChange fnExactOwnersOfSpec)

/-- ITS FALSE NEIGHBOUR: 'it returns false'. Refute it at one input. -/
def fnExactOwnersOfWrong : ChangeSpec := { name := "fnExactOwnersOf", fn := fun _ => fun
  | [d] => { results := [.lit (.bool false)], args := [d] }
  | _ => none }
def FnExactOwnersOfWrongFalsely : Prop := fnExactOwnersOfRow.holds Try.pinned (OpenSpec.ofChange fnExactOwnersOfWrong)

/-- 'laws.FnValidProgram': WHATEVER THE INPUT: true; the input reads as it did. -/
def fnValidProgramSpec : ChangeSpec := { name := "fnValidProgram", fn := fun _ => fun
  | [d] => { results := [.lit (.bool true)], args := [d] }
  | _ => none }
def fnValidProgramRow : OpenClaim := { program := "ytelhemhbgpfokaa", sum := "a3cb8c01c4ddd8315a1a660f11447b299dc2cb44ae25380cfe52cd26c3972b3c", func := "loop.example/closurecells/laws.FnValidProgram", spec := "fnValidProgram", unfollowed := true, recurses := true, apart := false }
def FnValidProgramSaid : Prop := fnValidProgramRow.holds Try.pinned (OpenSpec.ofChange fnValidProgramSpec)

/-- ITS FALSE NEIGHBOUR: 'it returns false'. Refute it at one input. -/
def fnValidProgramWrong : ChangeSpec := { name := "fnValidProgram", fn := fun _ => fun
  | [d] => { results := [.lit (.bool false)], args := [d] }
  | _ => none }
def FnValidProgramWrongFalsely : Prop := fnValidProgramRow.holds Try.pinned (OpenSpec.ofChange fnValidProgramWrong)

/-- 'laws.FnBareProgram': WHATEVER THE INPUT: true; the input reads as it did. -/
def fnBareProgramSpec : ChangeSpec := { name := "fnBareProgram", fn := fun _ => fun
  | [d] => { results := [.lit (.bool true)], args := [d] }
  | _ => none }
def fnBareProgramRow : OpenClaim := { program := "ytelhemhbgpfokaa", sum := "a3cb8c01c4ddd8315a1a660f11447b299dc2cb44ae25380cfe52cd26c3972b3c", func := "loop.example/closurecells/laws.FnBareProgram", spec := "fnBareProgram", unfollowed := true, recurses := true, apart := false }
def FnBareProgramSaid : Prop := fnBareProgramRow.holds Try.pinned (OpenSpec.ofChange fnBareProgramSpec)

/-- ITS FALSE NEIGHBOUR: 'it returns false'. Refute it at one input. -/
def fnBareProgramWrong : ChangeSpec := { name := "fnBareProgram", fn := fun _ => fun
  | [d] => { results := [.lit (.bool false)], args := [d] }
  | _ => none }
def FnBareProgramWrongFalsely : Prop := fnBareProgramRow.holds Try.pinned (OpenSpec.ofChange fnBareProgramWrong)

/-- 'laws.FnExactBareProgram': WHATEVER THE INPUT: true; the input reads as it did. -/
def fnExactBareProgramSpec : ChangeSpec := { name := "fnExactBareProgram", fn := fun _ => fun
  | [d] => { results := [.lit (.bool true)], args := [d] }
  | _ => none }
def fnExactBareProgramRow : OpenClaim := { program := "ytelhemhbgpfokaa", sum := "a3cb8c01c4ddd8315a1a660f11447b299dc2cb44ae25380cfe52cd26c3972b3c", func := "loop.example/closurecells/laws.FnExactBareProgram", spec := "fnExactBareProgram", unfollowed := true, recurses := true, apart := false }
def FnExactBareProgramSaid : Prop := fnExactBareProgramRow.holds Try.pinned (OpenSpec.ofChange fnExactBareProgramSpec)

/-- ITS FALSE NEIGHBOUR: 'it returns false'. Refute it at one input. -/
def fnExactBareProgramWrong : ChangeSpec := { name := "fnExactBareProgram", fn := fun _ => fun
  | [d] => { results := [.lit (.bool false)], args := [d] }
  | _ => none }
def FnExactBareProgramWrongFalsely : Prop := fnExactBareProgramRow.holds Try.pinned (OpenSpec.ofChange fnExactBareProgramWrong)

/-- 'laws.FnExactIdleDeclarations': WHATEVER THE INPUT: true; the input reads as it did. -/
def fnExactIdleDeclarationsSpec : ChangeSpec := { name := "fnExactIdleDeclarations", fn := fun _ => fun
  | [d] => { results := [.lit (.bool true)], args := [d] }
  | _ => none }
def fnExactIdleDeclarationsRow : OpenClaim := { program := "ytelhemhbgpfokaa", sum := "a3cb8c01c4ddd8315a1a660f11447b299dc2cb44ae25380cfe52cd26c3972b3c", func := "loop.example/closurecells/laws.FnExactIdleDeclarations", spec := "fnExactIdleDeclarations", unfollowed := true, recurses := true, apart := false }
def FnExactIdleDeclarationsSaid : Prop := fnExactIdleDeclarationsRow.holds Try.pinned (OpenSpec.ofChange fnExactIdleDeclarationsSpec)

/-- ITS FALSE NEIGHBOUR: 'it returns false'. Refute it at one input. -/
def fnExactIdleDeclarationsWrong : ChangeSpec := { name := "fnExactIdleDeclarations", fn := fun _ => fun
  | [d] => { results := [.lit (.bool false)], args := [d] }
  | _ => none }
def FnExactIdleDeclarationsWrongFalsely : Prop := fnExactIdleDeclarationsRow.holds Try.pinned (OpenSpec.ofChange fnExactIdleDeclarationsWrong)

/-- 'laws.FnExactSameMeaning': WHATEVER THE INPUT: true; the input reads as it did. -/
def fnExactSameMeaningSpec : ChangeSpec := { name := "fnExactSameMeaning", fn := fun _ => fun
  | [d1, d2] => { results := [.lit (.bool true)], args := [d1, d2] }
  | _ => none }
def fnExactSameMeaningRow : OpenClaim := { program := "ytelhemhbgpfokaa", sum := "a3cb8c01c4ddd8315a1a660f11447b299dc2cb44ae25380cfe52cd26c3972b3c", func := "loop.example/closurecells/laws.FnExactSameMeaning", spec := "fnExactSameMeaning", unfollowed := true, recurses := true, apart := false }
def FnExactSameMeaningSaid : Prop := fnExactSameMeaningRow.holds Try.pinned (OpenSpec.ofChange fnExactSameMeaningSpec)

/-- ITS FALSE NEIGHBOUR: 'it returns false'. Refute it at one input. -/
def fnExactSameMeaningWrong : ChangeSpec := { name := "fnExactSameMeaning", fn := fun _ => fun
  | [d1, d2] => { results := [.lit (.bool false)], args := [d1, d2] }
  | _ => none }
def FnExactSameMeaningWrongFalsely : Prop := fnExactSameMeaningRow.holds Try.pinned (OpenSpec.ofChange fnExactSameMeaningWrong)

/- THE SECOND FORM. 'bulk': how many values and letters a reading holds, each counted each time it is reached (what is shared counts as often as it is met; a slice's spare places count too). A statement '..UptoSaid' is the law's where the arguments, and the package variables that the reading takes, are together of bulk at most 1048576: NARROWER than '..Said'. Prove '..Said' where nothing that the law and all that it calls make is longer than what came in: it says more and counts as full. Else prove '..UptoSaid'. A law counts once. -/
mutual
def uptoBulk {H : Type} : DataW H → Nat
  | .lit (.string bytes) => bytes.length + 1
  | .lit _ => 1
  | .nil => 1
  | .ptr d => uptoBulk d + 1
  | .slice elems spare => uptoBulkAll elems + uptoBulkAll spare + 1
  | .agg parts => uptoBulkAll parts + 1
  | .iface _ d => uptoBulk d + 1
  | .map entries => uptoBulkEntries entries + 1
  | .held _ => 1
def uptoBulkAll {H : Type} : List (DataW H) → Nat
  | [] => 0
  | d :: r => uptoBulk d + uptoBulkAll r
def uptoBulkEntries {H : Type} : List (Lit × DataW H) → Nat
  | [] => 0
  | x :: r => uptoBulkEntry x + uptoBulkEntries r
def uptoBulkEntry {H : Type} : Lit × DataW H → Nat
  | (.string bytes, d) => bytes.length + uptoBulk d + 1
  | (_, d) => uptoBulk d + 1
 end
def uptoSmall : (H : Type) → List (DataW H) → Bool := fun _ ds => decide (uptoBulkAll ds ≤ 1048576)
def OpenSpec.upto (s : _root_.Go.ChangeSpec) : _root_.Go.OpenSpec := { _root_.Go.OpenSpec.ofChange s with cond := some uptoSmall }

/-- 'laws.FnOwnersOf', WHERE WHAT IT READS IS OF BULK AT MOST 1048576: true; the input reads as it did. -/
def fnOwnersOfUptoRow : OpenClaim := { program := "ytelhemhbgpfokaa", sum := "a3cb8c01c4ddd8315a1a660f11447b299dc2cb44ae25380cfe52cd26c3972b3c", func := "loop.example/closurecells/laws.FnOwnersOf", spec := "fnOwnersOf", unfollowed := true, recurses := true, apart := false, narrowed := true }
def FnOwnersOfUptoSaid : Prop := fnOwnersOfUptoRow.holds Try.pinned (OpenSpec.upto fnOwnersOfSpec)

/-- 'laws.FnExactOwnersOf', WHERE WHAT IT READS IS OF BULK AT MOST 1048576: true; the input reads as it did. -/
def fnExactOwnersOfUptoRow : OpenClaim := { program := "ytelhemhbgpfokaa", sum := "a3cb8c01c4ddd8315a1a660f11447b299dc2cb44ae25380cfe52cd26c3972b3c", func := "loop.example/closurecells/laws.FnExactOwnersOf", spec := "fnExactOwnersOf", unfollowed := true, recurses := true, apart := false, narrowed := true }
def FnExactOwnersOfUptoSaid : Prop := fnExactOwnersOfUptoRow.holds Try.pinned (OpenSpec.upto fnExactOwnersOfSpec)

/-- 'laws.FnValidProgram', WHERE WHAT IT READS IS OF BULK AT MOST 1048576: true; the input reads as it did. -/
def fnValidProgramUptoRow : OpenClaim := { program := "ytelhemhbgpfokaa", sum := "a3cb8c01c4ddd8315a1a660f11447b299dc2cb44ae25380cfe52cd26c3972b3c", func := "loop.example/closurecells/laws.FnValidProgram", spec := "fnValidProgram", unfollowed := true, recurses := true, apart := false, narrowed := true }
def FnValidProgramUptoSaid : Prop := fnValidProgramUptoRow.holds Try.pinned (OpenSpec.upto fnValidProgramSpec)

/-- 'laws.FnBareProgram', WHERE WHAT IT READS IS OF BULK AT MOST 1048576: true; the input reads as it did. -/
def fnBareProgramUptoRow : OpenClaim := { program := "ytelhemhbgpfokaa", sum := "a3cb8c01c4ddd8315a1a660f11447b299dc2cb44ae25380cfe52cd26c3972b3c", func := "loop.example/closurecells/laws.FnBareProgram", spec := "fnBareProgram", unfollowed := true, recurses := true, apart := false, narrowed := true }
def FnBareProgramUptoSaid : Prop := fnBareProgramUptoRow.holds Try.pinned (OpenSpec.upto fnBareProgramSpec)

/-- 'laws.FnExactBareProgram', WHERE WHAT IT READS IS OF BULK AT MOST 1048576: true; the input reads as it did. -/
def fnExactBareProgramUptoRow : OpenClaim := { program := "ytelhemhbgpfokaa", sum := "a3cb8c01c4ddd8315a1a660f11447b299dc2cb44ae25380cfe52cd26c3972b3c", func := "loop.example/closurecells/laws.FnExactBareProgram", spec := "fnExactBareProgram", unfollowed := true, recurses := true, apart := false, narrowed := true }
def FnExactBareProgramUptoSaid : Prop := fnExactBareProgramUptoRow.holds Try.pinned (OpenSpec.upto fnExactBareProgramSpec)

/-- 'laws.FnExactIdleDeclarations', WHERE WHAT IT READS IS OF BULK AT MOST 1048576: true; the input reads as it did. -/
def fnExactIdleDeclarationsUptoRow : OpenClaim := { program := "ytelhemhbgpfokaa", sum := "a3cb8c01c4ddd8315a1a660f11447b299dc2cb44ae25380cfe52cd26c3972b3c", func := "loop.example/closurecells/laws.FnExactIdleDeclarations", spec := "fnExactIdleDeclarations", unfollowed := true, recurses := true, apart := false, narrowed := true }
def FnExactIdleDeclarationsUptoSaid : Prop := fnExactIdleDeclarationsUptoRow.holds Try.pinned (OpenSpec.upto fnExactIdleDeclarationsSpec)

/-- 'laws.FnExactSameMeaning', WHERE WHAT IT READS IS OF BULK AT MOST 1048576: true; the input reads as it did. -/
def fnExactSameMeaningUptoRow : OpenClaim := { program := "ytelhemhbgpfokaa", sum := "a3cb8c01c4ddd8315a1a660f11447b299dc2cb44ae25380cfe52cd26c3972b3c", func := "loop.example/closurecells/laws.FnExactSameMeaning", spec := "fnExactSameMeaning", unfollowed := true, recurses := true, apart := false, narrowed := true }
def FnExactSameMeaningUptoSaid : Prop := fnExactSameMeaningUptoRow.holds Try.pinned (OpenSpec.upto fnExactSameMeaningSpec)

end Rows
end Go.Proofs.Ytelhemhbgpfokaa
