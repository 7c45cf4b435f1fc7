/-
  No cell of these rows narrows 'for every input' (looked for: loops, veiled, ifaces, maps, wideKeys, modest, calm, conditions, laid).
  DERIVED. THE GIVEN ROWS OF THIS SEAT. 4 by the template 'for every input the law returns true; each argument reads behind the call as it read before'; 0 by the template 'total and deterministic' (their statements: YtiemhadpepbcjaaTotals.lean).
  GIVEN WITH THE SEED: the statements are not yours to turn. If you find one false, say at which input.
  Laid BY PROGRAM, IN A SANDBOX (cutbox-rows.mjs): the forced cells as the released guide's own fill.sh prints them over the translation e83f4eca4a7a6fe8… (all of the seat's roots in one cut). By AI agents, Wed Nov 11 2026. No macro, syntax, notation, axiom, sorry.
-/
import Derived.Test.YtiemhadpepbcjaaChecked
import GoSem.Claim
import GoSem.ClaimJoined
import GoSem.ClaimMapViews
import Derived.JoinedTies
import Derived.KernelRfl
namespace Go.Proofs.Ytiemhadpepbcjaa
/- THE CELL 'sum', in the pinned program and in every row, IS THE sha256 OF THE DUMP (.gsa) THAT YtiemhadpepbcjaaProg.lean LOADS. Nothing in Lean hashes anything: it is a label: what it is worth is what the hold of that sum in a sandbox is worth. -/
noncomputable def Try.pinned : Pinned := { name := "ytiemhadpepbcjaa", sum := "e83f4eca4a7a6fe8775ab3552d99ed543d0a6275e7e301b89c335a6756aa6c5c", checked := Try.checked }
namespace Rows
def none {H : Type} : Left H := { results := [], args := [] }

/-- 'laws.FnValidProgram': WHATEVER THE INPUT: true; the input reads as it did. -/
def fnValidProgramSpec : ChangeSpec := { name := "fnValidProgram", fn := fun _ => fun
  | [d] => { results := [.lit (.bool true)], args := [d] }
  | _ => none }
def fnValidProgramRow : OpenClaim := { program := "ytiemhadpepbcjaa", sum := "e83f4eca4a7a6fe8775ab3552d99ed543d0a6275e7e301b89c335a6756aa6c5c", func := "loop.example/closurecells/laws.FnValidProgram", spec := "fnValidProgram", unfollowed := true, recurses := true, apart := false }
def FnValidProgramSaid : Prop := fnValidProgramRow.holds Try.pinned (OpenSpec.ofChange fnValidProgramSpec)

/-- ITS FALSE NEIGHBOUR: 'it returns false'. Refute it at one input. -/
def fnValidProgramWrong : ChangeSpec := { name := "fnValidProgram", fn := fun _ => fun
  | [d] => { results := [.lit (.bool false)], args := [d] }
  | _ => none }
def FnValidProgramWrongFalsely : Prop := fnValidProgramRow.holds Try.pinned (OpenSpec.ofChange fnValidProgramWrong)

/-- 'laws.FnBareProgram': WHATEVER THE INPUT: true; the input reads as it did. -/
def fnBareProgramSpec : ChangeSpec := { name := "fnBareProgram", fn := fun _ => fun
  | [d] => { results := [.lit (.bool true)], args := [d] }
  | _ => none }
def fnBareProgramRow : OpenClaim := { program := "ytiemhadpepbcjaa", sum := "e83f4eca4a7a6fe8775ab3552d99ed543d0a6275e7e301b89c335a6756aa6c5c", func := "loop.example/closurecells/laws.FnBareProgram", spec := "fnBareProgram", unfollowed := true, recurses := true, apart := false }
def FnBareProgramSaid : Prop := fnBareProgramRow.holds Try.pinned (OpenSpec.ofChange fnBareProgramSpec)

/-- ITS FALSE NEIGHBOUR: 'it returns false'. Refute it at one input. -/
def fnBareProgramWrong : ChangeSpec := { name := "fnBareProgram", fn := fun _ => fun
  | [d] => { results := [.lit (.bool false)], args := [d] }
  | _ => none }
def FnBareProgramWrongFalsely : Prop := fnBareProgramRow.holds Try.pinned (OpenSpec.ofChange fnBareProgramWrong)

/-- 'laws.FnExactIdleDeclarations': WHATEVER THE INPUT: true; the input reads as it did. -/
def fnExactIdleDeclarationsSpec : ChangeSpec := { name := "fnExactIdleDeclarations", fn := fun _ => fun
  | [d] => { results := [.lit (.bool true)], args := [d] }
  | _ => none }
def fnExactIdleDeclarationsRow : OpenClaim := { program := "ytiemhadpepbcjaa", sum := "e83f4eca4a7a6fe8775ab3552d99ed543d0a6275e7e301b89c335a6756aa6c5c", func := "loop.example/closurecells/laws.FnExactIdleDeclarations", spec := "fnExactIdleDeclarations", unfollowed := true, recurses := true, apart := false }
def FnExactIdleDeclarationsSaid : Prop := fnExactIdleDeclarationsRow.holds Try.pinned (OpenSpec.ofChange fnExactIdleDeclarationsSpec)

/-- ITS FALSE NEIGHBOUR: 'it returns false'. Refute it at one input. -/
def fnExactIdleDeclarationsWrong : ChangeSpec := { name := "fnExactIdleDeclarations", fn := fun _ => fun
  | [d] => { results := [.lit (.bool false)], args := [d] }
  | _ => none }
def FnExactIdleDeclarationsWrongFalsely : Prop := fnExactIdleDeclarationsRow.holds Try.pinned (OpenSpec.ofChange fnExactIdleDeclarationsWrong)

/-- 'laws.FnExactSameMeaning': WHATEVER THE INPUT: true; the input reads as it did. -/
def fnExactSameMeaningSpec : ChangeSpec := { name := "fnExactSameMeaning", fn := fun _ => fun
  | [d1, d2] => { results := [.lit (.bool true)], args := [d1, d2] }
  | _ => none }
def fnExactSameMeaningRow : OpenClaim := { program := "ytiemhadpepbcjaa", sum := "e83f4eca4a7a6fe8775ab3552d99ed543d0a6275e7e301b89c335a6756aa6c5c", func := "loop.example/closurecells/laws.FnExactSameMeaning", spec := "fnExactSameMeaning", unfollowed := true, recurses := true, apart := false }
def FnExactSameMeaningSaid : Prop := fnExactSameMeaningRow.holds Try.pinned (OpenSpec.ofChange fnExactSameMeaningSpec)

/-- ITS FALSE NEIGHBOUR: 'it returns false'. Refute it at one input. -/
def fnExactSameMeaningWrong : ChangeSpec := { name := "fnExactSameMeaning", fn := fun _ => fun
  | [d1, d2] => { results := [.lit (.bool false)], args := [d1, d2] }
  | _ => none }
def FnExactSameMeaningWrongFalsely : Prop := fnExactSameMeaningRow.holds Try.pinned (OpenSpec.ofChange fnExactSameMeaningWrong)

/- THE SECOND FORM. 'bulk': how many values and letters a reading holds, each counted each time it is reached (what is shared counts as often as it is met; a slice's spare places count too). A statement '..UptoSaid' is the law's where the arguments, and the package variables that the reading takes, are together of bulk at most 1048576: NARROWER than '..Said'. Prove '..Said' where nothing that the law and all that it calls make is longer than what came in: it says more and counts as full. Else prove '..UptoSaid'. A law counts once. -/
mutual
def uptoBulk {H : Type} : DataW H → Nat
  | .lit (.string bytes) => bytes.length + 1
  | .lit _ => 1
  | .nil => 1
  | .ptr d => uptoBulk d + 1
  | .slice elems spare => uptoBulkAll elems + uptoBulkAll spare + 1
  | .agg parts => uptoBulkAll parts + 1
  | .iface _ d => uptoBulk d + 1
  | .map entries => uptoBulkEntries entries + 1
  | .held _ => 1
def uptoBulkAll {H : Type} : List (DataW H) → Nat
  | [] => 0
  | d :: r => uptoBulk d + uptoBulkAll r
def uptoBulkEntries {H : Type} : List (Lit × DataW H) → Nat
  | [] => 0
  | x :: r => uptoBulkEntry x + uptoBulkEntries r
def uptoBulkEntry {H : Type} : Lit × DataW H → Nat
  | (.string bytes, d) => bytes.length + uptoBulk d + 1
  | (_, d) => uptoBulk d + 1
 end
def uptoSmall : (H : Type) → List (DataW H) → Bool := fun _ ds => decide (uptoBulkAll ds ≤ 1048576)
def OpenSpec.upto (s : _root_.Go.ChangeSpec) : _root_.Go.OpenSpec := { _root_.Go.OpenSpec.ofChange s with cond := some uptoSmall }

/-- 'laws.FnValidProgram', WHERE WHAT IT READS IS OF BULK AT MOST 1048576: true; the input reads as it did. -/
def fnValidProgramUptoRow : OpenClaim := { program := "ytiemhadpepbcjaa", sum := "e83f4eca4a7a6fe8775ab3552d99ed543d0a6275e7e301b89c335a6756aa6c5c", func := "loop.example/closurecells/laws.FnValidProgram", spec := "fnValidProgram", unfollowed := true, recurses := true, apart := false, narrowed := true }
def FnValidProgramUptoSaid : Prop := fnValidProgramUptoRow.holds Try.pinned (OpenSpec.upto fnValidProgramSpec)

/-- 'laws.FnBareProgram', WHERE WHAT IT READS IS OF BULK AT MOST 1048576: true; the input reads as it did. -/
def fnBareProgramUptoRow : OpenClaim := { program := "ytiemhadpepbcjaa", sum := "e83f4eca4a7a6fe8775ab3552d99ed543d0a6275e7e301b89c335a6756aa6c5c", func := "loop.example/closurecells/laws.FnBareProgram", spec := "fnBareProgram", unfollowed := true, recurses := true, apart := false, narrowed := true }
def FnBareProgramUptoSaid : Prop := fnBareProgramUptoRow.holds Try.pinned (OpenSpec.upto fnBareProgramSpec)

/-- 'laws.FnExactIdleDeclarations', WHERE WHAT IT READS IS OF BULK AT MOST 1048576: true; the input reads as it did. -/
def fnExactIdleDeclarationsUptoRow : OpenClaim := { program := "ytiemhadpepbcjaa", sum := "e83f4eca4a7a6fe8775ab3552d99ed543d0a6275e7e301b89c335a6756aa6c5c", func := "loop.example/closurecells/laws.FnExactIdleDeclarations", spec := "fnExactIdleDeclarations", unfollowed := true, recurses := true, apart := false, narrowed := true }
def FnExactIdleDeclarationsUptoSaid : Prop := fnExactIdleDeclarationsUptoRow.holds Try.pinned (OpenSpec.upto fnExactIdleDeclarationsSpec)

/-- 'laws.FnExactSameMeaning', WHERE WHAT IT READS IS OF BULK AT MOST 1048576: true; the input reads as it did. -/
def fnExactSameMeaningUptoRow : OpenClaim := { program := "ytiemhadpepbcjaa", sum := "e83f4eca4a7a6fe8775ab3552d99ed543d0a6275e7e301b89c335a6756aa6c5c", func := "loop.example/closurecells/laws.FnExactSameMeaning", spec := "fnExactSameMeaning", unfollowed := true, recurses := true, apart := false, narrowed := true }
def FnExactSameMeaningUptoSaid : Prop := fnExactSameMeaningUptoRow.holds Try.pinned (OpenSpec.upto fnExactSameMeaningSpec)

end Rows
end Go.Proofs.Ytiemhadpepbcjaa
