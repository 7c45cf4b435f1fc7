/-
  No cell of these rows narrows 'for every input' (looked for: loops, veiled, ifaces, maps, wideKeys, modest, calm, conditions, laid).
  DERIVED. THE GIVEN ROWS OF THIS SEAT. 26 by the template 'for every input the law returns true; each argument reads behind the call as it read before'; 0 by the template 'total and deterministic' (their statements: YtglppcgaebpiaaaTotals.lean).
  GIVEN WITH THE SEED: the statements are not yours to turn. If you find one false, say at which input.
  Laid BY PROGRAM, IN A SANDBOX (cutbox-rows.mjs): the forced cells as the released guide's own fill.sh prints them over the translation 5953dea60319bf27… (all of the seat's roots in one cut). By AI agents, Wed Nov 11 2026. No macro, syntax, notation, axiom, sorry.
-/
import Derived.Test.YtglppcgaebpiaaaChecked
import GoSem.Claim
import GoSem.ClaimJoined
import GoSem.ClaimMapViews
import Derived.JoinedTies
import Derived.KernelRfl
namespace Go.Proofs.Ytglppcgaebpiaaa
/- THE CELL 'sum', in the pinned program and in every row, IS THE sha256 OF THE DUMP (.gsa) THAT YtglppcgaebpiaaaProg.lean LOADS. Nothing in Lean hashes anything: it is a label: what it is worth is what the hold of that sum in a sandbox is worth. -/
noncomputable def Try.pinned : Pinned := { name := "ytglppcgaebpiaaa", sum := "5953dea60319bf278cb22bc1112880c39e4a29538d146fad8a8065fc63c9778f", checked := Try.checked }
namespace Rows
def none {H : Type} : Left H := { results := [], args := [] }

/-- 'laws.FnExactConstants': WHATEVER THE INPUT: true; the input reads as it did. -/
def fnExactConstantsSpec : ChangeSpec := { name := "fnExactConstants", fn := fun _ => fun
  | [] => { results := [.lit (.bool true)], args := [] }
  | _ => none }
def fnExactConstantsRow : OpenClaim := { program := "ytglppcgaebpiaaa", sum := "5953dea60319bf278cb22bc1112880c39e4a29538d146fad8a8065fc63c9778f", func := "loop.example/closurecells/laws.FnExactConstants", spec := "fnExactConstants", apart := false }
def FnExactConstantsSaid : Prop := fnExactConstantsRow.holds Try.pinned (OpenSpec.ofChange fnExactConstantsSpec)

/-- ITS FALSE NEIGHBOUR: 'it returns false'. Refute it at one input. -/
def fnExactConstantsWrong : ChangeSpec := { name := "fnExactConstants", fn := fun _ => fun
  | [] => { results := [.lit (.bool false)], args := [] }
  | _ => none }
def FnExactConstantsWrongFalsely : Prop := fnExactConstantsRow.holds Try.pinned (OpenSpec.ofChange fnExactConstantsWrong)

/-- 'laws.FnExactShownOf': WHATEVER THE INPUT: true; the input reads as it did. -/
def fnExactShownOfSpec : ChangeSpec := { name := "fnExactShownOf", fn := fun _ => fun
  | [d] => { results := [.lit (.bool true)], args := [d] }
  | _ => none }
def fnExactShownOfRow : OpenClaim := { program := "ytglppcgaebpiaaa", sum := "5953dea60319bf278cb22bc1112880c39e4a29538d146fad8a8065fc63c9778f", func := "loop.example/closurecells/laws.FnExactShownOf", spec := "fnExactShownOf", apart := false }
def FnExactShownOfSaid : Prop := fnExactShownOfRow.holds Try.pinned (OpenSpec.ofChange fnExactShownOfSpec)

/-- ITS FALSE NEIGHBOUR: 'it returns false'. Refute it at one input. -/
def fnExactShownOfWrong : ChangeSpec := { name := "fnExactShownOf", fn := fun _ => fun
  | [d] => { results := [.lit (.bool false)], args := [d] }
  | _ => none }
def FnExactShownOfWrongFalsely : Prop := fnExactShownOfRow.holds Try.pinned (OpenSpec.ofChange fnExactShownOfWrong)

/-- 'laws.FnExactValidShape': WHATEVER THE INPUT: true; the input reads as it did. -/
def fnExactValidShapeSpec : ChangeSpec := { name := "fnExactValidShape", fn := fun _ => fun
  | [d] => { results := [.lit (.bool true)], args := [d] }
  | _ => none }
def fnExactValidShapeRow : OpenClaim := { program := "ytglppcgaebpiaaa", sum := "5953dea60319bf278cb22bc1112880c39e4a29538d146fad8a8065fc63c9778f", func := "loop.example/closurecells/laws.FnExactValidShape", spec := "fnExactValidShape", apart := false }
def FnExactValidShapeSaid : Prop := fnExactValidShapeRow.holds Try.pinned (OpenSpec.ofChange fnExactValidShapeSpec)

/-- ITS FALSE NEIGHBOUR: 'it returns false'. Refute it at one input. -/
def fnExactValidShapeWrong : ChangeSpec := { name := "fnExactValidShape", fn := fun _ => fun
  | [d] => { results := [.lit (.bool false)], args := [d] }
  | _ => none }
def FnExactValidShapeWrongFalsely : Prop := fnExactValidShapeRow.holds Try.pinned (OpenSpec.ofChange fnExactValidShapeWrong)

/-- 'laws.FnExactDepthOf': WHATEVER THE INPUT: true; the input reads as it did. -/
def fnExactDepthOfSpec : ChangeSpec := { name := "fnExactDepthOf", fn := fun _ => fun
  | [d1, d2] => { results := [.lit (.bool true)], args := [d1, d2] }
  | _ => none }
def fnExactDepthOfRow : OpenClaim := { program := "ytglppcgaebpiaaa", sum := "5953dea60319bf278cb22bc1112880c39e4a29538d146fad8a8065fc63c9778f", func := "loop.example/closurecells/laws.FnExactDepthOf", spec := "fnExactDepthOf", apart := false }
def FnExactDepthOfSaid : Prop := fnExactDepthOfRow.holds Try.pinned (OpenSpec.ofChange fnExactDepthOfSpec)

/-- ITS FALSE NEIGHBOUR: 'it returns false'. Refute it at one input. -/
def fnExactDepthOfWrong : ChangeSpec := { name := "fnExactDepthOf", fn := fun _ => fun
  | [d1, d2] => { results := [.lit (.bool false)], args := [d1, d2] }
  | _ => none }
def FnExactDepthOfWrongFalsely : Prop := fnExactDepthOfRow.holds Try.pinned (OpenSpec.ofChange fnExactDepthOfWrong)

/-- 'laws.FnExactChildrenOf': WHATEVER THE INPUT: true; the input reads as it did. -/
def fnExactChildrenOfSpec : ChangeSpec := { name := "fnExactChildrenOf", fn := fun _ => fun
  | [d1, d2] => { results := [.lit (.bool true)], args := [d1, d2] }
  | _ => none }
def fnExactChildrenOfRow : OpenClaim := { program := "ytglppcgaebpiaaa", sum := "5953dea60319bf278cb22bc1112880c39e4a29538d146fad8a8065fc63c9778f", func := "loop.example/closurecells/laws.FnExactChildrenOf", spec := "fnExactChildrenOf", apart := false }
def FnExactChildrenOfSaid : Prop := fnExactChildrenOfRow.holds Try.pinned (OpenSpec.ofChange fnExactChildrenOfSpec)

/-- ITS FALSE NEIGHBOUR: 'it returns false'. Refute it at one input. -/
def fnExactChildrenOfWrong : ChangeSpec := { name := "fnExactChildrenOf", fn := fun _ => fun
  | [d1, d2] => { results := [.lit (.bool false)], args := [d1, d2] }
  | _ => none }
def FnExactChildrenOfWrongFalsely : Prop := fnExactChildrenOfRow.holds Try.pinned (OpenSpec.ofChange fnExactChildrenOfWrong)

/-- 'laws.FnExactInsideOf': WHATEVER THE INPUT: true; the input reads as it did. -/
def fnExactInsideOfSpec : ChangeSpec := { name := "fnExactInsideOf", fn := fun _ => fun
  | [d1, d2] => { results := [.lit (.bool true)], args := [d1, d2] }
  | _ => none }
def fnExactInsideOfRow : OpenClaim := { program := "ytglppcgaebpiaaa", sum := "5953dea60319bf278cb22bc1112880c39e4a29538d146fad8a8065fc63c9778f", func := "loop.example/closurecells/laws.FnExactInsideOf", spec := "fnExactInsideOf", apart := false }
def FnExactInsideOfSaid : Prop := fnExactInsideOfRow.holds Try.pinned (OpenSpec.ofChange fnExactInsideOfSpec)

/-- ITS FALSE NEIGHBOUR: 'it returns false'. Refute it at one input. -/
def fnExactInsideOfWrong : ChangeSpec := { name := "fnExactInsideOf", fn := fun _ => fun
  | [d1, d2] => { results := [.lit (.bool false)], args := [d1, d2] }
  | _ => none }
def FnExactInsideOfWrongFalsely : Prop := fnExactInsideOfRow.holds Try.pinned (OpenSpec.ofChange fnExactInsideOfWrong)

/-- 'laws.FnExactDeclaredIn': WHATEVER THE INPUT: true; the input reads as it did. -/
def fnExactDeclaredInSpec : ChangeSpec := { name := "fnExactDeclaredIn", fn := fun _ => fun
  | [d1, d2, d3] => { results := [.lit (.bool true)], args := [d1, d2, d3] }
  | _ => none }
def fnExactDeclaredInRow : OpenClaim := { program := "ytglppcgaebpiaaa", sum := "5953dea60319bf278cb22bc1112880c39e4a29538d146fad8a8065fc63c9778f", func := "loop.example/closurecells/laws.FnExactDeclaredIn", spec := "fnExactDeclaredIn", apart := false }
def FnExactDeclaredInSaid : Prop := fnExactDeclaredInRow.holds Try.pinned (OpenSpec.ofChange fnExactDeclaredInSpec)

/-- ITS FALSE NEIGHBOUR: 'it returns false'. Refute it at one input. -/
def fnExactDeclaredInWrong : ChangeSpec := { name := "fnExactDeclaredIn", fn := fun _ => fun
  | [d1, d2, d3] => { results := [.lit (.bool false)], args := [d1, d2, d3] }
  | _ => none }
def FnExactDeclaredInWrongFalsely : Prop := fnExactDeclaredInRow.holds Try.pinned (OpenSpec.ofChange fnExactDeclaredInWrong)

/-- 'laws.FnExactReadIn': WHATEVER THE INPUT: true; the input reads as it did. -/
def fnExactReadInSpec : ChangeSpec := { name := "fnExactReadIn", fn := fun _ => fun
  | [d1, d2] => { results := [.lit (.bool true)], args := [d1, d2] }
  | _ => none }
def fnExactReadInRow : OpenClaim := { program := "ytglppcgaebpiaaa", sum := "5953dea60319bf278cb22bc1112880c39e4a29538d146fad8a8065fc63c9778f", func := "loop.example/closurecells/laws.FnExactReadIn", spec := "fnExactReadIn", unfollowed := true, recurses := true, apart := false }
def FnExactReadInSaid : Prop := fnExactReadInRow.holds Try.pinned (OpenSpec.ofChange fnExactReadInSpec)

/-- ITS FALSE NEIGHBOUR: 'it returns false'. Refute it at one input. -/
def fnExactReadInWrong : ChangeSpec := { name := "fnExactReadIn", fn := fun _ => fun
  | [d1, d2] => { results := [.lit (.bool false)], args := [d1, d2] }
  | _ => none }
def FnExactReadInWrongFalsely : Prop := fnExactReadInRow.holds Try.pinned (OpenSpec.ofChange fnExactReadInWrong)

/-- 'laws.FnExactBoundIn': WHATEVER THE INPUT: true; the input reads as it did. -/
def fnExactBoundInSpec : ChangeSpec := { name := "fnExactBoundIn", fn := fun _ => fun
  | [d1, d2] => { results := [.lit (.bool true)], args := [d1, d2] }
  | _ => none }
def fnExactBoundInRow : OpenClaim := { program := "ytglppcgaebpiaaa", sum := "5953dea60319bf278cb22bc1112880c39e4a29538d146fad8a8065fc63c9778f", func := "loop.example/closurecells/laws.FnExactBoundIn", spec := "fnExactBoundIn", apart := false }
def FnExactBoundInSaid : Prop := fnExactBoundInRow.holds Try.pinned (OpenSpec.ofChange fnExactBoundInSpec)

/-- ITS FALSE NEIGHBOUR: 'it returns false'. Refute it at one input. -/
def fnExactBoundInWrong : ChangeSpec := { name := "fnExactBoundIn", fn := fun _ => fun
  | [d1, d2] => { results := [.lit (.bool false)], args := [d1, d2] }
  | _ => none }
def FnExactBoundInWrongFalsely : Prop := fnExactBoundInRow.holds Try.pinned (OpenSpec.ofChange fnExactBoundInWrong)

/-- 'laws.FnExactLocalIn': WHATEVER THE INPUT: true; the input reads as it did. -/
def fnExactLocalInSpec : ChangeSpec := { name := "fnExactLocalIn", fn := fun _ => fun
  | [d1, d2, d3] => { results := [.lit (.bool true)], args := [d1, d2, d3] }
  | _ => none }
def fnExactLocalInRow : OpenClaim := { program := "ytglppcgaebpiaaa", sum := "5953dea60319bf278cb22bc1112880c39e4a29538d146fad8a8065fc63c9778f", func := "loop.example/closurecells/laws.FnExactLocalIn", spec := "fnExactLocalIn", unfollowed := true, recurses := true, apart := false }
def FnExactLocalInSaid : Prop := fnExactLocalInRow.holds Try.pinned (OpenSpec.ofChange fnExactLocalInSpec)

/-- ITS FALSE NEIGHBOUR: 'it returns false'. Refute it at one input. -/
def fnExactLocalInWrong : ChangeSpec := { name := "fnExactLocalIn", fn := fun _ => fun
  | [d1, d2, d3] => { results := [.lit (.bool false)], args := [d1, d2, d3] }
  | _ => none }
def FnExactLocalInWrongFalsely : Prop := fnExactLocalInRow.holds Try.pinned (OpenSpec.ofChange fnExactLocalInWrong)

/-- 'laws.FnExactIdleDeclarations': WHATEVER THE INPUT: true; the input reads as it did. -/
def fnExactIdleDeclarationsSpec : ChangeSpec := { name := "fnExactIdleDeclarations", fn := fun _ => fun
  | [d] => { results := [.lit (.bool true)], args := [d] }
  | _ => none }
def fnExactIdleDeclarationsRow : OpenClaim := { program := "ytglppcgaebpiaaa", sum := "5953dea60319bf278cb22bc1112880c39e4a29538d146fad8a8065fc63c9778f", func := "loop.example/closurecells/laws.FnExactIdleDeclarations", spec := "fnExactIdleDeclarations", unfollowed := true, recurses := true, apart := false }
def FnExactIdleDeclarationsSaid : Prop := fnExactIdleDeclarationsRow.holds Try.pinned (OpenSpec.ofChange fnExactIdleDeclarationsSpec)

/-- ITS FALSE NEIGHBOUR: 'it returns false'. Refute it at one input. -/
def fnExactIdleDeclarationsWrong : ChangeSpec := { name := "fnExactIdleDeclarations", fn := fun _ => fun
  | [d] => { results := [.lit (.bool false)], args := [d] }
  | _ => none }
def FnExactIdleDeclarationsWrongFalsely : Prop := fnExactIdleDeclarationsRow.holds Try.pinned (OpenSpec.ofChange fnExactIdleDeclarationsWrong)

/-- 'laws.FnExactBareProgram': WHATEVER THE INPUT: true; the input reads as it did. -/
def fnExactBareProgramSpec : ChangeSpec := { name := "fnExactBareProgram", fn := fun _ => fun
  | [d] => { results := [.lit (.bool true)], args := [d] }
  | _ => none }
def fnExactBareProgramRow : OpenClaim := { program := "ytglppcgaebpiaaa", sum := "5953dea60319bf278cb22bc1112880c39e4a29538d146fad8a8065fc63c9778f", func := "loop.example/closurecells/laws.FnExactBareProgram", spec := "fnExactBareProgram", unfollowed := true, recurses := true, apart := false }
def FnExactBareProgramSaid : Prop := fnExactBareProgramRow.holds Try.pinned (OpenSpec.ofChange fnExactBareProgramSpec)

/-- ITS FALSE NEIGHBOUR: 'it returns false'. Refute it at one input. -/
def fnExactBareProgramWrong : ChangeSpec := { name := "fnExactBareProgram", fn := fun _ => fun
  | [d] => { results := [.lit (.bool false)], args := [d] }
  | _ => none }
def FnExactBareProgramWrongFalsely : Prop := fnExactBareProgramRow.holds Try.pinned (OpenSpec.ofChange fnExactBareProgramWrong)

/-- 'laws.FnExactOuterOf': WHATEVER THE INPUT: true; the input reads as it did. -/
def fnExactOuterOfSpec : ChangeSpec := { name := "fnExactOuterOf", fn := fun _ => fun
  | [d1, d2, d3] => { results := [.lit (.bool true)], args := [d1, d2, d3] }
  | _ => none }
def fnExactOuterOfRow : OpenClaim := { program := "ytglppcgaebpiaaa", sum := "5953dea60319bf278cb22bc1112880c39e4a29538d146fad8a8065fc63c9778f", func := "loop.example/closurecells/laws.FnExactOuterOf", spec := "fnExactOuterOf", unfollowed := true, recurses := true, apart := false }
def FnExactOuterOfSaid : Prop := fnExactOuterOfRow.holds Try.pinned (OpenSpec.ofChange fnExactOuterOfSpec)

/-- ITS FALSE NEIGHBOUR: 'it returns false'. Refute it at one input. -/
def fnExactOuterOfWrong : ChangeSpec := { name := "fnExactOuterOf", fn := fun _ => fun
  | [d1, d2, d3] => { results := [.lit (.bool false)], args := [d1, d2, d3] }
  | _ => none }
def FnExactOuterOfWrongFalsely : Prop := fnExactOuterOfRow.holds Try.pinned (OpenSpec.ofChange fnExactOuterOfWrong)

/-- 'laws.FnExactValidProgram': WHATEVER THE INPUT: true; the input reads as it did. -/
def fnExactValidProgramSpec : ChangeSpec := { name := "fnExactValidProgram", fn := fun _ => fun
  | [d] => { results := [.lit (.bool true)], args := [d] }
  | _ => none }
def fnExactValidProgramRow : OpenClaim := { program := "ytglppcgaebpiaaa", sum := "5953dea60319bf278cb22bc1112880c39e4a29538d146fad8a8065fc63c9778f", func := "loop.example/closurecells/laws.FnExactValidProgram", spec := "fnExactValidProgram", unfollowed := true, recurses := true, apart := false }
def FnExactValidProgramSaid : Prop := fnExactValidProgramRow.holds Try.pinned (OpenSpec.ofChange fnExactValidProgramSpec)

/-- ITS FALSE NEIGHBOUR: 'it returns false'. Refute it at one input. -/
def fnExactValidProgramWrong : ChangeSpec := { name := "fnExactValidProgram", fn := fun _ => fun
  | [d] => { results := [.lit (.bool false)], args := [d] }
  | _ => none }
def FnExactValidProgramWrongFalsely : Prop := fnExactValidProgramRow.holds Try.pinned (OpenSpec.ofChange fnExactValidProgramWrong)

/-- 'laws.FnExactOwnerOf': WHATEVER THE INPUT: true; the input reads as it did. -/
def fnExactOwnerOfSpec : ChangeSpec := { name := "fnExactOwnerOf", fn := fun _ => fun
  | [d1, d2, d3] => { results := [.lit (.bool true)], args := [d1, d2, d3] }
  | _ => none }
def fnExactOwnerOfRow : OpenClaim := { program := "ytglppcgaebpiaaa", sum := "5953dea60319bf278cb22bc1112880c39e4a29538d146fad8a8065fc63c9778f", func := "loop.example/closurecells/laws.FnExactOwnerOf", spec := "fnExactOwnerOf", unfollowed := true, recurses := true, apart := false }
def FnExactOwnerOfSaid : Prop := fnExactOwnerOfRow.holds Try.pinned (OpenSpec.ofChange fnExactOwnerOfSpec)

/-- ITS FALSE NEIGHBOUR: 'it returns false'. Refute it at one input. -/
def fnExactOwnerOfWrong : ChangeSpec := { name := "fnExactOwnerOf", fn := fun _ => fun
  | [d1, d2, d3] => { results := [.lit (.bool false)], args := [d1, d2, d3] }
  | _ => none }
def FnExactOwnerOfWrongFalsely : Prop := fnExactOwnerOfRow.holds Try.pinned (OpenSpec.ofChange fnExactOwnerOfWrong)

/-- 'laws.FnExactSharesCell': WHATEVER THE INPUT: true; the input reads as it did. -/
def fnExactSharesCellSpec : ChangeSpec := { name := "fnExactSharesCell", fn := fun _ => fun
  | [d1, d2, d3, d4] => { results := [.lit (.bool true)], args := [d1, d2, d3, d4] }
  | _ => none }
def fnExactSharesCellRow : OpenClaim := { program := "ytglppcgaebpiaaa", sum := "5953dea60319bf278cb22bc1112880c39e4a29538d146fad8a8065fc63c9778f", func := "loop.example/closurecells/laws.FnExactSharesCell", spec := "fnExactSharesCell", unfollowed := true, recurses := true, apart := false }
def FnExactSharesCellSaid : Prop := fnExactSharesCellRow.holds Try.pinned (OpenSpec.ofChange fnExactSharesCellSpec)

/-- ITS FALSE NEIGHBOUR: 'it returns false'. Refute it at one input. -/
def fnExactSharesCellWrong : ChangeSpec := { name := "fnExactSharesCell", fn := fun _ => fun
  | [d1, d2, d3, d4] => { results := [.lit (.bool false)], args := [d1, d2, d3, d4] }
  | _ => none }
def FnExactSharesCellWrongFalsely : Prop := fnExactSharesCellRow.holds Try.pinned (OpenSpec.ofChange fnExactSharesCellWrong)

/-- 'laws.FnExactUsedIn': WHATEVER THE INPUT: true; the input reads as it did. -/
def fnExactUsedInSpec : ChangeSpec := { name := "fnExactUsedIn", fn := fun _ => fun
  | [d1, d2] => { results := [.lit (.bool true)], args := [d1, d2] }
  | _ => none }
def fnExactUsedInRow : OpenClaim := { program := "ytglppcgaebpiaaa", sum := "5953dea60319bf278cb22bc1112880c39e4a29538d146fad8a8065fc63c9778f", func := "loop.example/closurecells/laws.FnExactUsedIn", spec := "fnExactUsedIn", unfollowed := true, recurses := true, apart := false }
def FnExactUsedInSaid : Prop := fnExactUsedInRow.holds Try.pinned (OpenSpec.ofChange fnExactUsedInSpec)

/-- ITS FALSE NEIGHBOUR: 'it returns false'. Refute it at one input. -/
def fnExactUsedInWrong : ChangeSpec := { name := "fnExactUsedIn", fn := fun _ => fun
  | [d1, d2] => { results := [.lit (.bool false)], args := [d1, d2] }
  | _ => none }
def FnExactUsedInWrongFalsely : Prop := fnExactUsedInRow.holds Try.pinned (OpenSpec.ofChange fnExactUsedInWrong)

/-- 'laws.FnExactSymbolOf': WHATEVER THE INPUT: true; the input reads as it did. -/
def fnExactSymbolOfSpec : ChangeSpec := { name := "fnExactSymbolOf", fn := fun _ => fun
  | [d1, d2, d3] => { results := [.lit (.bool true)], args := [d1, d2, d3] }
  | _ => none }
def fnExactSymbolOfRow : OpenClaim := { program := "ytglppcgaebpiaaa", sum := "5953dea60319bf278cb22bc1112880c39e4a29538d146fad8a8065fc63c9778f", func := "loop.example/closurecells/laws.FnExactSymbolOf", spec := "fnExactSymbolOf", unfollowed := true, recurses := true, apart := false }
def FnExactSymbolOfSaid : Prop := fnExactSymbolOfRow.holds Try.pinned (OpenSpec.ofChange fnExactSymbolOfSpec)

/-- ITS FALSE NEIGHBOUR: 'it returns false'. Refute it at one input. -/
def fnExactSymbolOfWrong : ChangeSpec := { name := "fnExactSymbolOf", fn := fun _ => fun
  | [d1, d2, d3] => { results := [.lit (.bool false)], args := [d1, d2, d3] }
  | _ => none }
def FnExactSymbolOfWrongFalsely : Prop := fnExactSymbolOfRow.holds Try.pinned (OpenSpec.ofChange fnExactSymbolOfWrong)

/-- 'laws.FnExactTouchedBy': WHATEVER THE INPUT: true; the input reads as it did. -/
def fnExactTouchedBySpec : ChangeSpec := { name := "fnExactTouchedBy", fn := fun _ => fun
  | [d1, d2, d3] => { results := [.lit (.bool true)], args := [d1, d2, d3] }
  | _ => none }
def fnExactTouchedByRow : OpenClaim := { program := "ytglppcgaebpiaaa", sum := "5953dea60319bf278cb22bc1112880c39e4a29538d146fad8a8065fc63c9778f", func := "loop.example/closurecells/laws.FnExactTouchedBy", spec := "fnExactTouchedBy", unfollowed := true, recurses := true, apart := false }
def FnExactTouchedBySaid : Prop := fnExactTouchedByRow.holds Try.pinned (OpenSpec.ofChange fnExactTouchedBySpec)

/-- ITS FALSE NEIGHBOUR: 'it returns false'. Refute it at one input. -/
def fnExactTouchedByWrong : ChangeSpec := { name := "fnExactTouchedBy", fn := fun _ => fun
  | [d1, d2, d3] => { results := [.lit (.bool false)], args := [d1, d2, d3] }
  | _ => none }
def FnExactTouchedByWrongFalsely : Prop := fnExactTouchedByRow.holds Try.pinned (OpenSpec.ofChange fnExactTouchedByWrong)

/-- 'laws.FnExactCellsOf': WHATEVER THE INPUT: true; the input reads as it did. -/
def fnExactCellsOfSpec : ChangeSpec := { name := "fnExactCellsOf", fn := fun _ => fun
  | [d1, d2] => { results := [.lit (.bool true)], args := [d1, d2] }
  | _ => none }
def fnExactCellsOfRow : OpenClaim := { program := "ytglppcgaebpiaaa", sum := "5953dea60319bf278cb22bc1112880c39e4a29538d146fad8a8065fc63c9778f", func := "loop.example/closurecells/laws.FnExactCellsOf", spec := "fnExactCellsOf", unfollowed := true, recurses := true, apart := false }
def FnExactCellsOfSaid : Prop := fnExactCellsOfRow.holds Try.pinned (OpenSpec.ofChange fnExactCellsOfSpec)

/-- ITS FALSE NEIGHBOUR: 'it returns false'. Refute it at one input. -/
def fnExactCellsOfWrong : ChangeSpec := { name := "fnExactCellsOf", fn := fun _ => fun
  | [d1, d2] => { results := [.lit (.bool false)], args := [d1, d2] }
  | _ => none }
def FnExactCellsOfWrongFalsely : Prop := fnExactCellsOfRow.holds Try.pinned (OpenSpec.ofChange fnExactCellsOfWrong)

/-- 'laws.FnExactOwnersOf': WHATEVER THE INPUT: true; the input reads as it did. -/
def fnExactOwnersOfSpec : ChangeSpec := { name := "fnExactOwnersOf", fn := fun _ => fun
  | [d] => { results := [.lit (.bool true)], args := [d] }
  | _ => none }
def fnExactOwnersOfRow : OpenClaim := { program := "ytglppcgaebpiaaa", sum := "5953dea60319bf278cb22bc1112880c39e4a29538d146fad8a8065fc63c9778f", func := "loop.example/closurecells/laws.FnExactOwnersOf", spec := "fnExactOwnersOf", unfollowed := true, recurses := true, apart := false }
def FnExactOwnersOfSaid : Prop := fnExactOwnersOfRow.holds Try.pinned (OpenSpec.ofChange fnExactOwnersOfSpec)

/-- ITS FALSE NEIGHBOUR: 'it returns false'. Refute it at one input. -/
def fnExactOwnersOfWrong : ChangeSpec := { name := "fnExactOwnersOf", fn := fun _ => fun
  | [d] => { results := [.lit (.bool false)], args := [d] }
  | _ => none }
def FnExactOwnersOfWrongFalsely : Prop := fnExactOwnersOfRow.holds Try.pinned (OpenSpec.ofChange fnExactOwnersOfWrong)

/-- 'laws.FnExactFreesOf': WHATEVER THE INPUT: true; the input reads as it did. -/
def fnExactFreesOfSpec : ChangeSpec := { name := "fnExactFreesOf", fn := fun _ => fun
  | [d1, d2] => { results := [.lit (.bool true)], args := [d1, d2] }
  | _ => none }
def fnExactFreesOfRow : OpenClaim := { program := "ytglppcgaebpiaaa", sum := "5953dea60319bf278cb22bc1112880c39e4a29538d146fad8a8065fc63c9778f", func := "loop.example/closurecells/laws.FnExactFreesOf", spec := "fnExactFreesOf", unfollowed := true, recurses := true, apart := false }
def FnExactFreesOfSaid : Prop := fnExactFreesOfRow.holds Try.pinned (OpenSpec.ofChange fnExactFreesOfSpec)

/-- ITS FALSE NEIGHBOUR: 'it returns false'. Refute it at one input. -/
def fnExactFreesOfWrong : ChangeSpec := { name := "fnExactFreesOf", fn := fun _ => fun
  | [d1, d2] => { results := [.lit (.bool false)], args := [d1, d2] }
  | _ => none }
def FnExactFreesOfWrongFalsely : Prop := fnExactFreesOfRow.holds Try.pinned (OpenSpec.ofChange fnExactFreesOfWrong)

/-- 'laws.FnExactFastsOf': WHATEVER THE INPUT: true; the input reads as it did. -/
def fnExactFastsOfSpec : ChangeSpec := { name := "fnExactFastsOf", fn := fun _ => fun
  | [d1, d2] => { results := [.lit (.bool true)], args := [d1, d2] }
  | _ => none }
def fnExactFastsOfRow : OpenClaim := { program := "ytglppcgaebpiaaa", sum := "5953dea60319bf278cb22bc1112880c39e4a29538d146fad8a8065fc63c9778f", func := "loop.example/closurecells/laws.FnExactFastsOf", spec := "fnExactFastsOf", unfollowed := true, recurses := true, apart := false }
def FnExactFastsOfSaid : Prop := fnExactFastsOfRow.holds Try.pinned (OpenSpec.ofChange fnExactFastsOfSpec)

/-- ITS FALSE NEIGHBOUR: 'it returns false'. Refute it at one input. -/
def fnExactFastsOfWrong : ChangeSpec := { name := "fnExactFastsOf", fn := fun _ => fun
  | [d1, d2] => { results := [.lit (.bool false)], args := [d1, d2] }
  | _ => none }
def FnExactFastsOfWrongFalsely : Prop := fnExactFastsOfRow.holds Try.pinned (OpenSpec.ofChange fnExactFastsOfWrong)

/-- 'laws.FnExactSeenIn': WHATEVER THE INPUT: true; the input reads as it did. -/
def fnExactSeenInSpec : ChangeSpec := { name := "fnExactSeenIn", fn := fun _ => fun
  | [d1, d2] => { results := [.lit (.bool true)], args := [d1, d2] }
  | _ => none }
def fnExactSeenInRow : OpenClaim := { program := "ytglppcgaebpiaaa", sum := "5953dea60319bf278cb22bc1112880c39e4a29538d146fad8a8065fc63c9778f", func := "loop.example/closurecells/laws.FnExactSeenIn", spec := "fnExactSeenIn", unfollowed := true, recurses := true, apart := false }
def FnExactSeenInSaid : Prop := fnExactSeenInRow.holds Try.pinned (OpenSpec.ofChange fnExactSeenInSpec)

/-- ITS FALSE NEIGHBOUR: 'it returns false'. Refute it at one input. -/
def fnExactSeenInWrong : ChangeSpec := { name := "fnExactSeenIn", fn := fun _ => fun
  | [d1, d2] => { results := [.lit (.bool false)], args := [d1, d2] }
  | _ => none }
def FnExactSeenInWrongFalsely : Prop := fnExactSeenInRow.holds Try.pinned (OpenSpec.ofChange fnExactSeenInWrong)

/-- 'laws.FnExactSameMeaning': WHATEVER THE INPUT: true; the input reads as it did. -/
def fnExactSameMeaningSpec : ChangeSpec := { name := "fnExactSameMeaning", fn := fun _ => fun
  | [d1, d2] => { results := [.lit (.bool true)], args := [d1, d2] }
  | _ => none }
def fnExactSameMeaningRow : OpenClaim := { program := "ytglppcgaebpiaaa", sum := "5953dea60319bf278cb22bc1112880c39e4a29538d146fad8a8065fc63c9778f", func := "loop.example/closurecells/laws.FnExactSameMeaning", spec := "fnExactSameMeaning", unfollowed := true, recurses := true, apart := false }
def FnExactSameMeaningSaid : Prop := fnExactSameMeaningRow.holds Try.pinned (OpenSpec.ofChange fnExactSameMeaningSpec)

/-- ITS FALSE NEIGHBOUR: 'it returns false'. Refute it at one input. -/
def fnExactSameMeaningWrong : ChangeSpec := { name := "fnExactSameMeaning", fn := fun _ => fun
  | [d1, d2] => { results := [.lit (.bool false)], args := [d1, d2] }
  | _ => none }
def FnExactSameMeaningWrongFalsely : Prop := fnExactSameMeaningRow.holds Try.pinned (OpenSpec.ofChange fnExactSameMeaningWrong)

/-- 'laws.FnExactCapturesOf': WHATEVER THE INPUT: true; the input reads as it did. -/
def fnExactCapturesOfSpec : ChangeSpec := { name := "fnExactCapturesOf", fn := fun _ => fun
  | [d1, d2] => { results := [.lit (.bool true)], args := [d1, d2] }
  | _ => none }
def fnExactCapturesOfRow : OpenClaim := { program := "ytglppcgaebpiaaa", sum := "5953dea60319bf278cb22bc1112880c39e4a29538d146fad8a8065fc63c9778f", func := "loop.example/closurecells/laws.FnExactCapturesOf", spec := "fnExactCapturesOf", unfollowed := true, recurses := true, apart := false }
def FnExactCapturesOfSaid : Prop := fnExactCapturesOfRow.holds Try.pinned (OpenSpec.ofChange fnExactCapturesOfSpec)

/-- ITS FALSE NEIGHBOUR: 'it returns false'. Refute it at one input. -/
def fnExactCapturesOfWrong : ChangeSpec := { name := "fnExactCapturesOf", fn := fun _ => fun
  | [d1, d2] => { results := [.lit (.bool false)], args := [d1, d2] }
  | _ => none }
def FnExactCapturesOfWrongFalsely : Prop := fnExactCapturesOfRow.holds Try.pinned (OpenSpec.ofChange fnExactCapturesOfWrong)

/- THE SECOND FORM. 'bulk': how many values and letters a reading holds, each counted each time it is reached (what is shared counts as often as it is met; a slice's spare places count too). A statement '..UptoSaid' is the law's where the arguments, and the package variables that the reading takes, are together of bulk at most 1048576: NARROWER than '..Said'. Prove '..Said' where nothing that the law and all that it calls make is longer than what came in: it says more and counts as full. Else prove '..UptoSaid'. A law counts once. -/
mutual
def uptoBulk {H : Type} : DataW H → Nat
  | .lit (.string bytes) => bytes.length + 1
  | .lit _ => 1
  | .nil => 1
  | .ptr d => uptoBulk d + 1
  | .slice elems spare => uptoBulkAll elems + uptoBulkAll spare + 1
  | .agg parts => uptoBulkAll parts + 1
  | .iface _ d => uptoBulk d + 1
  | .map entries => uptoBulkEntries entries + 1
  | .held _ => 1
def uptoBulkAll {H : Type} : List (DataW H) → Nat
  | [] => 0
  | d :: r => uptoBulk d + uptoBulkAll r
def uptoBulkEntries {H : Type} : List (Lit × DataW H) → Nat
  | [] => 0
  | x :: r => uptoBulkEntry x + uptoBulkEntries r
def uptoBulkEntry {H : Type} : Lit × DataW H → Nat
  | (.string bytes, d) => bytes.length + uptoBulk d + 1
  | (_, d) => uptoBulk d + 1
 end
def uptoSmall : (H : Type) → List (DataW H) → Bool := fun _ ds => decide (uptoBulkAll ds ≤ 1048576)
def OpenSpec.upto (s : _root_.Go.ChangeSpec) : _root_.Go.OpenSpec := { _root_.Go.OpenSpec.ofChange s with cond := some uptoSmall }

/-- 'laws.FnExactConstants', WHERE WHAT IT READS IS OF BULK AT MOST 1048576: true; the input reads as it did. -/
def fnExactConstantsUptoRow : OpenClaim := { program := "ytglppcgaebpiaaa", sum := "5953dea60319bf278cb22bc1112880c39e4a29538d146fad8a8065fc63c9778f", func := "loop.example/closurecells/laws.FnExactConstants", spec := "fnExactConstants", apart := false, narrowed := true }
def FnExactConstantsUptoSaid : Prop := fnExactConstantsUptoRow.holds Try.pinned (OpenSpec.upto fnExactConstantsSpec)

/-- 'laws.FnExactShownOf', WHERE WHAT IT READS IS OF BULK AT MOST 1048576: true; the input reads as it did. -/
def fnExactShownOfUptoRow : OpenClaim := { program := "ytglppcgaebpiaaa", sum := "5953dea60319bf278cb22bc1112880c39e4a29538d146fad8a8065fc63c9778f", func := "loop.example/closurecells/laws.FnExactShownOf", spec := "fnExactShownOf", apart := false, narrowed := true }
def FnExactShownOfUptoSaid : Prop := fnExactShownOfUptoRow.holds Try.pinned (OpenSpec.upto fnExactShownOfSpec)

/-- 'laws.FnExactValidShape', WHERE WHAT IT READS IS OF BULK AT MOST 1048576: true; the input reads as it did. -/
def fnExactValidShapeUptoRow : OpenClaim := { program := "ytglppcgaebpiaaa", sum := "5953dea60319bf278cb22bc1112880c39e4a29538d146fad8a8065fc63c9778f", func := "loop.example/closurecells/laws.FnExactValidShape", spec := "fnExactValidShape", apart := false, narrowed := true }
def FnExactValidShapeUptoSaid : Prop := fnExactValidShapeUptoRow.holds Try.pinned (OpenSpec.upto fnExactValidShapeSpec)

/-- 'laws.FnExactDepthOf', WHERE WHAT IT READS IS OF BULK AT MOST 1048576: true; the input reads as it did. -/
def fnExactDepthOfUptoRow : OpenClaim := { program := "ytglppcgaebpiaaa", sum := "5953dea60319bf278cb22bc1112880c39e4a29538d146fad8a8065fc63c9778f", func := "loop.example/closurecells/laws.FnExactDepthOf", spec := "fnExactDepthOf", apart := false, narrowed := true }
def FnExactDepthOfUptoSaid : Prop := fnExactDepthOfUptoRow.holds Try.pinned (OpenSpec.upto fnExactDepthOfSpec)

/-- 'laws.FnExactChildrenOf', WHERE WHAT IT READS IS OF BULK AT MOST 1048576: true; the input reads as it did. -/
def fnExactChildrenOfUptoRow : OpenClaim := { program := "ytglppcgaebpiaaa", sum := "5953dea60319bf278cb22bc1112880c39e4a29538d146fad8a8065fc63c9778f", func := "loop.example/closurecells/laws.FnExactChildrenOf", spec := "fnExactChildrenOf", apart := false, narrowed := true }
def FnExactChildrenOfUptoSaid : Prop := fnExactChildrenOfUptoRow.holds Try.pinned (OpenSpec.upto fnExactChildrenOfSpec)

/-- 'laws.FnExactInsideOf', WHERE WHAT IT READS IS OF BULK AT MOST 1048576: true; the input reads as it did. -/
def fnExactInsideOfUptoRow : OpenClaim := { program := "ytglppcgaebpiaaa", sum := "5953dea60319bf278cb22bc1112880c39e4a29538d146fad8a8065fc63c9778f", func := "loop.example/closurecells/laws.FnExactInsideOf", spec := "fnExactInsideOf", apart := false, narrowed := true }
def FnExactInsideOfUptoSaid : Prop := fnExactInsideOfUptoRow.holds Try.pinned (OpenSpec.upto fnExactInsideOfSpec)

/-- 'laws.FnExactDeclaredIn', WHERE WHAT IT READS IS OF BULK AT MOST 1048576: true; the input reads as it did. -/
def fnExactDeclaredInUptoRow : OpenClaim := { program := "ytglppcgaebpiaaa", sum := "5953dea60319bf278cb22bc1112880c39e4a29538d146fad8a8065fc63c9778f", func := "loop.example/closurecells/laws.FnExactDeclaredIn", spec := "fnExactDeclaredIn", apart := false, narrowed := true }
def FnExactDeclaredInUptoSaid : Prop := fnExactDeclaredInUptoRow.holds Try.pinned (OpenSpec.upto fnExactDeclaredInSpec)

/-- 'laws.FnExactReadIn', WHERE WHAT IT READS IS OF BULK AT MOST 1048576: true; the input reads as it did. -/
def fnExactReadInUptoRow : OpenClaim := { program := "ytglppcgaebpiaaa", sum := "5953dea60319bf278cb22bc1112880c39e4a29538d146fad8a8065fc63c9778f", func := "loop.example/closurecells/laws.FnExactReadIn", spec := "fnExactReadIn", unfollowed := true, recurses := true, apart := false, narrowed := true }
def FnExactReadInUptoSaid : Prop := fnExactReadInUptoRow.holds Try.pinned (OpenSpec.upto fnExactReadInSpec)

/-- 'laws.FnExactBoundIn', WHERE WHAT IT READS IS OF BULK AT MOST 1048576: true; the input reads as it did. -/
def fnExactBoundInUptoRow : OpenClaim := { program := "ytglppcgaebpiaaa", sum := "5953dea60319bf278cb22bc1112880c39e4a29538d146fad8a8065fc63c9778f", func := "loop.example/closurecells/laws.FnExactBoundIn", spec := "fnExactBoundIn", apart := false, narrowed := true }
def FnExactBoundInUptoSaid : Prop := fnExactBoundInUptoRow.holds Try.pinned (OpenSpec.upto fnExactBoundInSpec)

/-- 'laws.FnExactLocalIn', WHERE WHAT IT READS IS OF BULK AT MOST 1048576: true; the input reads as it did. -/
def fnExactLocalInUptoRow : OpenClaim := { program := "ytglppcgaebpiaaa", sum := "5953dea60319bf278cb22bc1112880c39e4a29538d146fad8a8065fc63c9778f", func := "loop.example/closurecells/laws.FnExactLocalIn", spec := "fnExactLocalIn", unfollowed := true, recurses := true, apart := false, narrowed := true }
def FnExactLocalInUptoSaid : Prop := fnExactLocalInUptoRow.holds Try.pinned (OpenSpec.upto fnExactLocalInSpec)

/-- 'laws.FnExactIdleDeclarations', WHERE WHAT IT READS IS OF BULK AT MOST 1048576: true; the input reads as it did. -/
def fnExactIdleDeclarationsUptoRow : OpenClaim := { program := "ytglppcgaebpiaaa", sum := "5953dea60319bf278cb22bc1112880c39e4a29538d146fad8a8065fc63c9778f", func := "loop.example/closurecells/laws.FnExactIdleDeclarations", spec := "fnExactIdleDeclarations", unfollowed := true, recurses := true, apart := false, narrowed := true }
def FnExactIdleDeclarationsUptoSaid : Prop := fnExactIdleDeclarationsUptoRow.holds Try.pinned (OpenSpec.upto fnExactIdleDeclarationsSpec)

/-- 'laws.FnExactBareProgram', WHERE WHAT IT READS IS OF BULK AT MOST 1048576: true; the input reads as it did. -/
def fnExactBareProgramUptoRow : OpenClaim := { program := "ytglppcgaebpiaaa", sum := "5953dea60319bf278cb22bc1112880c39e4a29538d146fad8a8065fc63c9778f", func := "loop.example/closurecells/laws.FnExactBareProgram", spec := "fnExactBareProgram", unfollowed := true, recurses := true, apart := false, narrowed := true }
def FnExactBareProgramUptoSaid : Prop := fnExactBareProgramUptoRow.holds Try.pinned (OpenSpec.upto fnExactBareProgramSpec)

/-- 'laws.FnExactOuterOf', WHERE WHAT IT READS IS OF BULK AT MOST 1048576: true; the input reads as it did. -/
def fnExactOuterOfUptoRow : OpenClaim := { program := "ytglppcgaebpiaaa", sum := "5953dea60319bf278cb22bc1112880c39e4a29538d146fad8a8065fc63c9778f", func := "loop.example/closurecells/laws.FnExactOuterOf", spec := "fnExactOuterOf", unfollowed := true, recurses := true, apart := false, narrowed := true }
def FnExactOuterOfUptoSaid : Prop := fnExactOuterOfUptoRow.holds Try.pinned (OpenSpec.upto fnExactOuterOfSpec)

/-- 'laws.FnExactValidProgram', WHERE WHAT IT READS IS OF BULK AT MOST 1048576: true; the input reads as it did. -/
def fnExactValidProgramUptoRow : OpenClaim := { program := "ytglppcgaebpiaaa", sum := "5953dea60319bf278cb22bc1112880c39e4a29538d146fad8a8065fc63c9778f", func := "loop.example/closurecells/laws.FnExactValidProgram", spec := "fnExactValidProgram", unfollowed := true, recurses := true, apart := false, narrowed := true }
def FnExactValidProgramUptoSaid : Prop := fnExactValidProgramUptoRow.holds Try.pinned (OpenSpec.upto fnExactValidProgramSpec)

/-- 'laws.FnExactOwnerOf', WHERE WHAT IT READS IS OF BULK AT MOST 1048576: true; the input reads as it did. -/
def fnExactOwnerOfUptoRow : OpenClaim := { program := "ytglppcgaebpiaaa", sum := "5953dea60319bf278cb22bc1112880c39e4a29538d146fad8a8065fc63c9778f", func := "loop.example/closurecells/laws.FnExactOwnerOf", spec := "fnExactOwnerOf", unfollowed := true, recurses := true, apart := false, narrowed := true }
def FnExactOwnerOfUptoSaid : Prop := fnExactOwnerOfUptoRow.holds Try.pinned (OpenSpec.upto fnExactOwnerOfSpec)

/-- 'laws.FnExactSharesCell', WHERE WHAT IT READS IS OF BULK AT MOST 1048576: true; the input reads as it did. -/
def fnExactSharesCellUptoRow : OpenClaim := { program := "ytglppcgaebpiaaa", sum := "5953dea60319bf278cb22bc1112880c39e4a29538d146fad8a8065fc63c9778f", func := "loop.example/closurecells/laws.FnExactSharesCell", spec := "fnExactSharesCell", unfollowed := true, recurses := true, apart := false, narrowed := true }
def FnExactSharesCellUptoSaid : Prop := fnExactSharesCellUptoRow.holds Try.pinned (OpenSpec.upto fnExactSharesCellSpec)

/-- 'laws.FnExactUsedIn', WHERE WHAT IT READS IS OF BULK AT MOST 1048576: true; the input reads as it did. -/
def fnExactUsedInUptoRow : OpenClaim := { program := "ytglppcgaebpiaaa", sum := "5953dea60319bf278cb22bc1112880c39e4a29538d146fad8a8065fc63c9778f", func := "loop.example/closurecells/laws.FnExactUsedIn", spec := "fnExactUsedIn", unfollowed := true, recurses := true, apart := false, narrowed := true }
def FnExactUsedInUptoSaid : Prop := fnExactUsedInUptoRow.holds Try.pinned (OpenSpec.upto fnExactUsedInSpec)

/-- 'laws.FnExactSymbolOf', WHERE WHAT IT READS IS OF BULK AT MOST 1048576: true; the input reads as it did. -/
def fnExactSymbolOfUptoRow : OpenClaim := { program := "ytglppcgaebpiaaa", sum := "5953dea60319bf278cb22bc1112880c39e4a29538d146fad8a8065fc63c9778f", func := "loop.example/closurecells/laws.FnExactSymbolOf", spec := "fnExactSymbolOf", unfollowed := true, recurses := true, apart := false, narrowed := true }
def FnExactSymbolOfUptoSaid : Prop := fnExactSymbolOfUptoRow.holds Try.pinned (OpenSpec.upto fnExactSymbolOfSpec)

/-- 'laws.FnExactTouchedBy', WHERE WHAT IT READS IS OF BULK AT MOST 1048576: true; the input reads as it did. -/
def fnExactTouchedByUptoRow : OpenClaim := { program := "ytglppcgaebpiaaa", sum := "5953dea60319bf278cb22bc1112880c39e4a29538d146fad8a8065fc63c9778f", func := "loop.example/closurecells/laws.FnExactTouchedBy", spec := "fnExactTouchedBy", unfollowed := true, recurses := true, apart := false, narrowed := true }
def FnExactTouchedByUptoSaid : Prop := fnExactTouchedByUptoRow.holds Try.pinned (OpenSpec.upto fnExactTouchedBySpec)

/-- 'laws.FnExactCellsOf', WHERE WHAT IT READS IS OF BULK AT MOST 1048576: true; the input reads as it did. -/
def fnExactCellsOfUptoRow : OpenClaim := { program := "ytglppcgaebpiaaa", sum := "5953dea60319bf278cb22bc1112880c39e4a29538d146fad8a8065fc63c9778f", func := "loop.example/closurecells/laws.FnExactCellsOf", spec := "fnExactCellsOf", unfollowed := true, recurses := true, apart := false, narrowed := true }
def FnExactCellsOfUptoSaid : Prop := fnExactCellsOfUptoRow.holds Try.pinned (OpenSpec.upto fnExactCellsOfSpec)

/-- 'laws.FnExactOwnersOf', WHERE WHAT IT READS IS OF BULK AT MOST 1048576: true; the input reads as it did. -/
def fnExactOwnersOfUptoRow : OpenClaim := { program := "ytglppcgaebpiaaa", sum := "5953dea60319bf278cb22bc1112880c39e4a29538d146fad8a8065fc63c9778f", func := "loop.example/closurecells/laws.FnExactOwnersOf", spec := "fnExactOwnersOf", unfollowed := true, recurses := true, apart := false, narrowed := true }
def FnExactOwnersOfUptoSaid : Prop := fnExactOwnersOfUptoRow.holds Try.pinned (OpenSpec.upto fnExactOwnersOfSpec)

/-- 'laws.FnExactFreesOf', WHERE WHAT IT READS IS OF BULK AT MOST 1048576: true; the input reads as it did. -/
def fnExactFreesOfUptoRow : OpenClaim := { program := "ytglppcgaebpiaaa", sum := "5953dea60319bf278cb22bc1112880c39e4a29538d146fad8a8065fc63c9778f", func := "loop.example/closurecells/laws.FnExactFreesOf", spec := "fnExactFreesOf", unfollowed := true, recurses := true, apart := false, narrowed := true }
def FnExactFreesOfUptoSaid : Prop := fnExactFreesOfUptoRow.holds Try.pinned (OpenSpec.upto fnExactFreesOfSpec)

/-- 'laws.FnExactFastsOf', WHERE WHAT IT READS IS OF BULK AT MOST 1048576: true; the input reads as it did. -/
def fnExactFastsOfUptoRow : OpenClaim := { program := "ytglppcgaebpiaaa", sum := "5953dea60319bf278cb22bc1112880c39e4a29538d146fad8a8065fc63c9778f", func := "loop.example/closurecells/laws.FnExactFastsOf", spec := "fnExactFastsOf", unfollowed := true, recurses := true, apart := false, narrowed := true }
def FnExactFastsOfUptoSaid : Prop := fnExactFastsOfUptoRow.holds Try.pinned (OpenSpec.upto fnExactFastsOfSpec)

/-- 'laws.FnExactSeenIn', WHERE WHAT IT READS IS OF BULK AT MOST 1048576: true; the input reads as it did. -/
def fnExactSeenInUptoRow : OpenClaim := { program := "ytglppcgaebpiaaa", sum := "5953dea60319bf278cb22bc1112880c39e4a29538d146fad8a8065fc63c9778f", func := "loop.example/closurecells/laws.FnExactSeenIn", spec := "fnExactSeenIn", unfollowed := true, recurses := true, apart := false, narrowed := true }
def FnExactSeenInUptoSaid : Prop := fnExactSeenInUptoRow.holds Try.pinned (OpenSpec.upto fnExactSeenInSpec)

/-- 'laws.FnExactSameMeaning', WHERE WHAT IT READS IS OF BULK AT MOST 1048576: true; the input reads as it did. -/
def fnExactSameMeaningUptoRow : OpenClaim := { program := "ytglppcgaebpiaaa", sum := "5953dea60319bf278cb22bc1112880c39e4a29538d146fad8a8065fc63c9778f", func := "loop.example/closurecells/laws.FnExactSameMeaning", spec := "fnExactSameMeaning", unfollowed := true, recurses := true, apart := false, narrowed := true }
def FnExactSameMeaningUptoSaid : Prop := fnExactSameMeaningUptoRow.holds Try.pinned (OpenSpec.upto fnExactSameMeaningSpec)

/-- 'laws.FnExactCapturesOf', WHERE WHAT IT READS IS OF BULK AT MOST 1048576: true; the input reads as it did. -/
def fnExactCapturesOfUptoRow : OpenClaim := { program := "ytglppcgaebpiaaa", sum := "5953dea60319bf278cb22bc1112880c39e4a29538d146fad8a8065fc63c9778f", func := "loop.example/closurecells/laws.FnExactCapturesOf", spec := "fnExactCapturesOf", unfollowed := true, recurses := true, apart := false, narrowed := true }
def FnExactCapturesOfUptoSaid : Prop := fnExactCapturesOfUptoRow.holds Try.pinned (OpenSpec.upto fnExactCapturesOfSpec)

end Rows
end Go.Proofs.Ytglppcgaebpiaaa
