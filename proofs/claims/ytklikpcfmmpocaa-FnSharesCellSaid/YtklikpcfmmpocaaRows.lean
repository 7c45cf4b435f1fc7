/-
  No cell of these rows narrows 'for every input' (looked for: loops, veiled, ifaces, maps, wideKeys, modest, calm, conditions, laid).
  DERIVED. THE GIVEN ROWS OF THIS SEAT. 29 by the template 'for every input the law returns true; each argument reads behind the call as it read before'; 0 by the template 'total and deterministic' (their statements: YtklikpcfmmpocaaTotals.lean).
  GIVEN WITH THE SEED: the statements are not yours to turn. If you find one false, say at which input.
  Laid BY PROGRAM, IN A SANDBOX (cutbox-rows.mjs): the forced cells as the released guide's own fill.sh prints them over the translation 524a9a54988b1d9f… (all of the seat's roots in one cut). By AI agents, Wed Nov 11 2026. No macro, syntax, notation, axiom, sorry.
-/
import Derived.Test.YtklikpcfmmpocaaChecked
import GoSem.Claim
import GoSem.ClaimJoined
import GoSem.ClaimMapViews
import Derived.JoinedTies
import Derived.KernelRfl
namespace Go.Proofs.Ytklikpcfmmpocaa
/- THE CELL 'sum', in the pinned program and in every row, IS THE sha256 OF THE DUMP (.gsa) THAT YtklikpcfmmpocaaProg.lean LOADS. Nothing in Lean hashes anything: it is a label: what it is worth is what the hold of that sum in a sandbox is worth. -/
noncomputable def Try.pinned : Pinned := { name := "ytklikpcfmmpocaa", sum := "524a9a54988b1d9fed4ace85dbf816f0e32b66253dabac4279bf3f3090fb2c19", checked := Try.checked }
namespace Rows
def none {H : Type} : Left H := { results := [], args := [] }

/-- 'laws.FnShownOf': WHATEVER THE INPUT: true; the input reads as it did. -/
def fnShownOfSpec : ChangeSpec := { name := "fnShownOf", fn := fun _ => fun
  | [d] => { results := [.lit (.bool true)], args := [d] }
  | _ => none }
def fnShownOfRow : OpenClaim := { program := "ytklikpcfmmpocaa", sum := "524a9a54988b1d9fed4ace85dbf816f0e32b66253dabac4279bf3f3090fb2c19", func := "loop.example/closurecells/laws.FnShownOf", spec := "fnShownOf", apart := false }
def FnShownOfSaid : Prop := fnShownOfRow.holds Try.pinned (OpenSpec.ofChange fnShownOfSpec)

/-- ITS FALSE NEIGHBOUR: 'it returns false'. Refute it at one input. -/
def fnShownOfWrong : ChangeSpec := { name := "fnShownOf", fn := fun _ => fun
  | [d] => { results := [.lit (.bool false)], args := [d] }
  | _ => none }
def FnShownOfWrongFalsely : Prop := fnShownOfRow.holds Try.pinned (OpenSpec.ofChange fnShownOfWrong)

/-- 'laws.FnValidShape': WHATEVER THE INPUT: true; the input reads as it did. -/
def fnValidShapeSpec : ChangeSpec := { name := "fnValidShape", fn := fun _ => fun
  | [d] => { results := [.lit (.bool true)], args := [d] }
  | _ => none }
def fnValidShapeRow : OpenClaim := { program := "ytklikpcfmmpocaa", sum := "524a9a54988b1d9fed4ace85dbf816f0e32b66253dabac4279bf3f3090fb2c19", func := "loop.example/closurecells/laws.FnValidShape", spec := "fnValidShape", apart := false }
def FnValidShapeSaid : Prop := fnValidShapeRow.holds Try.pinned (OpenSpec.ofChange fnValidShapeSpec)

/-- ITS FALSE NEIGHBOUR: 'it returns false'. Refute it at one input. -/
def fnValidShapeWrong : ChangeSpec := { name := "fnValidShape", fn := fun _ => fun
  | [d] => { results := [.lit (.bool false)], args := [d] }
  | _ => none }
def FnValidShapeWrongFalsely : Prop := fnValidShapeRow.holds Try.pinned (OpenSpec.ofChange fnValidShapeWrong)

/-- 'laws.FnDepthOf': WHATEVER THE INPUT: true; the input reads as it did. -/
def fnDepthOfSpec : ChangeSpec := { name := "fnDepthOf", fn := fun _ => fun
  | [d] => { results := [.lit (.bool true)], args := [d] }
  | _ => none }
def fnDepthOfRow : OpenClaim := { program := "ytklikpcfmmpocaa", sum := "524a9a54988b1d9fed4ace85dbf816f0e32b66253dabac4279bf3f3090fb2c19", func := "loop.example/closurecells/laws.FnDepthOf", spec := "fnDepthOf", apart := false }
def FnDepthOfSaid : Prop := fnDepthOfRow.holds Try.pinned (OpenSpec.ofChange fnDepthOfSpec)

/-- ITS FALSE NEIGHBOUR: 'it returns false'. Refute it at one input. -/
def fnDepthOfWrong : ChangeSpec := { name := "fnDepthOf", fn := fun _ => fun
  | [d] => { results := [.lit (.bool false)], args := [d] }
  | _ => none }
def FnDepthOfWrongFalsely : Prop := fnDepthOfRow.holds Try.pinned (OpenSpec.ofChange fnDepthOfWrong)

/-- 'laws.FnChildrenOf': WHATEVER THE INPUT: true; the input reads as it did. -/
def fnChildrenOfSpec : ChangeSpec := { name := "fnChildrenOf", fn := fun _ => fun
  | [d] => { results := [.lit (.bool true)], args := [d] }
  | _ => none }
def fnChildrenOfRow : OpenClaim := { program := "ytklikpcfmmpocaa", sum := "524a9a54988b1d9fed4ace85dbf816f0e32b66253dabac4279bf3f3090fb2c19", func := "loop.example/closurecells/laws.FnChildrenOf", spec := "fnChildrenOf", apart := false }
def FnChildrenOfSaid : Prop := fnChildrenOfRow.holds Try.pinned (OpenSpec.ofChange fnChildrenOfSpec)

/-- ITS FALSE NEIGHBOUR: 'it returns false'. Refute it at one input. -/
def fnChildrenOfWrong : ChangeSpec := { name := "fnChildrenOf", fn := fun _ => fun
  | [d] => { results := [.lit (.bool false)], args := [d] }
  | _ => none }
def FnChildrenOfWrongFalsely : Prop := fnChildrenOfRow.holds Try.pinned (OpenSpec.ofChange fnChildrenOfWrong)

/-- 'laws.FnDeclaredIn': WHATEVER THE INPUT: true; the input reads as it did. -/
def fnDeclaredInSpec : ChangeSpec := { name := "fnDeclaredIn", fn := fun _ => fun
  | [d] => { results := [.lit (.bool true)], args := [d] }
  | _ => none }
def fnDeclaredInRow : OpenClaim := { program := "ytklikpcfmmpocaa", sum := "524a9a54988b1d9fed4ace85dbf816f0e32b66253dabac4279bf3f3090fb2c19", func := "loop.example/closurecells/laws.FnDeclaredIn", spec := "fnDeclaredIn", apart := false }
def FnDeclaredInSaid : Prop := fnDeclaredInRow.holds Try.pinned (OpenSpec.ofChange fnDeclaredInSpec)

/-- ITS FALSE NEIGHBOUR: 'it returns false'. Refute it at one input. -/
def fnDeclaredInWrong : ChangeSpec := { name := "fnDeclaredIn", fn := fun _ => fun
  | [d] => { results := [.lit (.bool false)], args := [d] }
  | _ => none }
def FnDeclaredInWrongFalsely : Prop := fnDeclaredInRow.holds Try.pinned (OpenSpec.ofChange fnDeclaredInWrong)

/-- 'laws.FnBoundIn': WHATEVER THE INPUT: true; the input reads as it did. -/
def fnBoundInSpec : ChangeSpec := { name := "fnBoundIn", fn := fun _ => fun
  | [d] => { results := [.lit (.bool true)], args := [d] }
  | _ => none }
def fnBoundInRow : OpenClaim := { program := "ytklikpcfmmpocaa", sum := "524a9a54988b1d9fed4ace85dbf816f0e32b66253dabac4279bf3f3090fb2c19", func := "loop.example/closurecells/laws.FnBoundIn", spec := "fnBoundIn", apart := false }
def FnBoundInSaid : Prop := fnBoundInRow.holds Try.pinned (OpenSpec.ofChange fnBoundInSpec)

/-- ITS FALSE NEIGHBOUR: 'it returns false'. Refute it at one input. -/
def fnBoundInWrong : ChangeSpec := { name := "fnBoundIn", fn := fun _ => fun
  | [d] => { results := [.lit (.bool false)], args := [d] }
  | _ => none }
def FnBoundInWrongFalsely : Prop := fnBoundInRow.holds Try.pinned (OpenSpec.ofChange fnBoundInWrong)

/-- 'laws.FnExactIdleDeclarations': WHATEVER THE INPUT: true; the input reads as it did. -/
def fnExactIdleDeclarationsSpec : ChangeSpec := { name := "fnExactIdleDeclarations", fn := fun _ => fun
  | [d] => { results := [.lit (.bool true)], args := [d] }
  | _ => none }
def fnExactIdleDeclarationsRow : OpenClaim := { program := "ytklikpcfmmpocaa", sum := "524a9a54988b1d9fed4ace85dbf816f0e32b66253dabac4279bf3f3090fb2c19", func := "loop.example/closurecells/laws.FnExactIdleDeclarations", spec := "fnExactIdleDeclarations", unfollowed := true, recurses := true, apart := false }
def FnExactIdleDeclarationsSaid : Prop := fnExactIdleDeclarationsRow.holds Try.pinned (OpenSpec.ofChange fnExactIdleDeclarationsSpec)

/-- ITS FALSE NEIGHBOUR: 'it returns false'. Refute it at one input. -/
def fnExactIdleDeclarationsWrong : ChangeSpec := { name := "fnExactIdleDeclarations", fn := fun _ => fun
  | [d] => { results := [.lit (.bool false)], args := [d] }
  | _ => none }
def FnExactIdleDeclarationsWrongFalsely : Prop := fnExactIdleDeclarationsRow.holds Try.pinned (OpenSpec.ofChange fnExactIdleDeclarationsWrong)

/-- 'laws.FnReadIn': WHATEVER THE INPUT: true; the input reads as it did. -/
def fnReadInSpec : ChangeSpec := { name := "fnReadIn", fn := fun _ => fun
  | [d] => { results := [.lit (.bool true)], args := [d] }
  | _ => none }
def fnReadInRow : OpenClaim := { program := "ytklikpcfmmpocaa", sum := "524a9a54988b1d9fed4ace85dbf816f0e32b66253dabac4279bf3f3090fb2c19", func := "loop.example/closurecells/laws.FnReadIn", spec := "fnReadIn", unfollowed := true, recurses := true, apart := false }
def FnReadInSaid : Prop := fnReadInRow.holds Try.pinned (OpenSpec.ofChange fnReadInSpec)

/-- ITS FALSE NEIGHBOUR: 'it returns false'. Refute it at one input. -/
def fnReadInWrong : ChangeSpec := { name := "fnReadIn", fn := fun _ => fun
  | [d] => { results := [.lit (.bool false)], args := [d] }
  | _ => none }
def FnReadInWrongFalsely : Prop := fnReadInRow.holds Try.pinned (OpenSpec.ofChange fnReadInWrong)

/-- 'laws.FnExactBareProgram': WHATEVER THE INPUT: true; the input reads as it did. -/
def fnExactBareProgramSpec : ChangeSpec := { name := "fnExactBareProgram", fn := fun _ => fun
  | [d] => { results := [.lit (.bool true)], args := [d] }
  | _ => none }
def fnExactBareProgramRow : OpenClaim := { program := "ytklikpcfmmpocaa", sum := "524a9a54988b1d9fed4ace85dbf816f0e32b66253dabac4279bf3f3090fb2c19", func := "loop.example/closurecells/laws.FnExactBareProgram", spec := "fnExactBareProgram", unfollowed := true, recurses := true, apart := false }
def FnExactBareProgramSaid : Prop := fnExactBareProgramRow.holds Try.pinned (OpenSpec.ofChange fnExactBareProgramSpec)

/-- ITS FALSE NEIGHBOUR: 'it returns false'. Refute it at one input. -/
def fnExactBareProgramWrong : ChangeSpec := { name := "fnExactBareProgram", fn := fun _ => fun
  | [d] => { results := [.lit (.bool false)], args := [d] }
  | _ => none }
def FnExactBareProgramWrongFalsely : Prop := fnExactBareProgramRow.holds Try.pinned (OpenSpec.ofChange fnExactBareProgramWrong)

/-- 'laws.FnInsideOf': WHATEVER THE INPUT: true; the input reads as it did. -/
def fnInsideOfSpec : ChangeSpec := { name := "fnInsideOf", fn := fun _ => fun
  | [d] => { results := [.lit (.bool true)], args := [d] }
  | _ => none }
def fnInsideOfRow : OpenClaim := { program := "ytklikpcfmmpocaa", sum := "524a9a54988b1d9fed4ace85dbf816f0e32b66253dabac4279bf3f3090fb2c19", func := "loop.example/closurecells/laws.FnInsideOf", spec := "fnInsideOf", apart := false }
def FnInsideOfSaid : Prop := fnInsideOfRow.holds Try.pinned (OpenSpec.ofChange fnInsideOfSpec)

/-- ITS FALSE NEIGHBOUR: 'it returns false'. Refute it at one input. -/
def fnInsideOfWrong : ChangeSpec := { name := "fnInsideOf", fn := fun _ => fun
  | [d] => { results := [.lit (.bool false)], args := [d] }
  | _ => none }
def FnInsideOfWrongFalsely : Prop := fnInsideOfRow.holds Try.pinned (OpenSpec.ofChange fnInsideOfWrong)

/-- 'laws.FnOuterOf': WHATEVER THE INPUT: true; the input reads as it did. -/
def fnOuterOfSpec : ChangeSpec := { name := "fnOuterOf", fn := fun _ => fun
  | [d] => { results := [.lit (.bool true)], args := [d] }
  | _ => none }
def fnOuterOfRow : OpenClaim := { program := "ytklikpcfmmpocaa", sum := "524a9a54988b1d9fed4ace85dbf816f0e32b66253dabac4279bf3f3090fb2c19", func := "loop.example/closurecells/laws.FnOuterOf", spec := "fnOuterOf", unfollowed := true, recurses := true, apart := false }
def FnOuterOfSaid : Prop := fnOuterOfRow.holds Try.pinned (OpenSpec.ofChange fnOuterOfSpec)

/-- ITS FALSE NEIGHBOUR: 'it returns false'. Refute it at one input. -/
def fnOuterOfWrong : ChangeSpec := { name := "fnOuterOf", fn := fun _ => fun
  | [d] => { results := [.lit (.bool false)], args := [d] }
  | _ => none }
def FnOuterOfWrongFalsely : Prop := fnOuterOfRow.holds Try.pinned (OpenSpec.ofChange fnOuterOfWrong)

/-- 'laws.FnLocalIn': WHATEVER THE INPUT: true; the input reads as it did. -/
def fnLocalInSpec : ChangeSpec := { name := "fnLocalIn", fn := fun _ => fun
  | [d] => { results := [.lit (.bool true)], args := [d] }
  | _ => none }
def fnLocalInRow : OpenClaim := { program := "ytklikpcfmmpocaa", sum := "524a9a54988b1d9fed4ace85dbf816f0e32b66253dabac4279bf3f3090fb2c19", func := "loop.example/closurecells/laws.FnLocalIn", spec := "fnLocalIn", unfollowed := true, recurses := true, apart := false }
def FnLocalInSaid : Prop := fnLocalInRow.holds Try.pinned (OpenSpec.ofChange fnLocalInSpec)

/-- ITS FALSE NEIGHBOUR: 'it returns false'. Refute it at one input. -/
def fnLocalInWrong : ChangeSpec := { name := "fnLocalIn", fn := fun _ => fun
  | [d] => { results := [.lit (.bool false)], args := [d] }
  | _ => none }
def FnLocalInWrongFalsely : Prop := fnLocalInRow.holds Try.pinned (OpenSpec.ofChange fnLocalInWrong)

/-- 'laws.FnOwnerOf': WHATEVER THE INPUT: true; the input reads as it did. -/
def fnOwnerOfSpec : ChangeSpec := { name := "fnOwnerOf", fn := fun _ => fun
  | [d] => { results := [.lit (.bool true)], args := [d] }
  | _ => none }
def fnOwnerOfRow : OpenClaim := { program := "ytklikpcfmmpocaa", sum := "524a9a54988b1d9fed4ace85dbf816f0e32b66253dabac4279bf3f3090fb2c19", func := "loop.example/closurecells/laws.FnOwnerOf", spec := "fnOwnerOf", unfollowed := true, recurses := true, apart := false }
def FnOwnerOfSaid : Prop := fnOwnerOfRow.holds Try.pinned (OpenSpec.ofChange fnOwnerOfSpec)

/-- ITS FALSE NEIGHBOUR: 'it returns false'. Refute it at one input. -/
def fnOwnerOfWrong : ChangeSpec := { name := "fnOwnerOf", fn := fun _ => fun
  | [d] => { results := [.lit (.bool false)], args := [d] }
  | _ => none }
def FnOwnerOfWrongFalsely : Prop := fnOwnerOfRow.holds Try.pinned (OpenSpec.ofChange fnOwnerOfWrong)

/-- 'laws.FnOwnerOfChild': WHATEVER THE INPUT: true; the input reads as it did. -/
def fnOwnerOfChildSpec : ChangeSpec := { name := "fnOwnerOfChild", fn := fun _ => fun
  | [d] => { results := [.lit (.bool true)], args := [d] }
  | _ => none }
def fnOwnerOfChildRow : OpenClaim := { program := "ytklikpcfmmpocaa", sum := "524a9a54988b1d9fed4ace85dbf816f0e32b66253dabac4279bf3f3090fb2c19", func := "loop.example/closurecells/laws.FnOwnerOfChild", spec := "fnOwnerOfChild", unfollowed := true, recurses := true, apart := false }
def FnOwnerOfChildSaid : Prop := fnOwnerOfChildRow.holds Try.pinned (OpenSpec.ofChange fnOwnerOfChildSpec)

/-- ITS FALSE NEIGHBOUR: 'it returns false'. Refute it at one input. -/
def fnOwnerOfChildWrong : ChangeSpec := { name := "fnOwnerOfChild", fn := fun _ => fun
  | [d] => { results := [.lit (.bool false)], args := [d] }
  | _ => none }
def FnOwnerOfChildWrongFalsely : Prop := fnOwnerOfChildRow.holds Try.pinned (OpenSpec.ofChange fnOwnerOfChildWrong)

/-- 'laws.FnUsedIn': WHATEVER THE INPUT: true; the input reads as it did. -/
def fnUsedInSpec : ChangeSpec := { name := "fnUsedIn", fn := fun _ => fun
  | [d] => { results := [.lit (.bool true)], args := [d] }
  | _ => none }
def fnUsedInRow : OpenClaim := { program := "ytklikpcfmmpocaa", sum := "524a9a54988b1d9fed4ace85dbf816f0e32b66253dabac4279bf3f3090fb2c19", func := "loop.example/closurecells/laws.FnUsedIn", spec := "fnUsedIn", unfollowed := true, recurses := true, apart := false }
def FnUsedInSaid : Prop := fnUsedInRow.holds Try.pinned (OpenSpec.ofChange fnUsedInSpec)

/-- ITS FALSE NEIGHBOUR: 'it returns false'. Refute it at one input. -/
def fnUsedInWrong : ChangeSpec := { name := "fnUsedIn", fn := fun _ => fun
  | [d] => { results := [.lit (.bool false)], args := [d] }
  | _ => none }
def FnUsedInWrongFalsely : Prop := fnUsedInRow.holds Try.pinned (OpenSpec.ofChange fnUsedInWrong)

/-- 'laws.FnBareProgram': WHATEVER THE INPUT: true; the input reads as it did. -/
def fnBareProgramSpec : ChangeSpec := { name := "fnBareProgram", fn := fun _ => fun
  | [d] => { results := [.lit (.bool true)], args := [d] }
  | _ => none }
def fnBareProgramRow : OpenClaim := { program := "ytklikpcfmmpocaa", sum := "524a9a54988b1d9fed4ace85dbf816f0e32b66253dabac4279bf3f3090fb2c19", func := "loop.example/closurecells/laws.FnBareProgram", spec := "fnBareProgram", unfollowed := true, recurses := true, apart := false }
def FnBareProgramSaid : Prop := fnBareProgramRow.holds Try.pinned (OpenSpec.ofChange fnBareProgramSpec)

/-- ITS FALSE NEIGHBOUR: 'it returns false'. Refute it at one input. -/
def fnBareProgramWrong : ChangeSpec := { name := "fnBareProgram", fn := fun _ => fun
  | [d] => { results := [.lit (.bool false)], args := [d] }
  | _ => none }
def FnBareProgramWrongFalsely : Prop := fnBareProgramRow.holds Try.pinned (OpenSpec.ofChange fnBareProgramWrong)

/-- 'laws.FnOwnersOf': WHATEVER THE INPUT: true; the input reads as it did. -/
def fnOwnersOfSpec : ChangeSpec := { name := "fnOwnersOf", fn := fun _ => fun
  | [d] => { results := [.lit (.bool true)], args := [d] }
  | _ => none }
def fnOwnersOfRow : OpenClaim := { program := "ytklikpcfmmpocaa", sum := "524a9a54988b1d9fed4ace85dbf816f0e32b66253dabac4279bf3f3090fb2c19", func := "loop.example/closurecells/laws.FnOwnersOf", spec := "fnOwnersOf", unfollowed := true, recurses := true, apart := false }
def FnOwnersOfSaid : Prop := fnOwnersOfRow.holds Try.pinned (OpenSpec.ofChange fnOwnersOfSpec)

/-- ITS FALSE NEIGHBOUR: 'it returns false'. Refute it at one input. -/
def fnOwnersOfWrong : ChangeSpec := { name := "fnOwnersOf", fn := fun _ => fun
  | [d] => { results := [.lit (.bool false)], args := [d] }
  | _ => none }
def FnOwnersOfWrongFalsely : Prop := fnOwnersOfRow.holds Try.pinned (OpenSpec.ofChange fnOwnersOfWrong)

/-- 'laws.FnExactOwnersOf': WHATEVER THE INPUT: true; the input reads as it did. -/
def fnExactOwnersOfSpec : ChangeSpec := { name := "fnExactOwnersOf", fn := fun _ => fun
  | [d] => { results := [.lit (.bool true)], args := [d] }
  | _ => none }
def fnExactOwnersOfRow : OpenClaim := { program := "ytklikpcfmmpocaa", sum := "524a9a54988b1d9fed4ace85dbf816f0e32b66253dabac4279bf3f3090fb2c19", func := "loop.example/closurecells/laws.FnExactOwnersOf", spec := "fnExactOwnersOf", unfollowed := true, recurses := true, apart := false }
def FnExactOwnersOfSaid : Prop := fnExactOwnersOfRow.holds Try.pinned (OpenSpec.ofChange fnExactOwnersOfSpec)

/-- ITS FALSE NEIGHBOUR: 'it returns false'. Refute it at one input. -/
def fnExactOwnersOfWrong : ChangeSpec := { name := "fnExactOwnersOf", fn := fun _ => fun
  | [d] => { results := [.lit (.bool false)], args := [d] }
  | _ => none }
def FnExactOwnersOfWrongFalsely : Prop := fnExactOwnersOfRow.holds Try.pinned (OpenSpec.ofChange fnExactOwnersOfWrong)

/-- 'laws.FnSharesCell': WHATEVER THE INPUT: true; the input reads as it did. -/
def fnSharesCellSpec : ChangeSpec := { name := "fnSharesCell", fn := fun _ => fun
  | [d] => { results := [.lit (.bool true)], args := [d] }
  | _ => none }
def fnSharesCellRow : OpenClaim := { program := "ytklikpcfmmpocaa", sum := "524a9a54988b1d9fed4ace85dbf816f0e32b66253dabac4279bf3f3090fb2c19", func := "loop.example/closurecells/laws.FnSharesCell", spec := "fnSharesCell", unfollowed := true, recurses := true, apart := false }
def FnSharesCellSaid : Prop := fnSharesCellRow.holds Try.pinned (OpenSpec.ofChange fnSharesCellSpec)

/-- ITS FALSE NEIGHBOUR: 'it returns false'. Refute it at one input. -/
def fnSharesCellWrong : ChangeSpec := { name := "fnSharesCell", fn := fun _ => fun
  | [d] => { results := [.lit (.bool false)], args := [d] }
  | _ => none }
def FnSharesCellWrongFalsely : Prop := fnSharesCellRow.holds Try.pinned (OpenSpec.ofChange fnSharesCellWrong)

/-- 'laws.FnValidProgram': WHATEVER THE INPUT: true; the input reads as it did. -/
def fnValidProgramSpec : ChangeSpec := { name := "fnValidProgram", fn := fun _ => fun
  | [d] => { results := [.lit (.bool true)], args := [d] }
  | _ => none }
def fnValidProgramRow : OpenClaim := { program := "ytklikpcfmmpocaa", sum := "524a9a54988b1d9fed4ace85dbf816f0e32b66253dabac4279bf3f3090fb2c19", func := "loop.example/closurecells/laws.FnValidProgram", spec := "fnValidProgram", unfollowed := true, recurses := true, apart := false }
def FnValidProgramSaid : Prop := fnValidProgramRow.holds Try.pinned (OpenSpec.ofChange fnValidProgramSpec)

/-- ITS FALSE NEIGHBOUR: 'it returns false'. Refute it at one input. -/
def fnValidProgramWrong : ChangeSpec := { name := "fnValidProgram", fn := fun _ => fun
  | [d] => { results := [.lit (.bool false)], args := [d] }
  | _ => none }
def FnValidProgramWrongFalsely : Prop := fnValidProgramRow.holds Try.pinned (OpenSpec.ofChange fnValidProgramWrong)

/-- 'laws.FnFastsOf': WHATEVER THE INPUT: true; the input reads as it did. -/
def fnFastsOfSpec : ChangeSpec := { name := "fnFastsOf", fn := fun _ => fun
  | [d] => { results := [.lit (.bool true)], args := [d] }
  | _ => none }
def fnFastsOfRow : OpenClaim := { program := "ytklikpcfmmpocaa", sum := "524a9a54988b1d9fed4ace85dbf816f0e32b66253dabac4279bf3f3090fb2c19", func := "loop.example/closurecells/laws.FnFastsOf", spec := "fnFastsOf", unfollowed := true, recurses := true, apart := false }
def FnFastsOfSaid : Prop := fnFastsOfRow.holds Try.pinned (OpenSpec.ofChange fnFastsOfSpec)

/-- ITS FALSE NEIGHBOUR: 'it returns false'. Refute it at one input. -/
def fnFastsOfWrong : ChangeSpec := { name := "fnFastsOf", fn := fun _ => fun
  | [d] => { results := [.lit (.bool false)], args := [d] }
  | _ => none }
def FnFastsOfWrongFalsely : Prop := fnFastsOfRow.holds Try.pinned (OpenSpec.ofChange fnFastsOfWrong)

/-- 'laws.FnSymbolOf': WHATEVER THE INPUT: true; the input reads as it did. -/
def fnSymbolOfSpec : ChangeSpec := { name := "fnSymbolOf", fn := fun _ => fun
  | [d] => { results := [.lit (.bool true)], args := [d] }
  | _ => none }
def fnSymbolOfRow : OpenClaim := { program := "ytklikpcfmmpocaa", sum := "524a9a54988b1d9fed4ace85dbf816f0e32b66253dabac4279bf3f3090fb2c19", func := "loop.example/closurecells/laws.FnSymbolOf", spec := "fnSymbolOf", unfollowed := true, recurses := true, apart := false }
def FnSymbolOfSaid : Prop := fnSymbolOfRow.holds Try.pinned (OpenSpec.ofChange fnSymbolOfSpec)

/-- ITS FALSE NEIGHBOUR: 'it returns false'. Refute it at one input. -/
def fnSymbolOfWrong : ChangeSpec := { name := "fnSymbolOf", fn := fun _ => fun
  | [d] => { results := [.lit (.bool false)], args := [d] }
  | _ => none }
def FnSymbolOfWrongFalsely : Prop := fnSymbolOfRow.holds Try.pinned (OpenSpec.ofChange fnSymbolOfWrong)

/-- 'laws.FnCellsOf': WHATEVER THE INPUT: true; the input reads as it did. -/
def fnCellsOfSpec : ChangeSpec := { name := "fnCellsOf", fn := fun _ => fun
  | [d] => { results := [.lit (.bool true)], args := [d] }
  | _ => none }
def fnCellsOfRow : OpenClaim := { program := "ytklikpcfmmpocaa", sum := "524a9a54988b1d9fed4ace85dbf816f0e32b66253dabac4279bf3f3090fb2c19", func := "loop.example/closurecells/laws.FnCellsOf", spec := "fnCellsOf", unfollowed := true, recurses := true, apart := false }
def FnCellsOfSaid : Prop := fnCellsOfRow.holds Try.pinned (OpenSpec.ofChange fnCellsOfSpec)

/-- ITS FALSE NEIGHBOUR: 'it returns false'. Refute it at one input. -/
def fnCellsOfWrong : ChangeSpec := { name := "fnCellsOf", fn := fun _ => fun
  | [d] => { results := [.lit (.bool false)], args := [d] }
  | _ => none }
def FnCellsOfWrongFalsely : Prop := fnCellsOfRow.holds Try.pinned (OpenSpec.ofChange fnCellsOfWrong)

/-- 'laws.FnFreesOf': WHATEVER THE INPUT: true; the input reads as it did. -/
def fnFreesOfSpec : ChangeSpec := { name := "fnFreesOf", fn := fun _ => fun
  | [d] => { results := [.lit (.bool true)], args := [d] }
  | _ => none }
def fnFreesOfRow : OpenClaim := { program := "ytklikpcfmmpocaa", sum := "524a9a54988b1d9fed4ace85dbf816f0e32b66253dabac4279bf3f3090fb2c19", func := "loop.example/closurecells/laws.FnFreesOf", spec := "fnFreesOf", unfollowed := true, recurses := true, apart := false }
def FnFreesOfSaid : Prop := fnFreesOfRow.holds Try.pinned (OpenSpec.ofChange fnFreesOfSpec)

/-- ITS FALSE NEIGHBOUR: 'it returns false'. Refute it at one input. -/
def fnFreesOfWrong : ChangeSpec := { name := "fnFreesOf", fn := fun _ => fun
  | [d] => { results := [.lit (.bool false)], args := [d] }
  | _ => none }
def FnFreesOfWrongFalsely : Prop := fnFreesOfRow.holds Try.pinned (OpenSpec.ofChange fnFreesOfWrong)

/-- 'laws.FnFreesOfKids': WHATEVER THE INPUT: true; the input reads as it did. -/
def fnFreesOfKidsSpec : ChangeSpec := { name := "fnFreesOfKids", fn := fun _ => fun
  | [d] => { results := [.lit (.bool true)], args := [d] }
  | _ => none }
def fnFreesOfKidsRow : OpenClaim := { program := "ytklikpcfmmpocaa", sum := "524a9a54988b1d9fed4ace85dbf816f0e32b66253dabac4279bf3f3090fb2c19", func := "loop.example/closurecells/laws.FnFreesOfKids", spec := "fnFreesOfKids", unfollowed := true, recurses := true, apart := false }
def FnFreesOfKidsSaid : Prop := fnFreesOfKidsRow.holds Try.pinned (OpenSpec.ofChange fnFreesOfKidsSpec)

/-- ITS FALSE NEIGHBOUR: 'it returns false'. Refute it at one input. -/
def fnFreesOfKidsWrong : ChangeSpec := { name := "fnFreesOfKids", fn := fun _ => fun
  | [d] => { results := [.lit (.bool false)], args := [d] }
  | _ => none }
def FnFreesOfKidsWrongFalsely : Prop := fnFreesOfKidsRow.holds Try.pinned (OpenSpec.ofChange fnFreesOfKidsWrong)

/-- 'laws.FnTouchedBy': WHATEVER THE INPUT: true; the input reads as it did. -/
def fnTouchedBySpec : ChangeSpec := { name := "fnTouchedBy", fn := fun _ => fun
  | [d] => { results := [.lit (.bool true)], args := [d] }
  | _ => none }
def fnTouchedByRow : OpenClaim := { program := "ytklikpcfmmpocaa", sum := "524a9a54988b1d9fed4ace85dbf816f0e32b66253dabac4279bf3f3090fb2c19", func := "loop.example/closurecells/laws.FnTouchedBy", spec := "fnTouchedBy", unfollowed := true, recurses := true, apart := false }
def FnTouchedBySaid : Prop := fnTouchedByRow.holds Try.pinned (OpenSpec.ofChange fnTouchedBySpec)

/-- ITS FALSE NEIGHBOUR: 'it returns false'. Refute it at one input. -/
def fnTouchedByWrong : ChangeSpec := { name := "fnTouchedBy", fn := fun _ => fun
  | [d] => { results := [.lit (.bool false)], args := [d] }
  | _ => none }
def FnTouchedByWrongFalsely : Prop := fnTouchedByRow.holds Try.pinned (OpenSpec.ofChange fnTouchedByWrong)

/-- 'laws.FnSeenIn': WHATEVER THE INPUT: true; the input reads as it did. -/
def fnSeenInSpec : ChangeSpec := { name := "fnSeenIn", fn := fun _ => fun
  | [d] => { results := [.lit (.bool true)], args := [d] }
  | _ => none }
def fnSeenInRow : OpenClaim := { program := "ytklikpcfmmpocaa", sum := "524a9a54988b1d9fed4ace85dbf816f0e32b66253dabac4279bf3f3090fb2c19", func := "loop.example/closurecells/laws.FnSeenIn", spec := "fnSeenIn", unfollowed := true, recurses := true, apart := false }
def FnSeenInSaid : Prop := fnSeenInRow.holds Try.pinned (OpenSpec.ofChange fnSeenInSpec)

/-- ITS FALSE NEIGHBOUR: 'it returns false'. Refute it at one input. -/
def fnSeenInWrong : ChangeSpec := { name := "fnSeenIn", fn := fun _ => fun
  | [d] => { results := [.lit (.bool false)], args := [d] }
  | _ => none }
def FnSeenInWrongFalsely : Prop := fnSeenInRow.holds Try.pinned (OpenSpec.ofChange fnSeenInWrong)

/-- 'laws.FnCapturesOf': WHATEVER THE INPUT: true; the input reads as it did. -/
def fnCapturesOfSpec : ChangeSpec := { name := "fnCapturesOf", fn := fun _ => fun
  | [d] => { results := [.lit (.bool true)], args := [d] }
  | _ => none }
def fnCapturesOfRow : OpenClaim := { program := "ytklikpcfmmpocaa", sum := "524a9a54988b1d9fed4ace85dbf816f0e32b66253dabac4279bf3f3090fb2c19", func := "loop.example/closurecells/laws.FnCapturesOf", spec := "fnCapturesOf", unfollowed := true, recurses := true, apart := false }
def FnCapturesOfSaid : Prop := fnCapturesOfRow.holds Try.pinned (OpenSpec.ofChange fnCapturesOfSpec)

/-- ITS FALSE NEIGHBOUR: 'it returns false'. Refute it at one input. -/
def fnCapturesOfWrong : ChangeSpec := { name := "fnCapturesOf", fn := fun _ => fun
  | [d] => { results := [.lit (.bool false)], args := [d] }
  | _ => none }
def FnCapturesOfWrongFalsely : Prop := fnCapturesOfRow.holds Try.pinned (OpenSpec.ofChange fnCapturesOfWrong)

/-- 'laws.FnExactSameMeaning': WHATEVER THE INPUT: true; the input reads as it did. -/
def fnExactSameMeaningSpec : ChangeSpec := { name := "fnExactSameMeaning", fn := fun _ => fun
  | [d1, d2] => { results := [.lit (.bool true)], args := [d1, d2] }
  | _ => none }
def fnExactSameMeaningRow : OpenClaim := { program := "ytklikpcfmmpocaa", sum := "524a9a54988b1d9fed4ace85dbf816f0e32b66253dabac4279bf3f3090fb2c19", func := "loop.example/closurecells/laws.FnExactSameMeaning", spec := "fnExactSameMeaning", unfollowed := true, recurses := true, apart := false }
def FnExactSameMeaningSaid : Prop := fnExactSameMeaningRow.holds Try.pinned (OpenSpec.ofChange fnExactSameMeaningSpec)

/-- ITS FALSE NEIGHBOUR: 'it returns false'. Refute it at one input. -/
def fnExactSameMeaningWrong : ChangeSpec := { name := "fnExactSameMeaning", fn := fun _ => fun
  | [d1, d2] => { results := [.lit (.bool false)], args := [d1, d2] }
  | _ => none }
def FnExactSameMeaningWrongFalsely : Prop := fnExactSameMeaningRow.holds Try.pinned (OpenSpec.ofChange fnExactSameMeaningWrong)

/- THE SECOND FORM. 'bulk': how many values and letters a reading holds, each counted each time it is reached (what is shared counts as often as it is met; a slice's spare places count too). A statement '..UptoSaid' is the law's where the arguments, and the package variables that the reading takes, are together of bulk at most 1048576: NARROWER than '..Said'. Prove '..Said' where nothing that the law and all that it calls make is longer than what came in: it says more and counts as full. Else prove '..UptoSaid'. A law counts once. -/
mutual
def uptoBulk {H : Type} : DataW H → Nat
  | .lit (.string bytes) => bytes.length + 1
  | .lit _ => 1
  | .nil => 1
  | .ptr d => uptoBulk d + 1
  | .slice elems spare => uptoBulkAll elems + uptoBulkAll spare + 1
  | .agg parts => uptoBulkAll parts + 1
  | .iface _ d => uptoBulk d + 1
  | .map entries => uptoBulkEntries entries + 1
  | .held _ => 1
def uptoBulkAll {H : Type} : List (DataW H) → Nat
  | [] => 0
  | d :: r => uptoBulk d + uptoBulkAll r
def uptoBulkEntries {H : Type} : List (Lit × DataW H) → Nat
  | [] => 0
  | x :: r => uptoBulkEntry x + uptoBulkEntries r
def uptoBulkEntry {H : Type} : Lit × DataW H → Nat
  | (.string bytes, d) => bytes.length + uptoBulk d + 1
  | (_, d) => uptoBulk d + 1
 end
def uptoSmall : (H : Type) → List (DataW H) → Bool := fun _ ds => decide (uptoBulkAll ds ≤ 1048576)
def OpenSpec.upto (s : _root_.Go.ChangeSpec) : _root_.Go.OpenSpec := { _root_.Go.OpenSpec.ofChange s with cond := some uptoSmall }

/-- 'laws.FnShownOf', WHERE WHAT IT READS IS OF BULK AT MOST 1048576: true; the input reads as it did. -/
def fnShownOfUptoRow : OpenClaim := { program := "ytklikpcfmmpocaa", sum := "524a9a54988b1d9fed4ace85dbf816f0e32b66253dabac4279bf3f3090fb2c19", func := "loop.example/closurecells/laws.FnShownOf", spec := "fnShownOf", apart := false, narrowed := true }
def FnShownOfUptoSaid : Prop := fnShownOfUptoRow.holds Try.pinned (OpenSpec.upto fnShownOfSpec)

/-- 'laws.FnValidShape', WHERE WHAT IT READS IS OF BULK AT MOST 1048576: true; the input reads as it did. -/
def fnValidShapeUptoRow : OpenClaim := { program := "ytklikpcfmmpocaa", sum := "524a9a54988b1d9fed4ace85dbf816f0e32b66253dabac4279bf3f3090fb2c19", func := "loop.example/closurecells/laws.FnValidShape", spec := "fnValidShape", apart := false, narrowed := true }
def FnValidShapeUptoSaid : Prop := fnValidShapeUptoRow.holds Try.pinned (OpenSpec.upto fnValidShapeSpec)

/-- 'laws.FnDepthOf', WHERE WHAT IT READS IS OF BULK AT MOST 1048576: true; the input reads as it did. -/
def fnDepthOfUptoRow : OpenClaim := { program := "ytklikpcfmmpocaa", sum := "524a9a54988b1d9fed4ace85dbf816f0e32b66253dabac4279bf3f3090fb2c19", func := "loop.example/closurecells/laws.FnDepthOf", spec := "fnDepthOf", apart := false, narrowed := true }
def FnDepthOfUptoSaid : Prop := fnDepthOfUptoRow.holds Try.pinned (OpenSpec.upto fnDepthOfSpec)

/-- 'laws.FnChildrenOf', WHERE WHAT IT READS IS OF BULK AT MOST 1048576: true; the input reads as it did. -/
def fnChildrenOfUptoRow : OpenClaim := { program := "ytklikpcfmmpocaa", sum := "524a9a54988b1d9fed4ace85dbf816f0e32b66253dabac4279bf3f3090fb2c19", func := "loop.example/closurecells/laws.FnChildrenOf", spec := "fnChildrenOf", apart := false, narrowed := true }
def FnChildrenOfUptoSaid : Prop := fnChildrenOfUptoRow.holds Try.pinned (OpenSpec.upto fnChildrenOfSpec)

/-- 'laws.FnDeclaredIn', WHERE WHAT IT READS IS OF BULK AT MOST 1048576: true; the input reads as it did. -/
def fnDeclaredInUptoRow : OpenClaim := { program := "ytklikpcfmmpocaa", sum := "524a9a54988b1d9fed4ace85dbf816f0e32b66253dabac4279bf3f3090fb2c19", func := "loop.example/closurecells/laws.FnDeclaredIn", spec := "fnDeclaredIn", apart := false, narrowed := true }
def FnDeclaredInUptoSaid : Prop := fnDeclaredInUptoRow.holds Try.pinned (OpenSpec.upto fnDeclaredInSpec)

/-- 'laws.FnBoundIn', WHERE WHAT IT READS IS OF BULK AT MOST 1048576: true; the input reads as it did. -/
def fnBoundInUptoRow : OpenClaim := { program := "ytklikpcfmmpocaa", sum := "524a9a54988b1d9fed4ace85dbf816f0e32b66253dabac4279bf3f3090fb2c19", func := "loop.example/closurecells/laws.FnBoundIn", spec := "fnBoundIn", apart := false, narrowed := true }
def FnBoundInUptoSaid : Prop := fnBoundInUptoRow.holds Try.pinned (OpenSpec.upto fnBoundInSpec)

/-- 'laws.FnExactIdleDeclarations', WHERE WHAT IT READS IS OF BULK AT MOST 1048576: true; the input reads as it did. -/
def fnExactIdleDeclarationsUptoRow : OpenClaim := { program := "ytklikpcfmmpocaa", sum := "524a9a54988b1d9fed4ace85dbf816f0e32b66253dabac4279bf3f3090fb2c19", func := "loop.example/closurecells/laws.FnExactIdleDeclarations", spec := "fnExactIdleDeclarations", unfollowed := true, recurses := true, apart := false, narrowed := true }
def FnExactIdleDeclarationsUptoSaid : Prop := fnExactIdleDeclarationsUptoRow.holds Try.pinned (OpenSpec.upto fnExactIdleDeclarationsSpec)

/-- 'laws.FnReadIn', WHERE WHAT IT READS IS OF BULK AT MOST 1048576: true; the input reads as it did. -/
def fnReadInUptoRow : OpenClaim := { program := "ytklikpcfmmpocaa", sum := "524a9a54988b1d9fed4ace85dbf816f0e32b66253dabac4279bf3f3090fb2c19", func := "loop.example/closurecells/laws.FnReadIn", spec := "fnReadIn", unfollowed := true, recurses := true, apart := false, narrowed := true }
def FnReadInUptoSaid : Prop := fnReadInUptoRow.holds Try.pinned (OpenSpec.upto fnReadInSpec)

/-- 'laws.FnExactBareProgram', WHERE WHAT IT READS IS OF BULK AT MOST 1048576: true; the input reads as it did. -/
def fnExactBareProgramUptoRow : OpenClaim := { program := "ytklikpcfmmpocaa", sum := "524a9a54988b1d9fed4ace85dbf816f0e32b66253dabac4279bf3f3090fb2c19", func := "loop.example/closurecells/laws.FnExactBareProgram", spec := "fnExactBareProgram", unfollowed := true, recurses := true, apart := false, narrowed := true }
def FnExactBareProgramUptoSaid : Prop := fnExactBareProgramUptoRow.holds Try.pinned (OpenSpec.upto fnExactBareProgramSpec)

/-- 'laws.FnInsideOf', WHERE WHAT IT READS IS OF BULK AT MOST 1048576: true; the input reads as it did. -/
def fnInsideOfUptoRow : OpenClaim := { program := "ytklikpcfmmpocaa", sum := "524a9a54988b1d9fed4ace85dbf816f0e32b66253dabac4279bf3f3090fb2c19", func := "loop.example/closurecells/laws.FnInsideOf", spec := "fnInsideOf", apart := false, narrowed := true }
def FnInsideOfUptoSaid : Prop := fnInsideOfUptoRow.holds Try.pinned (OpenSpec.upto fnInsideOfSpec)

/-- 'laws.FnOuterOf', WHERE WHAT IT READS IS OF BULK AT MOST 1048576: true; the input reads as it did. -/
def fnOuterOfUptoRow : OpenClaim := { program := "ytklikpcfmmpocaa", sum := "524a9a54988b1d9fed4ace85dbf816f0e32b66253dabac4279bf3f3090fb2c19", func := "loop.example/closurecells/laws.FnOuterOf", spec := "fnOuterOf", unfollowed := true, recurses := true, apart := false, narrowed := true }
def FnOuterOfUptoSaid : Prop := fnOuterOfUptoRow.holds Try.pinned (OpenSpec.upto fnOuterOfSpec)

/-- 'laws.FnLocalIn', WHERE WHAT IT READS IS OF BULK AT MOST 1048576: true; the input reads as it did. -/
def fnLocalInUptoRow : OpenClaim := { program := "ytklikpcfmmpocaa", sum := "524a9a54988b1d9fed4ace85dbf816f0e32b66253dabac4279bf3f3090fb2c19", func := "loop.example/closurecells/laws.FnLocalIn", spec := "fnLocalIn", unfollowed := true, recurses := true, apart := false, narrowed := true }
def FnLocalInUptoSaid : Prop := fnLocalInUptoRow.holds Try.pinned (OpenSpec.upto fnLocalInSpec)

/-- 'laws.FnOwnerOf', WHERE WHAT IT READS IS OF BULK AT MOST 1048576: true; the input reads as it did. -/
def fnOwnerOfUptoRow : OpenClaim := { program := "ytklikpcfmmpocaa", sum := "524a9a54988b1d9fed4ace85dbf816f0e32b66253dabac4279bf3f3090fb2c19", func := "loop.example/closurecells/laws.FnOwnerOf", spec := "fnOwnerOf", unfollowed := true, recurses := true, apart := false, narrowed := true }
def FnOwnerOfUptoSaid : Prop := fnOwnerOfUptoRow.holds Try.pinned (OpenSpec.upto fnOwnerOfSpec)

/-- 'laws.FnOwnerOfChild', WHERE WHAT IT READS IS OF BULK AT MOST 1048576: true; the input reads as it did. -/
def fnOwnerOfChildUptoRow : OpenClaim := { program := "ytklikpcfmmpocaa", sum := "524a9a54988b1d9fed4ace85dbf816f0e32b66253dabac4279bf3f3090fb2c19", func := "loop.example/closurecells/laws.FnOwnerOfChild", spec := "fnOwnerOfChild", unfollowed := true, recurses := true, apart := false, narrowed := true }
def FnOwnerOfChildUptoSaid : Prop := fnOwnerOfChildUptoRow.holds Try.pinned (OpenSpec.upto fnOwnerOfChildSpec)

/-- 'laws.FnUsedIn', WHERE WHAT IT READS IS OF BULK AT MOST 1048576: true; the input reads as it did. -/
def fnUsedInUptoRow : OpenClaim := { program := "ytklikpcfmmpocaa", sum := "524a9a54988b1d9fed4ace85dbf816f0e32b66253dabac4279bf3f3090fb2c19", func := "loop.example/closurecells/laws.FnUsedIn", spec := "fnUsedIn", unfollowed := true, recurses := true, apart := false, narrowed := true }
def FnUsedInUptoSaid : Prop := fnUsedInUptoRow.holds Try.pinned (OpenSpec.upto fnUsedInSpec)

/-- 'laws.FnBareProgram', WHERE WHAT IT READS IS OF BULK AT MOST 1048576: true; the input reads as it did. -/
def fnBareProgramUptoRow : OpenClaim := { program := "ytklikpcfmmpocaa", sum := "524a9a54988b1d9fed4ace85dbf816f0e32b66253dabac4279bf3f3090fb2c19", func := "loop.example/closurecells/laws.FnBareProgram", spec := "fnBareProgram", unfollowed := true, recurses := true, apart := false, narrowed := true }
def FnBareProgramUptoSaid : Prop := fnBareProgramUptoRow.holds Try.pinned (OpenSpec.upto fnBareProgramSpec)

/-- 'laws.FnOwnersOf', WHERE WHAT IT READS IS OF BULK AT MOST 1048576: true; the input reads as it did. -/
def fnOwnersOfUptoRow : OpenClaim := { program := "ytklikpcfmmpocaa", sum := "524a9a54988b1d9fed4ace85dbf816f0e32b66253dabac4279bf3f3090fb2c19", func := "loop.example/closurecells/laws.FnOwnersOf", spec := "fnOwnersOf", unfollowed := true, recurses := true, apart := false, narrowed := true }
def FnOwnersOfUptoSaid : Prop := fnOwnersOfUptoRow.holds Try.pinned (OpenSpec.upto fnOwnersOfSpec)

/-- 'laws.FnExactOwnersOf', WHERE WHAT IT READS IS OF BULK AT MOST 1048576: true; the input reads as it did. -/
def fnExactOwnersOfUptoRow : OpenClaim := { program := "ytklikpcfmmpocaa", sum := "524a9a54988b1d9fed4ace85dbf816f0e32b66253dabac4279bf3f3090fb2c19", func := "loop.example/closurecells/laws.FnExactOwnersOf", spec := "fnExactOwnersOf", unfollowed := true, recurses := true, apart := false, narrowed := true }
def FnExactOwnersOfUptoSaid : Prop := fnExactOwnersOfUptoRow.holds Try.pinned (OpenSpec.upto fnExactOwnersOfSpec)

/-- 'laws.FnSharesCell', WHERE WHAT IT READS IS OF BULK AT MOST 1048576: true; the input reads as it did. -/
def fnSharesCellUptoRow : OpenClaim := { program := "ytklikpcfmmpocaa", sum := "524a9a54988b1d9fed4ace85dbf816f0e32b66253dabac4279bf3f3090fb2c19", func := "loop.example/closurecells/laws.FnSharesCell", spec := "fnSharesCell", unfollowed := true, recurses := true, apart := false, narrowed := true }
def FnSharesCellUptoSaid : Prop := fnSharesCellUptoRow.holds Try.pinned (OpenSpec.upto fnSharesCellSpec)

/-- 'laws.FnValidProgram', WHERE WHAT IT READS IS OF BULK AT MOST 1048576: true; the input reads as it did. -/
def fnValidProgramUptoRow : OpenClaim := { program := "ytklikpcfmmpocaa", sum := "524a9a54988b1d9fed4ace85dbf816f0e32b66253dabac4279bf3f3090fb2c19", func := "loop.example/closurecells/laws.FnValidProgram", spec := "fnValidProgram", unfollowed := true, recurses := true, apart := false, narrowed := true }
def FnValidProgramUptoSaid : Prop := fnValidProgramUptoRow.holds Try.pinned (OpenSpec.upto fnValidProgramSpec)

/-- 'laws.FnFastsOf', WHERE WHAT IT READS IS OF BULK AT MOST 1048576: true; the input reads as it did. -/
def fnFastsOfUptoRow : OpenClaim := { program := "ytklikpcfmmpocaa", sum := "524a9a54988b1d9fed4ace85dbf816f0e32b66253dabac4279bf3f3090fb2c19", func := "loop.example/closurecells/laws.FnFastsOf", spec := "fnFastsOf", unfollowed := true, recurses := true, apart := false, narrowed := true }
def FnFastsOfUptoSaid : Prop := fnFastsOfUptoRow.holds Try.pinned (OpenSpec.upto fnFastsOfSpec)

/-- 'laws.FnSymbolOf', WHERE WHAT IT READS IS OF BULK AT MOST 1048576: true; the input reads as it did. -/
def fnSymbolOfUptoRow : OpenClaim := { program := "ytklikpcfmmpocaa", sum := "524a9a54988b1d9fed4ace85dbf816f0e32b66253dabac4279bf3f3090fb2c19", func := "loop.example/closurecells/laws.FnSymbolOf", spec := "fnSymbolOf", unfollowed := true, recurses := true, apart := false, narrowed := true }
def FnSymbolOfUptoSaid : Prop := fnSymbolOfUptoRow.holds Try.pinned (OpenSpec.upto fnSymbolOfSpec)

/-- 'laws.FnCellsOf', WHERE WHAT IT READS IS OF BULK AT MOST 1048576: true; the input reads as it did. -/
def fnCellsOfUptoRow : OpenClaim := { program := "ytklikpcfmmpocaa", sum := "524a9a54988b1d9fed4ace85dbf816f0e32b66253dabac4279bf3f3090fb2c19", func := "loop.example/closurecells/laws.FnCellsOf", spec := "fnCellsOf", unfollowed := true, recurses := true, apart := false, narrowed := true }
def FnCellsOfUptoSaid : Prop := fnCellsOfUptoRow.holds Try.pinned (OpenSpec.upto fnCellsOfSpec)

/-- 'laws.FnFreesOf', WHERE WHAT IT READS IS OF BULK AT MOST 1048576: true; the input reads as it did. -/
def fnFreesOfUptoRow : OpenClaim := { program := "ytklikpcfmmpocaa", sum := "524a9a54988b1d9fed4ace85dbf816f0e32b66253dabac4279bf3f3090fb2c19", func := "loop.example/closurecells/laws.FnFreesOf", spec := "fnFreesOf", unfollowed := true, recurses := true, apart := false, narrowed := true }
def FnFreesOfUptoSaid : Prop := fnFreesOfUptoRow.holds Try.pinned (OpenSpec.upto fnFreesOfSpec)

/-- 'laws.FnFreesOfKids', WHERE WHAT IT READS IS OF BULK AT MOST 1048576: true; the input reads as it did. -/
def fnFreesOfKidsUptoRow : OpenClaim := { program := "ytklikpcfmmpocaa", sum := "524a9a54988b1d9fed4ace85dbf816f0e32b66253dabac4279bf3f3090fb2c19", func := "loop.example/closurecells/laws.FnFreesOfKids", spec := "fnFreesOfKids", unfollowed := true, recurses := true, apart := false, narrowed := true }
def FnFreesOfKidsUptoSaid : Prop := fnFreesOfKidsUptoRow.holds Try.pinned (OpenSpec.upto fnFreesOfKidsSpec)

/-- 'laws.FnTouchedBy', WHERE WHAT IT READS IS OF BULK AT MOST 1048576: true; the input reads as it did. -/
def fnTouchedByUptoRow : OpenClaim := { program := "ytklikpcfmmpocaa", sum := "524a9a54988b1d9fed4ace85dbf816f0e32b66253dabac4279bf3f3090fb2c19", func := "loop.example/closurecells/laws.FnTouchedBy", spec := "fnTouchedBy", unfollowed := true, recurses := true, apart := false, narrowed := true }
def FnTouchedByUptoSaid : Prop := fnTouchedByUptoRow.holds Try.pinned (OpenSpec.upto fnTouchedBySpec)

/-- 'laws.FnSeenIn', WHERE WHAT IT READS IS OF BULK AT MOST 1048576: true; the input reads as it did. -/
def fnSeenInUptoRow : OpenClaim := { program := "ytklikpcfmmpocaa", sum := "524a9a54988b1d9fed4ace85dbf816f0e32b66253dabac4279bf3f3090fb2c19", func := "loop.example/closurecells/laws.FnSeenIn", spec := "fnSeenIn", unfollowed := true, recurses := true, apart := false, narrowed := true }
def FnSeenInUptoSaid : Prop := fnSeenInUptoRow.holds Try.pinned (OpenSpec.upto fnSeenInSpec)

/-- 'laws.FnCapturesOf', WHERE WHAT IT READS IS OF BULK AT MOST 1048576: true; the input reads as it did. -/
def fnCapturesOfUptoRow : OpenClaim := { program := "ytklikpcfmmpocaa", sum := "524a9a54988b1d9fed4ace85dbf816f0e32b66253dabac4279bf3f3090fb2c19", func := "loop.example/closurecells/laws.FnCapturesOf", spec := "fnCapturesOf", unfollowed := true, recurses := true, apart := false, narrowed := true }
def FnCapturesOfUptoSaid : Prop := fnCapturesOfUptoRow.holds Try.pinned (OpenSpec.upto fnCapturesOfSpec)

/-- 'laws.FnExactSameMeaning', WHERE WHAT IT READS IS OF BULK AT MOST 1048576: true; the input reads as it did. -/
def fnExactSameMeaningUptoRow : OpenClaim := { program := "ytklikpcfmmpocaa", sum := "524a9a54988b1d9fed4ace85dbf816f0e32b66253dabac4279bf3f3090fb2c19", func := "loop.example/closurecells/laws.FnExactSameMeaning", spec := "fnExactSameMeaning", unfollowed := true, recurses := true, apart := false, narrowed := true }
def FnExactSameMeaningUptoSaid : Prop := fnExactSameMeaningUptoRow.holds Try.pinned (OpenSpec.upto fnExactSameMeaningSpec)

end Rows
end Go.Proofs.Ytklikpcfmmpocaa
