/-
  NARROWER THAN 'FOR EVERY INPUT', by the rows' own cells (each row's printed sentence says how): FnEffectOf: laid · FnExactLoadOp: laid · FnExactReadCode: laid · FnExactStoreOp: laid · FnExactDropOp: laid.
  DERIVED. THE GIVEN ROWS OF THIS SEAT. 5 by the template 'for every input the law returns true; each argument reads behind the call as it read before'; 0 by the template 'total and deterministic' (their statements: YtpajkejdfalkiaaDoorTotals.lean).
  GIVEN WITH THE SEED: the statements are not yours to turn. If you find one false, say at which input.
  Laid BY PROGRAM, IN A SANDBOX (cutbox-rows.mjs): the forced cells as the released guide's own fill.sh prints them over the translation 74c47240dea7eef2… (all of the seat's roots in one cut). By AI agents, Wed Nov 11 2026. No macro, syntax, notation, axiom, sorry.
-/
import Derived.Test.YtpajkejdfalkiaaDoorChecked
import GoSem.PinnedTables
import GoSem.Claim
import GoSem.ClaimJoined
import GoSem.ClaimMapViews
import Derived.JoinedTies
import Derived.KernelRfl
namespace Go.Proofs.YtpajkejdfalkiaaDoor
/- THE CELL 'sum', in the pinned program and in every row, IS THE sha256 OF THE DUMP (.gsa) THAT YtpajkejdfalkiaaDoorProg.lean LOADS. Nothing in Lean hashes anything: it is a label: what it is worth is what the hold of that sum in a sandbox is worth. -/
noncomputable def Tryd.pinned : Pinned := { name := "ytpajkejdfalkiaadoor", sum := "74c47240dea7eef23e74cc5dcd66618a8e9c330bbcc9f77ee2eab16349a0d31f", checked := Tryd.checked }
namespace Rows
def none {H : Type} : Left H := { results := [], args := [] }

/- WHAT THE LISTED PACKAGE-LEVEL VARIABLES READ AS WHEN THE CALL BEGINS. Each datum BY PROGRAM (the guide's laid-datum.mjs) off the statement by which the dump's own 'gosem.cut.vars' lays the variable. In a bare row this is a premise. The card (YtpajkejdfalkiaaDoorCards.lean) ties it to the program's text. -/
def laid_loop_example_closurecells_impl_effects {H : Type} : DataW H := .agg [.lit (.int .i64 0), .lit (.int .i64 1), .lit (.int .i64 1), .lit (.int .i64 (-1)), .lit (.int .i64 0), .lit (.int .i64 1), .lit (.int .i64 (-1)), .lit (.int .i64 0), .lit (.int .i64 1), .lit (.int .i64 (-1)), .lit (.int .i64 0), .lit (.int .i64 1), .lit (.int .i64 (-1)), .lit (.int .i64 0), .lit (.int .i64 (-1)), .lit (.int .i64 1), .lit (.int .i64 1), .lit (.int .i64 0), .lit (.int .i64 0), .lit (.int .i64 (-1)), .lit (.int .i64 (-1))]
def laid_loop_example_closurecells_impl_loadCodes {H : Type} : DataW H := .agg [.lit (.int .i64 8), .lit (.int .i64 5), .lit (.int .i64 11), .lit (.int .i64 5), .lit (.int .i64 2)]
def laid_unicode_utf8_acceptRanges {H : Type} : DataW H := .agg [.agg [.lit (.int .u8 128), .lit (.int .u8 191)], .agg [.lit (.int .u8 160), .lit (.int .u8 191)], .agg [.lit (.int .u8 128), .lit (.int .u8 159)], .agg [.lit (.int .u8 144), .lit (.int .u8 191)], .agg [.lit (.int .u8 128), .lit (.int .u8 143)], .agg [.lit (.int .u8 0), .lit (.int .u8 0)], .agg [.lit (.int .u8 0), .lit (.int .u8 0)], .agg [.lit (.int .u8 0), .lit (.int .u8 0)], .agg [.lit (.int .u8 0), .lit (.int .u8 0)], .agg [.lit (.int .u8 0), .lit (.int .u8 0)], .agg [.lit (.int .u8 0), .lit (.int .u8 0)], .agg [.lit (.int .u8 0), .lit (.int .u8 0)], .agg [.lit (.int .u8 0), .lit (.int .u8 0)], .agg [.lit (.int .u8 0), .lit (.int .u8 0)], .agg [.lit (.int .u8 0), .lit (.int .u8 0)], .agg [.lit (.int .u8 0), .lit (.int .u8 0)]]
def laid_loop_example_closurecells_impl_opWords {H : Type} : DataW H := .agg [.lit (.string [116, 105, 99, 107]), .lit (.string [110, 117, 109]), .lit (.string [102, 97, 115, 116]), .lit (.string [115, 101, 116, 102, 97, 115, 116]), .lit (.string [100, 101, 108, 102, 97, 115, 116]), .lit (.string [99, 101, 108, 108]), .lit (.string [115, 101, 116, 99, 101, 108, 108]), .lit (.string [100, 101, 108, 99, 101, 108, 108]), .lit (.string [103, 108, 111, 98, 97, 108]), .lit (.string [115, 101, 116, 103, 108, 111, 98, 97, 108]), .lit (.string [100, 101, 108, 103, 108, 111, 98, 97, 108]), .lit (.string [110, 97, 109, 101]), .lit (.string [115, 101, 116, 110, 97, 109, 101]), .lit (.string [100, 101, 108, 110, 97, 109, 101]), .lit (.string [97, 100, 100]), .lit (.string [102, 117, 110]), .lit (.string [99, 108, 97, 115, 115]), .lit (.string [99, 97, 108, 108]), .lit (.string [97, 116, 116, 114]), .lit (.string [112, 114, 105, 110, 116]), .lit (.string [114, 101, 116, 117, 114, 110])]
/-- One of Go's own tables, pinned by name: the form's constant. -/
def laid_unicode_utf8_first : DataW Unit := Go.Pinned.utf8First

/-- 'laws.FnEffectOf': WHATEVER THE INPUT: true; the input reads as it did. -/
def fnEffectOfSpec : ChangeSpec := { name := "fnEffectOf", vars := ["loop.example/closurecells/impl.effects"], fn := fun _ => fun
  | [d, g1] => { results := [.lit (.bool true)], args := [d], vars := [g1] }
  | _ => none }
def fnEffectOfRow : OpenClaim := { program := "ytpajkejdfalkiaadoor", sum := "74c47240dea7eef23e74cc5dcd66618a8e9c330bbcc9f77ee2eab16349a0d31f", func := "loop.example/closurecells/laws.FnEffectOf", spec := "fnEffectOf", named := ["loop.example/closurecells/impl.effects"], apart := false, laid := [("loop.example/closurecells/impl.effects", laid_loop_example_closurecells_impl_effects)] }
def FnEffectOfSaid : Prop := fnEffectOfRow.holds Tryd.pinned (OpenSpec.ofChange fnEffectOfSpec)

/-- ITS FALSE NEIGHBOUR: 'it returns false'. Refute it at one input. -/
def fnEffectOfWrong : ChangeSpec := { name := "fnEffectOf", vars := ["loop.example/closurecells/impl.effects"], fn := fun _ => fun
  | [d, g1] => { results := [.lit (.bool false)], args := [d], vars := [g1] }
  | _ => none }
def FnEffectOfWrongFalsely : Prop := fnEffectOfRow.holds Tryd.pinned (OpenSpec.ofChange fnEffectOfWrong)

/-- 'laws.FnExactLoadOp': WHATEVER THE INPUT: true; the input reads as it did. -/
def fnExactLoadOpSpec : ChangeSpec := { name := "fnExactLoadOp", vars := ["loop.example/closurecells/impl.loadCodes"], fn := fun _ => fun
  | [d1, d2, d3, g1] => { results := [.lit (.bool true)], args := [d1, d2, d3], vars := [g1] }
  | _ => none }
def fnExactLoadOpRow : OpenClaim := { program := "ytpajkejdfalkiaadoor", sum := "74c47240dea7eef23e74cc5dcd66618a8e9c330bbcc9f77ee2eab16349a0d31f", func := "loop.example/closurecells/laws.FnExactLoadOp", spec := "fnExactLoadOp", unfollowed := true, recurses := true, named := ["loop.example/closurecells/impl.loadCodes"], apart := false, laid := [("loop.example/closurecells/impl.loadCodes", laid_loop_example_closurecells_impl_loadCodes)] }
def FnExactLoadOpSaid : Prop := fnExactLoadOpRow.holds Tryd.pinned (OpenSpec.ofChange fnExactLoadOpSpec)

/-- ITS FALSE NEIGHBOUR: 'it returns false'. Refute it at one input. -/
def fnExactLoadOpWrong : ChangeSpec := { name := "fnExactLoadOp", vars := ["loop.example/closurecells/impl.loadCodes"], fn := fun _ => fun
  | [d1, d2, d3, g1] => { results := [.lit (.bool false)], args := [d1, d2, d3], vars := [g1] }
  | _ => none }
def FnExactLoadOpWrongFalsely : Prop := fnExactLoadOpRow.holds Tryd.pinned (OpenSpec.ofChange fnExactLoadOpWrong)

/-- 'laws.FnExactReadCode': WHATEVER THE INPUT: true; the input reads as it did. -/
def fnExactReadCodeSpec : ChangeSpec := { name := "fnExactReadCode", vars := ["loop.example/closurecells/impl.opWords"], fn := fun _ => fun
  | [d, g1] => { results := [.lit (.bool true)], args := [d], vars := [g1] }
  | _ => none }
def fnExactReadCodeRow : OpenClaim := { program := "ytpajkejdfalkiaadoor", sum := "74c47240dea7eef23e74cc5dcd66618a8e9c330bbcc9f77ee2eab16349a0d31f", func := "loop.example/closurecells/laws.FnExactReadCode", spec := "fnExactReadCode", inPlace := ["internal/bytealg.CountString", "internal/bytealg.IndexByteString", "internal/bytealg.IndexString"], unfollowed := true, recurses := true, named := ["unicode/utf8.first", "unicode/utf8.acceptRanges", "internal/bytealg.MaxLen", "loop.example/closurecells/impl.opWords"], apart := false, laid := [("unicode/utf8.acceptRanges", laid_unicode_utf8_acceptRanges), ("loop.example/closurecells/impl.opWords", laid_loop_example_closurecells_impl_opWords), ("unicode/utf8.first", laid_unicode_utf8_first)] }
def FnExactReadCodeSaid : Prop := fnExactReadCodeRow.holds Tryd.pinned (OpenSpec.ofChange fnExactReadCodeSpec)

/-- ITS FALSE NEIGHBOUR: 'it returns false'. Refute it at one input. -/
def fnExactReadCodeWrong : ChangeSpec := { name := "fnExactReadCode", vars := ["loop.example/closurecells/impl.opWords"], fn := fun _ => fun
  | [d, g1] => { results := [.lit (.bool false)], args := [d], vars := [g1] }
  | _ => none }
def FnExactReadCodeWrongFalsely : Prop := fnExactReadCodeRow.holds Tryd.pinned (OpenSpec.ofChange fnExactReadCodeWrong)

/-- 'laws.FnExactStoreOp': WHATEVER THE INPUT: true; the input reads as it did. -/
def fnExactStoreOpSpec : ChangeSpec := { name := "fnExactStoreOp", vars := ["loop.example/closurecells/impl.loadCodes"], fn := fun _ => fun
  | [d1, d2, d3, g1] => { results := [.lit (.bool true)], args := [d1, d2, d3], vars := [g1] }
  | _ => none }
def fnExactStoreOpRow : OpenClaim := { program := "ytpajkejdfalkiaadoor", sum := "74c47240dea7eef23e74cc5dcd66618a8e9c330bbcc9f77ee2eab16349a0d31f", func := "loop.example/closurecells/laws.FnExactStoreOp", spec := "fnExactStoreOp", unfollowed := true, recurses := true, named := ["loop.example/closurecells/impl.loadCodes"], apart := false, laid := [("loop.example/closurecells/impl.loadCodes", laid_loop_example_closurecells_impl_loadCodes)] }
def FnExactStoreOpSaid : Prop := fnExactStoreOpRow.holds Tryd.pinned (OpenSpec.ofChange fnExactStoreOpSpec)

/-- ITS FALSE NEIGHBOUR: 'it returns false'. Refute it at one input. -/
def fnExactStoreOpWrong : ChangeSpec := { name := "fnExactStoreOp", vars := ["loop.example/closurecells/impl.loadCodes"], fn := fun _ => fun
  | [d1, d2, d3, g1] => { results := [.lit (.bool false)], args := [d1, d2, d3], vars := [g1] }
  | _ => none }
def FnExactStoreOpWrongFalsely : Prop := fnExactStoreOpRow.holds Tryd.pinned (OpenSpec.ofChange fnExactStoreOpWrong)

/-- 'laws.FnExactDropOp': WHATEVER THE INPUT: true; the input reads as it did. -/
def fnExactDropOpSpec : ChangeSpec := { name := "fnExactDropOp", vars := ["loop.example/closurecells/impl.loadCodes"], fn := fun _ => fun
  | [d1, d2, d3, g1] => { results := [.lit (.bool true)], args := [d1, d2, d3], vars := [g1] }
  | _ => none }
def fnExactDropOpRow : OpenClaim := { program := "ytpajkejdfalkiaadoor", sum := "74c47240dea7eef23e74cc5dcd66618a8e9c330bbcc9f77ee2eab16349a0d31f", func := "loop.example/closurecells/laws.FnExactDropOp", spec := "fnExactDropOp", unfollowed := true, recurses := true, named := ["loop.example/closurecells/impl.loadCodes"], apart := false, laid := [("loop.example/closurecells/impl.loadCodes", laid_loop_example_closurecells_impl_loadCodes)] }
def FnExactDropOpSaid : Prop := fnExactDropOpRow.holds Tryd.pinned (OpenSpec.ofChange fnExactDropOpSpec)

/-- ITS FALSE NEIGHBOUR: 'it returns false'. Refute it at one input. -/
def fnExactDropOpWrong : ChangeSpec := { name := "fnExactDropOp", vars := ["loop.example/closurecells/impl.loadCodes"], fn := fun _ => fun
  | [d1, d2, d3, g1] => { results := [.lit (.bool false)], args := [d1, d2, d3], vars := [g1] }
  | _ => none }
def FnExactDropOpWrongFalsely : Prop := fnExactDropOpRow.holds Tryd.pinned (OpenSpec.ofChange fnExactDropOpWrong)

/- THE SECOND FORM. 'bulk': how many values and letters a reading holds, each counted each time it is reached (what is shared counts as often as it is met; a slice's spare places count too). A statement '..UptoSaid' is the law's where the arguments, and the package variables that the reading takes, are together of bulk at most 1048576: NARROWER than '..Said'. Prove '..Said' where nothing that the law and all that it calls make is longer than what came in: it says more and counts as full. Else prove '..UptoSaid'. A law counts once. -/
mutual
def uptoBulk {H : Type} : DataW H → Nat
  | .lit (.string bytes) => bytes.length + 1
  | .lit _ => 1
  | .nil => 1
  | .ptr d => uptoBulk d + 1
  | .slice elems spare => uptoBulkAll elems + uptoBulkAll spare + 1
  | .agg parts => uptoBulkAll parts + 1
  | .iface _ d => uptoBulk d + 1
  | .map entries => uptoBulkEntries entries + 1
  | .held _ => 1
def uptoBulkAll {H : Type} : List (DataW H) → Nat
  | [] => 0
  | d :: r => uptoBulk d + uptoBulkAll r
def uptoBulkEntries {H : Type} : List (Lit × DataW H) → Nat
  | [] => 0
  | x :: r => uptoBulkEntry x + uptoBulkEntries r
def uptoBulkEntry {H : Type} : Lit × DataW H → Nat
  | (.string bytes, d) => bytes.length + uptoBulk d + 1
  | (_, d) => uptoBulk d + 1
 end
def uptoSmall : (H : Type) → List (DataW H) → Bool := fun _ ds => decide (uptoBulkAll ds ≤ 1048576)
def OpenSpec.upto (s : _root_.Go.ChangeSpec) : _root_.Go.OpenSpec := { _root_.Go.OpenSpec.ofChange s with cond := some uptoSmall }

/-- 'laws.FnEffectOf', WHERE WHAT IT READS IS OF BULK AT MOST 1048576: true; the input reads as it did. -/
def fnEffectOfUptoRow : OpenClaim := { program := "ytpajkejdfalkiaadoor", sum := "74c47240dea7eef23e74cc5dcd66618a8e9c330bbcc9f77ee2eab16349a0d31f", func := "loop.example/closurecells/laws.FnEffectOf", spec := "fnEffectOf", named := ["loop.example/closurecells/impl.effects"], apart := false, laid := [("loop.example/closurecells/impl.effects", laid_loop_example_closurecells_impl_effects)], narrowed := true }
def FnEffectOfUptoSaid : Prop := fnEffectOfUptoRow.holds Tryd.pinned (OpenSpec.upto fnEffectOfSpec)

/-- 'laws.FnExactLoadOp', WHERE WHAT IT READS IS OF BULK AT MOST 1048576: true; the input reads as it did. -/
def fnExactLoadOpUptoRow : OpenClaim := { program := "ytpajkejdfalkiaadoor", sum := "74c47240dea7eef23e74cc5dcd66618a8e9c330bbcc9f77ee2eab16349a0d31f", func := "loop.example/closurecells/laws.FnExactLoadOp", spec := "fnExactLoadOp", unfollowed := true, recurses := true, named := ["loop.example/closurecells/impl.loadCodes"], apart := false, laid := [("loop.example/closurecells/impl.loadCodes", laid_loop_example_closurecells_impl_loadCodes)], narrowed := true }
def FnExactLoadOpUptoSaid : Prop := fnExactLoadOpUptoRow.holds Tryd.pinned (OpenSpec.upto fnExactLoadOpSpec)

/-- 'laws.FnExactReadCode', WHERE WHAT IT READS IS OF BULK AT MOST 1048576: true; the input reads as it did. -/
def fnExactReadCodeUptoRow : OpenClaim := { program := "ytpajkejdfalkiaadoor", sum := "74c47240dea7eef23e74cc5dcd66618a8e9c330bbcc9f77ee2eab16349a0d31f", func := "loop.example/closurecells/laws.FnExactReadCode", spec := "fnExactReadCode", inPlace := ["internal/bytealg.CountString", "internal/bytealg.IndexByteString", "internal/bytealg.IndexString"], unfollowed := true, recurses := true, named := ["unicode/utf8.first", "unicode/utf8.acceptRanges", "internal/bytealg.MaxLen", "loop.example/closurecells/impl.opWords"], apart := false, laid := [("unicode/utf8.acceptRanges", laid_unicode_utf8_acceptRanges), ("loop.example/closurecells/impl.opWords", laid_loop_example_closurecells_impl_opWords), ("unicode/utf8.first", laid_unicode_utf8_first)], narrowed := true }
def FnExactReadCodeUptoSaid : Prop := fnExactReadCodeUptoRow.holds Tryd.pinned (OpenSpec.upto fnExactReadCodeSpec)

/-- 'laws.FnExactStoreOp', WHERE WHAT IT READS IS OF BULK AT MOST 1048576: true; the input reads as it did. -/
def fnExactStoreOpUptoRow : OpenClaim := { program := "ytpajkejdfalkiaadoor", sum := "74c47240dea7eef23e74cc5dcd66618a8e9c330bbcc9f77ee2eab16349a0d31f", func := "loop.example/closurecells/laws.FnExactStoreOp", spec := "fnExactStoreOp", unfollowed := true, recurses := true, named := ["loop.example/closurecells/impl.loadCodes"], apart := false, laid := [("loop.example/closurecells/impl.loadCodes", laid_loop_example_closurecells_impl_loadCodes)], narrowed := true }
def FnExactStoreOpUptoSaid : Prop := fnExactStoreOpUptoRow.holds Tryd.pinned (OpenSpec.upto fnExactStoreOpSpec)

/-- 'laws.FnExactDropOp', WHERE WHAT IT READS IS OF BULK AT MOST 1048576: true; the input reads as it did. -/
def fnExactDropOpUptoRow : OpenClaim := { program := "ytpajkejdfalkiaadoor", sum := "74c47240dea7eef23e74cc5dcd66618a8e9c330bbcc9f77ee2eab16349a0d31f", func := "loop.example/closurecells/laws.FnExactDropOp", spec := "fnExactDropOp", unfollowed := true, recurses := true, named := ["loop.example/closurecells/impl.loadCodes"], apart := false, laid := [("loop.example/closurecells/impl.loadCodes", laid_loop_example_closurecells_impl_loadCodes)], narrowed := true }
def FnExactDropOpUptoSaid : Prop := fnExactDropOpUptoRow.holds Tryd.pinned (OpenSpec.upto fnExactDropOpSpec)

end Rows
end Go.Proofs.YtpajkejdfalkiaaDoor
