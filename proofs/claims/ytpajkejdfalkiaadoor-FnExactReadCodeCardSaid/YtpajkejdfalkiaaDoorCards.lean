/-
  DERIVED. GIVEN WITH THE SEED: THE CARDS: each row of YtpajkejdfalkiaaDoorRows.lean that lists a variable, with what it lists TIED to the program's text (the seventh form; the later family's looks); each row that meets fmt, with fmt's text TOLD by the authors' own Lean function (tested against real Go, not proved from fmt's source: count such statements apart). THE CARD IS WHAT COUNTS. Prove the row's statement (the work); the ties are given (YtpajkejdfalkiaaDoorTie.lean); close each card by the builder's one call (the guide's Derived/Test/ToyasCard.lean, 'card_holds'). Laid BY PROGRAM, IN A SANDBOX (cutbox-door.mjs). By AI agents, Wed Nov 11 2026. No macro, syntax, notation, axiom, sorry.
-/
import Derived.Test.YtpajkejdfalkiaaDoorRows
import GoSem.ClaimSeven
namespace Go.Proofs.YtpajkejdfalkiaaDoor
namespace Rows

/-- THE TIED CARD OF 'laws.FnEffectOf'. -/
def fnEffectOfCard : Claim7 := { stood := { row := fnEffectOfRow, standIns := [], harness := (true, "37d91cf84242546ef0c7c77fe9d295ee8955a27c9feae2349678920a426568c7"), looks := true }, kinds := [], alts := [], laidByText := true, laidKinds := [.data], laidTests := true, laidLooks := .later }
def FnEffectOfCardSaid : Prop := Claim7.holds Tryd.pinned (.plain (OpenSpec.ofChange fnEffectOfSpec)) fnEffectOfCard

/-- THE TIED CARD OF 'laws.FnExactLoadOp'. -/
def fnExactLoadOpCard : Claim7 := { stood := { row := fnExactLoadOpRow, standIns := [], harness := (true, "37d91cf84242546ef0c7c77fe9d295ee8955a27c9feae2349678920a426568c7"), looks := true }, kinds := [], alts := [], laidByText := true, laidKinds := [.data], laidTests := true, laidLooks := .later }
def FnExactLoadOpCardSaid : Prop := Claim7.holds Tryd.pinned (.plain (OpenSpec.ofChange fnExactLoadOpSpec)) fnExactLoadOpCard

/-- THE TIED CARD OF 'laws.FnExactReadCode'. -/
def fnExactReadCodeCard : Claim7 := { stood := { row := fnExactReadCodeRow, standIns := [], harness := (true, "37d91cf84242546ef0c7c77fe9d295ee8955a27c9feae2349678920a426568c7"), looks := true }, kinds := [], alts := [], laidByText := true, laidKinds := [.data, .data, .pinned], laidTests := true, laidLooks := .later }
def FnExactReadCodeCardSaid : Prop := Claim7.holds Tryd.pinned (.plain (OpenSpec.ofChange fnExactReadCodeSpec)) fnExactReadCodeCard

/-- THE TIED CARD OF 'laws.FnExactStoreOp'. -/
def fnExactStoreOpCard : Claim7 := { stood := { row := fnExactStoreOpRow, standIns := [], harness := (true, "37d91cf84242546ef0c7c77fe9d295ee8955a27c9feae2349678920a426568c7"), looks := true }, kinds := [], alts := [], laidByText := true, laidKinds := [.data], laidTests := true, laidLooks := .later }
def FnExactStoreOpCardSaid : Prop := Claim7.holds Tryd.pinned (.plain (OpenSpec.ofChange fnExactStoreOpSpec)) fnExactStoreOpCard

/-- THE TIED CARD OF 'laws.FnExactDropOp'. -/
def fnExactDropOpCard : Claim7 := { stood := { row := fnExactDropOpRow, standIns := [], harness := (true, "37d91cf84242546ef0c7c77fe9d295ee8955a27c9feae2349678920a426568c7"), looks := true }, kinds := [], alts := [], laidByText := true, laidKinds := [.data], laidTests := true, laidLooks := .later }
def FnExactDropOpCardSaid : Prop := Claim7.holds Tryd.pinned (.plain (OpenSpec.ofChange fnExactDropOpSpec)) fnExactDropOpCard

/-- THE SECOND FORM's CARD OF 'laws.FnEffectOf'. -/
def fnEffectOfUptoCard : Claim7 := { stood := { row := fnEffectOfUptoRow, standIns := [], harness := (true, "37d91cf84242546ef0c7c77fe9d295ee8955a27c9feae2349678920a426568c7"), looks := true }, kinds := [], alts := [], laidByText := true, laidKinds := [.data], laidTests := true, laidLooks := .later }
def FnEffectOfUptoCardSaid : Prop := Claim7.holds Tryd.pinned (.plain (OpenSpec.upto fnEffectOfSpec)) fnEffectOfUptoCard

/-- THE SECOND FORM's CARD OF 'laws.FnExactLoadOp'. -/
def fnExactLoadOpUptoCard : Claim7 := { stood := { row := fnExactLoadOpUptoRow, standIns := [], harness := (true, "37d91cf84242546ef0c7c77fe9d295ee8955a27c9feae2349678920a426568c7"), looks := true }, kinds := [], alts := [], laidByText := true, laidKinds := [.data], laidTests := true, laidLooks := .later }
def FnExactLoadOpUptoCardSaid : Prop := Claim7.holds Tryd.pinned (.plain (OpenSpec.upto fnExactLoadOpSpec)) fnExactLoadOpUptoCard

/-- THE SECOND FORM's CARD OF 'laws.FnExactReadCode'. -/
def fnExactReadCodeUptoCard : Claim7 := { stood := { row := fnExactReadCodeUptoRow, standIns := [], harness := (true, "37d91cf84242546ef0c7c77fe9d295ee8955a27c9feae2349678920a426568c7"), looks := true }, kinds := [], alts := [], laidByText := true, laidKinds := [.data, .data, .pinned], laidTests := true, laidLooks := .later }
def FnExactReadCodeUptoCardSaid : Prop := Claim7.holds Tryd.pinned (.plain (OpenSpec.upto fnExactReadCodeSpec)) fnExactReadCodeUptoCard

/-- THE SECOND FORM's CARD OF 'laws.FnExactStoreOp'. -/
def fnExactStoreOpUptoCard : Claim7 := { stood := { row := fnExactStoreOpUptoRow, standIns := [], harness := (true, "37d91cf84242546ef0c7c77fe9d295ee8955a27c9feae2349678920a426568c7"), looks := true }, kinds := [], alts := [], laidByText := true, laidKinds := [.data], laidTests := true, laidLooks := .later }
def FnExactStoreOpUptoCardSaid : Prop := Claim7.holds Tryd.pinned (.plain (OpenSpec.upto fnExactStoreOpSpec)) fnExactStoreOpUptoCard

/-- THE SECOND FORM's CARD OF 'laws.FnExactDropOp'. -/
def fnExactDropOpUptoCard : Claim7 := { stood := { row := fnExactDropOpUptoRow, standIns := [], harness := (true, "37d91cf84242546ef0c7c77fe9d295ee8955a27c9feae2349678920a426568c7"), looks := true }, kinds := [], alts := [], laidByText := true, laidKinds := [.data], laidTests := true, laidLooks := .later }
def FnExactDropOpUptoCardSaid : Prop := Claim7.holds Tryd.pinned (.plain (OpenSpec.upto fnExactDropOpSpec)) fnExactDropOpUptoCard
end Rows
end Go.Proofs.YtpajkejdfalkiaaDoor
