/-
  DERIVED. GIVEN WITH THE SEED: THE CARDS: each row of YtjihphegmdfpfaaDoorRows.lean that lists a variable, with what it lists TIED to the program's text (the seventh form; the later family's looks); each row that meets fmt, with fmt's text TOLD by the authors' own Lean function (tested against real Go, not proved from fmt's source: count such statements apart). THE CARD IS WHAT COUNTS. Prove the row's statement (the work); the ties are given (YtjihphegmdfpfaaDoorTie.lean); close each card by the builder's one call (the guide's Derived/Test/ToyasCard.lean, 'card_holds'). Laid BY PROGRAM, IN A SANDBOX (cutbox-door.mjs). By AI agents, Wed Nov 11 2026. No macro, syntax, notation, axiom, sorry.
-/
import Derived.Test.YtjihphegmdfpfaaDoorRows
import GoSem.ClaimSeven
namespace Go.Proofs.YtjihphegmdfpfaaDoor
namespace Rows

/-- THE TIED CARD OF 'laws.FnExactEncodeStm'. -/
def fnExactEncodeStmCard : Claim7 := { stood := { row := fnExactEncodeStmRow, standIns := [], harness := (true, "f56a2c1c8eb66cf458e65581aaa40e526b4d1a9770ea9c3f6fe3b7baf59b329e"), looks := false }, kinds := [], alts := [], laidByText := true, laidKinds := [.mapped], laidTests := true, laidLooks := .later }
def FnExactEncodeStmCardSaid : Prop := Claim7.holds Tryd.pinned (.plain (OpenSpec.ofChange fnExactEncodeStmSpec)) fnExactEncodeStmCard

/-- THE TIED CARD OF 'laws.FnExactDecodeStm'. -/
def fnExactDecodeStmCard : Claim7 := { stood := { row := fnExactDecodeStmRow, standIns := [], harness := (true, "f56a2c1c8eb66cf458e65581aaa40e526b4d1a9770ea9c3f6fe3b7baf59b329e"), looks := false }, kinds := [], alts := [], laidByText := true, laidKinds := [.mapped], laidTests := true, laidLooks := .later }
def FnExactDecodeStmCardSaid : Prop := Claim7.holds Tryd.pinned (.plain (OpenSpec.ofChange fnExactDecodeStmSpec)) fnExactDecodeStmCard

/-- THE SECOND FORM's CARD OF 'laws.FnExactEncodeStm'. -/
def fnExactEncodeStmUptoCard : Claim7 := { stood := { row := fnExactEncodeStmUptoRow, standIns := [], harness := (true, "f56a2c1c8eb66cf458e65581aaa40e526b4d1a9770ea9c3f6fe3b7baf59b329e"), looks := false }, kinds := [], alts := [], laidByText := true, laidKinds := [.mapped], laidTests := true, laidLooks := .later }
def FnExactEncodeStmUptoCardSaid : Prop := Claim7.holds Tryd.pinned (.plain (OpenSpec.upto fnExactEncodeStmSpec)) fnExactEncodeStmUptoCard

/-- THE SECOND FORM's CARD OF 'laws.FnExactDecodeStm'. -/
def fnExactDecodeStmUptoCard : Claim7 := { stood := { row := fnExactDecodeStmUptoRow, standIns := [], harness := (true, "f56a2c1c8eb66cf458e65581aaa40e526b4d1a9770ea9c3f6fe3b7baf59b329e"), looks := false }, kinds := [], alts := [], laidByText := true, laidKinds := [.mapped], laidTests := true, laidLooks := .later }
def FnExactDecodeStmUptoCardSaid : Prop := Claim7.holds Tryd.pinned (.plain (OpenSpec.upto fnExactDecodeStmSpec)) fnExactDecodeStmUptoCard
end Rows
end Go.Proofs.YtjihphegmdfpfaaDoor
