/-
  DERIVED. GIVEN WITH THE SEED: THE CARDS: each row of YtcacdneodpoboaaDoorRows.lean that lists a variable, with what it lists TIED to the program's text (the seventh form; the later family's looks); each row that meets fmt, with fmt's text TOLD by the authors' own Lean function (tested against real Go, not proved from fmt's source: count such statements apart). THE CARD IS WHAT COUNTS. Prove the row's statement (the work); the ties are given (YtcacdneodpoboaaDoorTie.lean); close each card by the builder's one call (the guide's Derived/Test/ToyasCard.lean, 'card_holds'). Laid BY PROGRAM, IN A SANDBOX (cutbox-door.mjs). By AI agents, Wed Nov 11 2026. No macro, syntax, notation, axiom, sorry.
-/
import Derived.Test.YtcacdneodpoboaaDoorRows
import GoSem.ClaimSeven
namespace Go.Proofs.YtcacdneodpoboaaDoor
namespace Rows

/-- THE TIED CARD OF 'laws.FnExactSha256'. -/
def fnExactSha256Card : Claim7 := { stood := { row := fnExactSha256Row, standIns := [], harness := (true, "1bed9bc4f6eddff88722283a9038c167823eb42195936be6516201a457208b9a"), looks := false }, kinds := [], alts := [], laidByText := true, laidKinds := [.data], laidTests := true, laidLooks := .later }
def FnExactSha256CardSaid : Prop := Claim7.holds Tryd.pinned (.plain (OpenSpec.ofChange fnExactSha256Spec)) fnExactSha256Card

/-- THE TIED CARD OF 'laws.FnExactDigest'. -/
def fnExactDigestCard : Claim7 := { stood := { row := fnExactDigestRow, standIns := [], harness := (true, "1bed9bc4f6eddff88722283a9038c167823eb42195936be6516201a457208b9a"), looks := false }, kinds := [], alts := [], laidByText := true, laidKinds := [.data], laidTests := true, laidLooks := .later }
def FnExactDigestCardSaid : Prop := Claim7.holds Tryd.pinned (.plain (OpenSpec.ofChange fnExactDigestSpec)) fnExactDigestCard

/-- THE TIED CARD OF 'laws.FnExactLeaf'. -/
def fnExactLeafCard : Claim7 := { stood := { row := fnExactLeafRow, standIns := [], harness := (true, "1bed9bc4f6eddff88722283a9038c167823eb42195936be6516201a457208b9a"), looks := false }, kinds := [], alts := [], laidByText := true, laidKinds := [.data], laidTests := true, laidLooks := .later }
def FnExactLeafCardSaid : Prop := Claim7.holds Tryd.pinned (.plain (OpenSpec.ofChange fnExactLeafSpec)) fnExactLeafCard

/-- THE TIED CARD OF 'laws.FnExactNode'. -/
def fnExactNodeCard : Claim7 := { stood := { row := fnExactNodeRow, standIns := [], harness := (true, "1bed9bc4f6eddff88722283a9038c167823eb42195936be6516201a457208b9a"), looks := false }, kinds := [], alts := [], laidByText := true, laidKinds := [.data], laidTests := true, laidLooks := .later }
def FnExactNodeCardSaid : Prop := Claim7.holds Tryd.pinned (.plain (OpenSpec.ofChange fnExactNodeSpec)) fnExactNodeCard

/-- THE TIED CARD OF 'laws.FnExactCheckPath'. -/
def fnExactCheckPathCard : Claim7 := { stood := { row := fnExactCheckPathRow, standIns := [], harness := (true, "1bed9bc4f6eddff88722283a9038c167823eb42195936be6516201a457208b9a"), looks := false }, kinds := [], alts := [], laidByText := true, laidKinds := [.data], laidTests := true, laidLooks := .later }
def FnExactCheckPathCardSaid : Prop := Claim7.holds Tryd.pinned (.plain (OpenSpec.ofChange fnExactCheckPathSpec)) fnExactCheckPathCard

/-- THE TIED CARD OF 'laws.FnExactCheckProof'. -/
def fnExactCheckProofCard : Claim7 := { stood := { row := fnExactCheckProofRow, standIns := [], harness := (true, "1bed9bc4f6eddff88722283a9038c167823eb42195936be6516201a457208b9a"), looks := false }, kinds := [], alts := [], laidByText := true, laidKinds := [.data], laidTests := true, laidLooks := .later }
def FnExactCheckProofCardSaid : Prop := Claim7.holds Tryd.pinned (.plain (OpenSpec.ofChange fnExactCheckProofSpec)) fnExactCheckProofCard

/-- THE SECOND FORM's CARD OF 'laws.FnExactSha256'. -/
def fnExactSha256UptoCard : Claim7 := { stood := { row := fnExactSha256UptoRow, standIns := [], harness := (true, "1bed9bc4f6eddff88722283a9038c167823eb42195936be6516201a457208b9a"), looks := false }, kinds := [], alts := [], laidByText := true, laidKinds := [.data], laidTests := true, laidLooks := .later }
def FnExactSha256UptoCardSaid : Prop := Claim7.holds Tryd.pinned (.plain (OpenSpec.upto fnExactSha256Spec)) fnExactSha256UptoCard

/-- THE SECOND FORM's CARD OF 'laws.FnExactDigest'. -/
def fnExactDigestUptoCard : Claim7 := { stood := { row := fnExactDigestUptoRow, standIns := [], harness := (true, "1bed9bc4f6eddff88722283a9038c167823eb42195936be6516201a457208b9a"), looks := false }, kinds := [], alts := [], laidByText := true, laidKinds := [.data], laidTests := true, laidLooks := .later }
def FnExactDigestUptoCardSaid : Prop := Claim7.holds Tryd.pinned (.plain (OpenSpec.upto fnExactDigestSpec)) fnExactDigestUptoCard

/-- THE SECOND FORM's CARD OF 'laws.FnExactLeaf'. -/
def fnExactLeafUptoCard : Claim7 := { stood := { row := fnExactLeafUptoRow, standIns := [], harness := (true, "1bed9bc4f6eddff88722283a9038c167823eb42195936be6516201a457208b9a"), looks := false }, kinds := [], alts := [], laidByText := true, laidKinds := [.data], laidTests := true, laidLooks := .later }
def FnExactLeafUptoCardSaid : Prop := Claim7.holds Tryd.pinned (.plain (OpenSpec.upto fnExactLeafSpec)) fnExactLeafUptoCard

/-- THE SECOND FORM's CARD OF 'laws.FnExactNode'. -/
def fnExactNodeUptoCard : Claim7 := { stood := { row := fnExactNodeUptoRow, standIns := [], harness := (true, "1bed9bc4f6eddff88722283a9038c167823eb42195936be6516201a457208b9a"), looks := false }, kinds := [], alts := [], laidByText := true, laidKinds := [.data], laidTests := true, laidLooks := .later }
def FnExactNodeUptoCardSaid : Prop := Claim7.holds Tryd.pinned (.plain (OpenSpec.upto fnExactNodeSpec)) fnExactNodeUptoCard

/-- THE SECOND FORM's CARD OF 'laws.FnExactCheckPath'. -/
def fnExactCheckPathUptoCard : Claim7 := { stood := { row := fnExactCheckPathUptoRow, standIns := [], harness := (true, "1bed9bc4f6eddff88722283a9038c167823eb42195936be6516201a457208b9a"), looks := false }, kinds := [], alts := [], laidByText := true, laidKinds := [.data], laidTests := true, laidLooks := .later }
def FnExactCheckPathUptoCardSaid : Prop := Claim7.holds Tryd.pinned (.plain (OpenSpec.upto fnExactCheckPathSpec)) fnExactCheckPathUptoCard

/-- THE SECOND FORM's CARD OF 'laws.FnExactCheckProof'. -/
def fnExactCheckProofUptoCard : Claim7 := { stood := { row := fnExactCheckProofUptoRow, standIns := [], harness := (true, "1bed9bc4f6eddff88722283a9038c167823eb42195936be6516201a457208b9a"), looks := false }, kinds := [], alts := [], laidByText := true, laidKinds := [.data], laidTests := true, laidLooks := .later }
def FnExactCheckProofUptoCardSaid : Prop := Claim7.holds Tryd.pinned (.plain (OpenSpec.upto fnExactCheckProofSpec)) fnExactCheckProofUptoCard
end Rows
end Go.Proofs.YtcacdneodpoboaaDoor
