/-
  DERIVED. GIVEN WITH THE SEED: THE CARDS: each row of YtajkbbifemeanaaGreatDoorRows.lean that lists a variable, with what it lists TIED to the program's text (the seventh form; the later family's looks); each row that meets fmt, with fmt's text TOLD by the authors' own Lean function (tested against real Go, not proved from fmt's source: count such statements apart). THE CARD IS WHAT COUNTS. Prove the row's statement (the work); the ties are given (YtajkbbifemeanaaGreatDoorTie.lean); close each card by the builder's one call (the guide's Derived/Test/ToyasCard.lean, 'card_holds'). Laid BY PROGRAM, IN A SANDBOX (cutbox-door.mjs). By AI agents, Wed Nov 11 2026. No macro, syntax, notation, axiom, sorry.
-/
import Derived.Test.YtajkbbifemeanaaGreatDoorRows
import GoSem.ClaimSeven
namespace Go.Proofs.YtajkbbifemeanaaGreatDoor
namespace Rows

/-- THE TIED CARD OF 'laws.FnTree'. -/
def fnTreeCard : Claim7 := { stood := { row := fnTreeRow, standIns := [], harness := (true, "10d55dc42151afb9068f54844daa77037aaf93214e4ea4ca397db9885bf34b77"), looks := true }, kinds := [], alts := [], goes := true, laidByText := true, laidKinds := [.data], laidTests := true, laidLooks := .later }
def FnTreeCardSaid : Prop := Claim7.holds Tryz.pinned (.plain (OpenSpec.ofChange fnTreeSpec)) fnTreeCard

/-- THE TIED CARD OF 'laws.FnLiePath'. -/
def fnLiePathCard : Claim7 := { stood := { row := fnLiePathRow, standIns := [], harness := (true, "10d55dc42151afb9068f54844daa77037aaf93214e4ea4ca397db9885bf34b77"), looks := true }, kinds := [], alts := [], goes := true, laidByText := true, laidKinds := [.handle, .data], laidTests := true, laidLooks := .later }
def FnLiePathCardSaid : Prop := Claim7.holds Tryz.pinned (.plain (OpenSpec.ofChange fnLiePathSpec)) fnLiePathCard

/-- THE TIED CARD OF 'laws.FnLie'. -/
def fnLieCard : Claim7 := { stood := { row := fnLieRow, standIns := [], harness := (true, "10d55dc42151afb9068f54844daa77037aaf93214e4ea4ca397db9885bf34b77"), looks := true }, kinds := [], alts := [], goes := true, laidByText := true, laidKinds := [.handle, .data], laidTests := true, laidLooks := .later }
def FnLieCardSaid : Prop := Claim7.holds Tryz.pinned (.plain (OpenSpec.ofChange fnLieSpec)) fnLieCard
end Rows
end Go.Proofs.YtajkbbifemeanaaGreatDoor
