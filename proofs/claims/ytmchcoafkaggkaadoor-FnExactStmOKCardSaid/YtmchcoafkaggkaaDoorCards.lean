/-
  DERIVED. GIVEN WITH THE SEED: THE CARDS: each row of YtmchcoafkaggkaaDoorRows.lean that lists a variable, with what it lists TIED to the program's text (the seventh form; the later family's looks); each row that meets fmt, with fmt's text TOLD by the authors' own Lean function (tested against real Go, not proved from fmt's source: count such statements apart). THE CARD IS WHAT COUNTS. Prove the row's statement (the work); the ties are given (YtmchcoafkaggkaaDoorTie.lean); close each card by the builder's one call (the guide's Derived/Test/ToyasCard.lean, 'card_holds'). Laid BY PROGRAM, IN A SANDBOX (cutbox-door.mjs). By AI agents, Wed Nov 11 2026. No macro, syntax, notation, axiom, sorry.
-/
import Derived.Test.YtmchcoafkaggkaaDoorRows
import GoSem.ClaimSeven
namespace Go.Proofs.YtmchcoafkaggkaaDoor
namespace Rows

/-- THE TIED CARD OF 'laws.FnExactTreeRoot'. -/
def fnExactTreeRootCard : Claim7 := { stood := { row := fnExactTreeRootRow, standIns := [], harness := (true, "e46ca5e1bfd85a7d8aefe4f7b41fc4a13f6e73b2e4b06bcec9b8379554af815e"), looks := false }, kinds := [], alts := [], laidByText := true, laidKinds := [.data], laidTests := true, laidLooks := .later }
def FnExactTreeRootCardSaid : Prop := Claim7.holds Tryd.pinned (.plain (OpenSpec.ofChange fnExactTreeRootSpec)) fnExactTreeRootCard

/-- THE TIED CARD OF 'laws.FnExactGrow'. -/
def fnExactGrowCard : Claim7 := { stood := { row := fnExactGrowRow, standIns := [], harness := (true, "e46ca5e1bfd85a7d8aefe4f7b41fc4a13f6e73b2e4b06bcec9b8379554af815e"), looks := false }, kinds := [], alts := [], laidByText := true, laidKinds := [.data], laidTests := true, laidLooks := .later }
def FnExactGrowCardSaid : Prop := Claim7.holds Tryd.pinned (.plain (OpenSpec.ofChange fnExactGrowSpec)) fnExactGrowCard

/-- THE TIED CARD OF 'laws.FnExactDbOK'. -/
def fnExactDbOKCard : Claim7 := { stood := { row := fnExactDbOKRow, standIns := [], harness := (true, "e46ca5e1bfd85a7d8aefe4f7b41fc4a13f6e73b2e4b06bcec9b8379554af815e"), looks := false }, kinds := [], alts := [], laidByText := true, laidKinds := [.mapped], laidTests := true, laidLooks := .later }
def FnExactDbOKCardSaid : Prop := Claim7.holds Tryd.pinned (.plain (OpenSpec.ofChange fnExactDbOKSpec)) fnExactDbOKCard

/-- THE TIED CARD OF 'laws.FnExactStmOK'. -/
def fnExactStmOKCard : Claim7 := { stood := { row := fnExactStmOKRow, standIns := [], harness := (true, "e46ca5e1bfd85a7d8aefe4f7b41fc4a13f6e73b2e4b06bcec9b8379554af815e"), looks := false }, kinds := [], alts := [], laidByText := true, laidKinds := [.mapped], laidTests := true, laidLooks := .later }
def FnExactStmOKCardSaid : Prop := Claim7.holds Tryd.pinned (.plain (OpenSpec.ofChange fnExactStmOKSpec)) fnExactStmOKCard

/-- THE SECOND FORM's CARD OF 'laws.FnExactTreeRoot'. -/
def fnExactTreeRootUptoCard : Claim7 := { stood := { row := fnExactTreeRootUptoRow, standIns := [], harness := (true, "e46ca5e1bfd85a7d8aefe4f7b41fc4a13f6e73b2e4b06bcec9b8379554af815e"), looks := false }, kinds := [], alts := [], laidByText := true, laidKinds := [.data], laidTests := true, laidLooks := .later }
def FnExactTreeRootUptoCardSaid : Prop := Claim7.holds Tryd.pinned (.plain (OpenSpec.upto fnExactTreeRootSpec)) fnExactTreeRootUptoCard

/-- THE SECOND FORM's CARD OF 'laws.FnExactGrow'. -/
def fnExactGrowUptoCard : Claim7 := { stood := { row := fnExactGrowUptoRow, standIns := [], harness := (true, "e46ca5e1bfd85a7d8aefe4f7b41fc4a13f6e73b2e4b06bcec9b8379554af815e"), looks := false }, kinds := [], alts := [], laidByText := true, laidKinds := [.data], laidTests := true, laidLooks := .later }
def FnExactGrowUptoCardSaid : Prop := Claim7.holds Tryd.pinned (.plain (OpenSpec.upto fnExactGrowSpec)) fnExactGrowUptoCard

/-- THE SECOND FORM's CARD OF 'laws.FnExactDbOK'. -/
def fnExactDbOKUptoCard : Claim7 := { stood := { row := fnExactDbOKUptoRow, standIns := [], harness := (true, "e46ca5e1bfd85a7d8aefe4f7b41fc4a13f6e73b2e4b06bcec9b8379554af815e"), looks := false }, kinds := [], alts := [], laidByText := true, laidKinds := [.mapped], laidTests := true, laidLooks := .later }
def FnExactDbOKUptoCardSaid : Prop := Claim7.holds Tryd.pinned (.plain (OpenSpec.upto fnExactDbOKSpec)) fnExactDbOKUptoCard

/-- THE SECOND FORM's CARD OF 'laws.FnExactStmOK'. -/
def fnExactStmOKUptoCard : Claim7 := { stood := { row := fnExactStmOKUptoRow, standIns := [], harness := (true, "e46ca5e1bfd85a7d8aefe4f7b41fc4a13f6e73b2e4b06bcec9b8379554af815e"), looks := false }, kinds := [], alts := [], laidByText := true, laidKinds := [.mapped], laidTests := true, laidLooks := .later }
def FnExactStmOKUptoCardSaid : Prop := Claim7.holds Tryd.pinned (.plain (OpenSpec.upto fnExactStmOKSpec)) fnExactStmOKUptoCard
end Rows
end Go.Proofs.YtmchcoafkaggkaaDoor
