/-
  DERIVED. GIVEN WITH THE SEED: THE CARDS: each row of YtdokijbheholdaaDoorRows.lean that lists a variable, with what it lists TIED to the program's text (the seventh form; the later family's looks); each row that meets fmt, with fmt's text TOLD by the authors' own Lean function (tested against real Go, not proved from fmt's source: count such statements apart). THE CARD IS WHAT COUNTS. Prove the row's statement (the work); the ties are given (YtdokijbheholdaaDoorTie.lean); close each card by the builder's one call (the guide's Derived/Test/ToyasCard.lean, 'card_holds'). Laid BY PROGRAM, IN A SANDBOX (cutbox-door.mjs). By AI agents, Wed Nov 11 2026. No macro, syntax, notation, axiom, sorry.
-/
import Derived.Test.YtdokijbheholdaaDoorRows
import GoSem.ClaimSeven
namespace Go.Proofs.YtdokijbheholdaaDoor
namespace Rows

/-- THE TIED CARD OF 'futtocklaw26.WfgRings'. -/
def wfgRingsCard : Claim7 := { stood := { row := wfgRingsRow, standIns := [], harness := (true, "b0185c13e4344c9f416b7c1a3a3d405a2ab5d2649cca3bd649246f6c2215bb27"), looks := false }, kinds := [], alts := [], laidByText := true, laidKinds := [.data], laidTests := true, laidLooks := .later }
def WfgRingsCardSaid : Prop := Claim7.holds Tryd.pinned (.plain (OpenSpec.ofChange wfgRingsSpec)) wfgRingsCard

/-- THE TIED CARD OF 'futtocklaw26.WfgGraphs'. -/
def wfgGraphsCard : Claim7 := { stood := { row := wfgGraphsRow, standIns := [], harness := (true, "b0185c13e4344c9f416b7c1a3a3d405a2ab5d2649cca3bd649246f6c2215bb27"), looks := false }, kinds := [], alts := [], laidByText := true, laidKinds := [.data], laidTests := true, laidLooks := .later }
def WfgGraphsCardSaid : Prop := Claim7.holds Tryd.pinned (.plain (OpenSpec.ofChange wfgGraphsSpec)) wfgGraphsCard

/-- THE TIED CARD OF 'futtocklaw26.WfgFacts'. -/
def wfgFactsCard : Claim7 := { stood := { row := wfgFactsRow, standIns := [], harness := (true, "b0185c13e4344c9f416b7c1a3a3d405a2ab5d2649cca3bd649246f6c2215bb27"), looks := false }, kinds := [], alts := [], laidByText := true, laidKinds := [.data], laidTests := true, laidLooks := .later }
def WfgFactsCardSaid : Prop := Claim7.holds Tryd.pinned (.plain (OpenSpec.ofChange wfgFactsSpec)) wfgFactsCard

/-- THE SECOND FORM's CARD OF 'futtocklaw26.WfgRings'. -/
def wfgRingsUptoCard : Claim7 := { stood := { row := wfgRingsUptoRow, standIns := [], harness := (true, "b0185c13e4344c9f416b7c1a3a3d405a2ab5d2649cca3bd649246f6c2215bb27"), looks := false }, kinds := [], alts := [], laidByText := true, laidKinds := [.data], laidTests := true, laidLooks := .later }
def WfgRingsUptoCardSaid : Prop := Claim7.holds Tryd.pinned (.plain (OpenSpec.upto wfgRingsSpec)) wfgRingsUptoCard

/-- THE SECOND FORM's CARD OF 'futtocklaw26.WfgGraphs'. -/
def wfgGraphsUptoCard : Claim7 := { stood := { row := wfgGraphsUptoRow, standIns := [], harness := (true, "b0185c13e4344c9f416b7c1a3a3d405a2ab5d2649cca3bd649246f6c2215bb27"), looks := false }, kinds := [], alts := [], laidByText := true, laidKinds := [.data], laidTests := true, laidLooks := .later }
def WfgGraphsUptoCardSaid : Prop := Claim7.holds Tryd.pinned (.plain (OpenSpec.upto wfgGraphsSpec)) wfgGraphsUptoCard

/-- THE SECOND FORM's CARD OF 'futtocklaw26.WfgFacts'. -/
def wfgFactsUptoCard : Claim7 := { stood := { row := wfgFactsUptoRow, standIns := [], harness := (true, "b0185c13e4344c9f416b7c1a3a3d405a2ab5d2649cca3bd649246f6c2215bb27"), looks := false }, kinds := [], alts := [], laidByText := true, laidKinds := [.data], laidTests := true, laidLooks := .later }
def WfgFactsUptoCardSaid : Prop := Claim7.holds Tryd.pinned (.plain (OpenSpec.upto wfgFactsSpec)) wfgFactsUptoCard
end Rows
end Go.Proofs.YtdokijbheholdaaDoor
