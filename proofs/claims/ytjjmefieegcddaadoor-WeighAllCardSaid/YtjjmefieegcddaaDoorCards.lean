/-
  DERIVED. GIVEN WITH THE SEED: THE CARDS: each row of YtjjmefieegcddaaDoorRows.lean that lists a variable, with what it lists TIED to the program's text (the seventh form; the later family's looks); each row that meets fmt, with fmt's text TOLD by the authors' own Lean function (tested against real Go, not proved from fmt's source: count such statements apart). THE CARD IS WHAT COUNTS. Prove the row's statement (the work); the ties are given (YtjjmefieegcddaaDoorTie.lean); close each card by the builder's one call (the guide's Derived/Test/ToyasCard.lean, 'card_holds'). Laid BY PROGRAM, IN A SANDBOX (cutbox-door.mjs). By AI agents, Wed Nov 11 2026. No macro, syntax, notation, axiom, sorry.
-/
import Derived.Test.YtjjmefieegcddaaDoorRows
import GoSem.ClaimSeven
namespace Go.Proofs.YtjjmefieegcddaaDoor
namespace Rows

/-- THE TIED CARD OF 'muscovadolaw01.WeighChecks'. -/
def weighChecksCard : Claim7 := { stood := { row := weighChecksRow, standIns := [], harness := (true, "978fa20f6f16e7e64022fe03bf5878814e49ad04a4fd46f998d3b4e1790764ec"), looks := true }, kinds := [], alts := [], goes := true, laidByText := true, laidKinds := [.handle], laidTests := true, laidLooks := .later }
def WeighChecksCardSaid : Prop := Claim7.holds Tryd.pinned (.plain (OpenSpec.ofChange weighChecksSpec)) weighChecksCard

/-- THE TIED CARD OF 'muscovadolaw01.WeighKnot'. -/
def weighKnotCard : Claim7 := { stood := { row := weighKnotRow, standIns := [], harness := (true, "978fa20f6f16e7e64022fe03bf5878814e49ad04a4fd46f998d3b4e1790764ec"), looks := true }, kinds := [], alts := [], goes := true, laidByText := true, laidKinds := [.handle], laidTests := true, laidLooks := .later }
def WeighKnotCardSaid : Prop := Claim7.holds Tryd.pinned (.plain (OpenSpec.ofChange weighKnotSpec)) weighKnotCard

/-- THE TIED CARD OF 'muscovadolaw01.WeighNext'. -/
def weighNextCard : Claim7 := { stood := { row := weighNextRow, standIns := [], harness := (true, "978fa20f6f16e7e64022fe03bf5878814e49ad04a4fd46f998d3b4e1790764ec"), looks := true }, kinds := [], alts := [], goes := true, laidByText := true, laidKinds := [.handle], laidTests := true, laidLooks := .later }
def WeighNextCardSaid : Prop := Claim7.holds Tryd.pinned (.plain (OpenSpec.ofChange weighNextSpec)) weighNextCard

/-- THE TIED CARD OF 'muscovadolaw01.WeighApart'. -/
def weighApartCard : Claim7 := { stood := { row := weighApartRow, standIns := [], harness := (true, "978fa20f6f16e7e64022fe03bf5878814e49ad04a4fd46f998d3b4e1790764ec"), looks := true }, kinds := [], alts := [], goes := true, laidByText := true, laidKinds := [.handle], laidTests := true, laidLooks := .later }
def WeighApartCardSaid : Prop := Claim7.holds Tryd.pinned (.plain (OpenSpec.ofChange weighApartSpec)) weighApartCard

/-- THE TIED CARD OF 'muscovadolaw01.WeighKept'. -/
def weighKeptCard : Claim7 := { stood := { row := weighKeptRow, standIns := [], harness := (true, "978fa20f6f16e7e64022fe03bf5878814e49ad04a4fd46f998d3b4e1790764ec"), looks := true }, kinds := [], alts := [], goes := true, laidByText := true, laidKinds := [.handle], laidTests := true, laidLooks := .later }
def WeighKeptCardSaid : Prop := Claim7.holds Tryd.pinned (.plain (OpenSpec.ofChange weighKeptSpec)) weighKeptCard

/-- THE TIED CARD OF 'muscovadolaw01.WeighThieves'. -/
def weighThievesCard : Claim7 := { stood := { row := weighThievesRow, standIns := [], harness := (true, "978fa20f6f16e7e64022fe03bf5878814e49ad04a4fd46f998d3b4e1790764ec"), looks := true }, kinds := [], alts := [], goes := true, laidByText := true, laidKinds := [.handle], laidTests := true, laidLooks := .later }
def WeighThievesCardSaid : Prop := Claim7.holds Tryd.pinned (.plain (OpenSpec.ofChange weighThievesSpec)) weighThievesCard

/-- THE TIED CARD OF 'muscovadolaw01.WeighCut'. -/
def weighCutCard : Claim7 := { stood := { row := weighCutRow, standIns := [], harness := (true, "978fa20f6f16e7e64022fe03bf5878814e49ad04a4fd46f998d3b4e1790764ec"), looks := true }, kinds := [], alts := [], goes := true, laidByText := true, laidKinds := [.handle], laidTests := true, laidLooks := .later }
def WeighCutCardSaid : Prop := Claim7.holds Tryd.pinned (.plain (OpenSpec.ofChange weighCutSpec)) weighCutCard

/-- THE TIED CARD OF 'muscovadolaw01.WeighStolen'. -/
def weighStolenCard : Claim7 := { stood := { row := weighStolenRow, standIns := [], harness := (true, "978fa20f6f16e7e64022fe03bf5878814e49ad04a4fd46f998d3b4e1790764ec"), looks := true }, kinds := [], alts := [], goes := true, laidByText := true, laidKinds := [.handle], laidTests := true, laidLooks := .later }
def WeighStolenCardSaid : Prop := Claim7.holds Tryd.pinned (.plain (OpenSpec.ofChange weighStolenSpec)) weighStolenCard

/-- THE TIED CARD OF 'muscovadolaw01.WeighKnots'. -/
def weighKnotsCard : Claim7 := { stood := { row := weighKnotsRow, standIns := [], harness := (true, "978fa20f6f16e7e64022fe03bf5878814e49ad04a4fd46f998d3b4e1790764ec"), looks := true }, kinds := [], alts := [], goes := true, laidByText := true, laidKinds := [.handle], laidTests := true, laidLooks := .later }
def WeighKnotsCardSaid : Prop := Claim7.holds Tryd.pinned (.plain (OpenSpec.ofChange weighKnotsSpec)) weighKnotsCard

/-- THE TIED CARD OF 'muscovadolaw01.WeighHeavier'. -/
def weighHeavierCard : Claim7 := { stood := { row := weighHeavierRow, standIns := [], harness := (true, "978fa20f6f16e7e64022fe03bf5878814e49ad04a4fd46f998d3b4e1790764ec"), looks := true }, kinds := [], alts := [], goes := true, laidByText := true, laidKinds := [.handle], laidTests := true, laidLooks := .later }
def WeighHeavierCardSaid : Prop := Claim7.holds Tryd.pinned (.plain (OpenSpec.ofChange weighHeavierSpec)) weighHeavierCard

/-- THE TIED CARD OF 'muscovadolaw01.WeighNumbered'. -/
def weighNumberedCard : Claim7 := { stood := { row := weighNumberedRow, standIns := [], harness := (true, "978fa20f6f16e7e64022fe03bf5878814e49ad04a4fd46f998d3b4e1790764ec"), looks := true }, kinds := [], alts := [], goes := true, laidByText := true, laidKinds := [.handle], laidTests := true, laidLooks := .later }
def WeighNumberedCardSaid : Prop := Claim7.holds Tryd.pinned (.plain (OpenSpec.ofChange weighNumberedSpec)) weighNumberedCard

/-- THE TIED CARD OF 'muscovadolaw01.WeighMore'. -/
def weighMoreCard : Claim7 := { stood := { row := weighMoreRow, standIns := [], harness := (true, "978fa20f6f16e7e64022fe03bf5878814e49ad04a4fd46f998d3b4e1790764ec"), looks := true }, kinds := [], alts := [], goes := true, laidByText := true, laidKinds := [.handle], laidTests := true, laidLooks := .later }
def WeighMoreCardSaid : Prop := Claim7.holds Tryd.pinned (.plain (OpenSpec.ofChange weighMoreSpec)) weighMoreCard

/-- THE TIED CARD OF 'muscovadolaw01.WeighScales'. -/
def weighScalesCard : Claim7 := { stood := { row := weighScalesRow, standIns := [], harness := (true, "978fa20f6f16e7e64022fe03bf5878814e49ad04a4fd46f998d3b4e1790764ec"), looks := true }, kinds := [], alts := [], goes := true, laidByText := true, laidKinds := [.handle], laidTests := true, laidLooks := .later }
def WeighScalesCardSaid : Prop := Claim7.holds Tryd.pinned (.plain (OpenSpec.ofChange weighScalesSpec)) weighScalesCard

/-- THE TIED CARD OF 'muscovadolaw01.WeighBounds'. -/
def weighBoundsCard : Claim7 := { stood := { row := weighBoundsRow, standIns := [], harness := (true, "978fa20f6f16e7e64022fe03bf5878814e49ad04a4fd46f998d3b4e1790764ec"), looks := true }, kinds := [], alts := [], goes := true, laidByText := true, laidKinds := [.handle], laidTests := true, laidLooks := .later }
def WeighBoundsCardSaid : Prop := Claim7.holds Tryd.pinned (.plain (OpenSpec.ofChange weighBoundsSpec)) weighBoundsCard

/-- THE TIED CARD OF 'muscovadolaw01.WeighAll'. -/
def weighAllCard : Claim7 := { stood := { row := weighAllRow, standIns := [], harness := (true, "978fa20f6f16e7e64022fe03bf5878814e49ad04a4fd46f998d3b4e1790764ec"), looks := true }, kinds := [], alts := [], goes := true, laidByText := true, laidKinds := [.handle], laidTests := true, laidLooks := .later }
def WeighAllCardSaid : Prop := Claim7.holds Tryd.pinned (.plain (OpenSpec.ofChange weighAllSpec)) weighAllCard

/-- THE TIED CARD OF 'muscovadolaw01.WeighUseless'. -/
def weighUselessCard : Claim7 := { stood := { row := weighUselessRow, standIns := [], harness := (true, "978fa20f6f16e7e64022fe03bf5878814e49ad04a4fd46f998d3b4e1790764ec"), looks := true }, kinds := [], alts := [], goes := true, laidByText := true, laidKinds := [.handle], laidTests := true, laidLooks := .later }
def WeighUselessCardSaid : Prop := Claim7.holds Tryd.pinned (.plain (OpenSpec.ofChange weighUselessSpec)) weighUselessCard

/-- THE TIED CARD OF 'muscovadolaw01.WeighKnown'. -/
def weighKnownCard : Claim7 := { stood := { row := weighKnownRow, standIns := [], harness := (true, "978fa20f6f16e7e64022fe03bf5878814e49ad04a4fd46f998d3b4e1790764ec"), looks := true }, kinds := [], alts := [], goes := true, laidByText := true, laidKinds := [.handle], laidTests := true, laidLooks := .later }
def WeighKnownCardSaid : Prop := Claim7.holds Tryd.pinned (.plain (OpenSpec.ofChange weighKnownSpec)) weighKnownCard

/-- THE SECOND FORM's CARD OF 'muscovadolaw01.WeighChecks'. -/
def weighChecksUptoCard : Claim7 := { stood := { row := weighChecksUptoRow, standIns := [], harness := (true, "978fa20f6f16e7e64022fe03bf5878814e49ad04a4fd46f998d3b4e1790764ec"), looks := true }, kinds := [], alts := [], goes := true, laidByText := true, laidKinds := [.handle], laidTests := true, laidLooks := .later }
def WeighChecksUptoCardSaid : Prop := Claim7.holds Tryd.pinned (.plain (OpenSpec.upto weighChecksSpec)) weighChecksUptoCard

/-- THE SECOND FORM's CARD OF 'muscovadolaw01.WeighKnot'. -/
def weighKnotUptoCard : Claim7 := { stood := { row := weighKnotUptoRow, standIns := [], harness := (true, "978fa20f6f16e7e64022fe03bf5878814e49ad04a4fd46f998d3b4e1790764ec"), looks := true }, kinds := [], alts := [], goes := true, laidByText := true, laidKinds := [.handle], laidTests := true, laidLooks := .later }
def WeighKnotUptoCardSaid : Prop := Claim7.holds Tryd.pinned (.plain (OpenSpec.upto weighKnotSpec)) weighKnotUptoCard

/-- THE SECOND FORM's CARD OF 'muscovadolaw01.WeighNext'. -/
def weighNextUptoCard : Claim7 := { stood := { row := weighNextUptoRow, standIns := [], harness := (true, "978fa20f6f16e7e64022fe03bf5878814e49ad04a4fd46f998d3b4e1790764ec"), looks := true }, kinds := [], alts := [], goes := true, laidByText := true, laidKinds := [.handle], laidTests := true, laidLooks := .later }
def WeighNextUptoCardSaid : Prop := Claim7.holds Tryd.pinned (.plain (OpenSpec.upto weighNextSpec)) weighNextUptoCard

/-- THE SECOND FORM's CARD OF 'muscovadolaw01.WeighApart'. -/
def weighApartUptoCard : Claim7 := { stood := { row := weighApartUptoRow, standIns := [], harness := (true, "978fa20f6f16e7e64022fe03bf5878814e49ad04a4fd46f998d3b4e1790764ec"), looks := true }, kinds := [], alts := [], goes := true, laidByText := true, laidKinds := [.handle], laidTests := true, laidLooks := .later }
def WeighApartUptoCardSaid : Prop := Claim7.holds Tryd.pinned (.plain (OpenSpec.upto weighApartSpec)) weighApartUptoCard

/-- THE SECOND FORM's CARD OF 'muscovadolaw01.WeighKept'. -/
def weighKeptUptoCard : Claim7 := { stood := { row := weighKeptUptoRow, standIns := [], harness := (true, "978fa20f6f16e7e64022fe03bf5878814e49ad04a4fd46f998d3b4e1790764ec"), looks := true }, kinds := [], alts := [], goes := true, laidByText := true, laidKinds := [.handle], laidTests := true, laidLooks := .later }
def WeighKeptUptoCardSaid : Prop := Claim7.holds Tryd.pinned (.plain (OpenSpec.upto weighKeptSpec)) weighKeptUptoCard

/-- THE SECOND FORM's CARD OF 'muscovadolaw01.WeighThieves'. -/
def weighThievesUptoCard : Claim7 := { stood := { row := weighThievesUptoRow, standIns := [], harness := (true, "978fa20f6f16e7e64022fe03bf5878814e49ad04a4fd46f998d3b4e1790764ec"), looks := true }, kinds := [], alts := [], goes := true, laidByText := true, laidKinds := [.handle], laidTests := true, laidLooks := .later }
def WeighThievesUptoCardSaid : Prop := Claim7.holds Tryd.pinned (.plain (OpenSpec.upto weighThievesSpec)) weighThievesUptoCard

/-- THE SECOND FORM's CARD OF 'muscovadolaw01.WeighCut'. -/
def weighCutUptoCard : Claim7 := { stood := { row := weighCutUptoRow, standIns := [], harness := (true, "978fa20f6f16e7e64022fe03bf5878814e49ad04a4fd46f998d3b4e1790764ec"), looks := true }, kinds := [], alts := [], goes := true, laidByText := true, laidKinds := [.handle], laidTests := true, laidLooks := .later }
def WeighCutUptoCardSaid : Prop := Claim7.holds Tryd.pinned (.plain (OpenSpec.upto weighCutSpec)) weighCutUptoCard

/-- THE SECOND FORM's CARD OF 'muscovadolaw01.WeighStolen'. -/
def weighStolenUptoCard : Claim7 := { stood := { row := weighStolenUptoRow, standIns := [], harness := (true, "978fa20f6f16e7e64022fe03bf5878814e49ad04a4fd46f998d3b4e1790764ec"), looks := true }, kinds := [], alts := [], goes := true, laidByText := true, laidKinds := [.handle], laidTests := true, laidLooks := .later }
def WeighStolenUptoCardSaid : Prop := Claim7.holds Tryd.pinned (.plain (OpenSpec.upto weighStolenSpec)) weighStolenUptoCard

/-- THE SECOND FORM's CARD OF 'muscovadolaw01.WeighKnots'. -/
def weighKnotsUptoCard : Claim7 := { stood := { row := weighKnotsUptoRow, standIns := [], harness := (true, "978fa20f6f16e7e64022fe03bf5878814e49ad04a4fd46f998d3b4e1790764ec"), looks := true }, kinds := [], alts := [], goes := true, laidByText := true, laidKinds := [.handle], laidTests := true, laidLooks := .later }
def WeighKnotsUptoCardSaid : Prop := Claim7.holds Tryd.pinned (.plain (OpenSpec.upto weighKnotsSpec)) weighKnotsUptoCard

/-- THE SECOND FORM's CARD OF 'muscovadolaw01.WeighHeavier'. -/
def weighHeavierUptoCard : Claim7 := { stood := { row := weighHeavierUptoRow, standIns := [], harness := (true, "978fa20f6f16e7e64022fe03bf5878814e49ad04a4fd46f998d3b4e1790764ec"), looks := true }, kinds := [], alts := [], goes := true, laidByText := true, laidKinds := [.handle], laidTests := true, laidLooks := .later }
def WeighHeavierUptoCardSaid : Prop := Claim7.holds Tryd.pinned (.plain (OpenSpec.upto weighHeavierSpec)) weighHeavierUptoCard

/-- THE SECOND FORM's CARD OF 'muscovadolaw01.WeighNumbered'. -/
def weighNumberedUptoCard : Claim7 := { stood := { row := weighNumberedUptoRow, standIns := [], harness := (true, "978fa20f6f16e7e64022fe03bf5878814e49ad04a4fd46f998d3b4e1790764ec"), looks := true }, kinds := [], alts := [], goes := true, laidByText := true, laidKinds := [.handle], laidTests := true, laidLooks := .later }
def WeighNumberedUptoCardSaid : Prop := Claim7.holds Tryd.pinned (.plain (OpenSpec.upto weighNumberedSpec)) weighNumberedUptoCard

/-- THE SECOND FORM's CARD OF 'muscovadolaw01.WeighMore'. -/
def weighMoreUptoCard : Claim7 := { stood := { row := weighMoreUptoRow, standIns := [], harness := (true, "978fa20f6f16e7e64022fe03bf5878814e49ad04a4fd46f998d3b4e1790764ec"), looks := true }, kinds := [], alts := [], goes := true, laidByText := true, laidKinds := [.handle], laidTests := true, laidLooks := .later }
def WeighMoreUptoCardSaid : Prop := Claim7.holds Tryd.pinned (.plain (OpenSpec.upto weighMoreSpec)) weighMoreUptoCard

/-- THE SECOND FORM's CARD OF 'muscovadolaw01.WeighScales'. -/
def weighScalesUptoCard : Claim7 := { stood := { row := weighScalesUptoRow, standIns := [], harness := (true, "978fa20f6f16e7e64022fe03bf5878814e49ad04a4fd46f998d3b4e1790764ec"), looks := true }, kinds := [], alts := [], goes := true, laidByText := true, laidKinds := [.handle], laidTests := true, laidLooks := .later }
def WeighScalesUptoCardSaid : Prop := Claim7.holds Tryd.pinned (.plain (OpenSpec.upto weighScalesSpec)) weighScalesUptoCard

/-- THE SECOND FORM's CARD OF 'muscovadolaw01.WeighBounds'. -/
def weighBoundsUptoCard : Claim7 := { stood := { row := weighBoundsUptoRow, standIns := [], harness := (true, "978fa20f6f16e7e64022fe03bf5878814e49ad04a4fd46f998d3b4e1790764ec"), looks := true }, kinds := [], alts := [], goes := true, laidByText := true, laidKinds := [.handle], laidTests := true, laidLooks := .later }
def WeighBoundsUptoCardSaid : Prop := Claim7.holds Tryd.pinned (.plain (OpenSpec.upto weighBoundsSpec)) weighBoundsUptoCard

/-- THE SECOND FORM's CARD OF 'muscovadolaw01.WeighAll'. -/
def weighAllUptoCard : Claim7 := { stood := { row := weighAllUptoRow, standIns := [], harness := (true, "978fa20f6f16e7e64022fe03bf5878814e49ad04a4fd46f998d3b4e1790764ec"), looks := true }, kinds := [], alts := [], goes := true, laidByText := true, laidKinds := [.handle], laidTests := true, laidLooks := .later }
def WeighAllUptoCardSaid : Prop := Claim7.holds Tryd.pinned (.plain (OpenSpec.upto weighAllSpec)) weighAllUptoCard

/-- THE SECOND FORM's CARD OF 'muscovadolaw01.WeighUseless'. -/
def weighUselessUptoCard : Claim7 := { stood := { row := weighUselessUptoRow, standIns := [], harness := (true, "978fa20f6f16e7e64022fe03bf5878814e49ad04a4fd46f998d3b4e1790764ec"), looks := true }, kinds := [], alts := [], goes := true, laidByText := true, laidKinds := [.handle], laidTests := true, laidLooks := .later }
def WeighUselessUptoCardSaid : Prop := Claim7.holds Tryd.pinned (.plain (OpenSpec.upto weighUselessSpec)) weighUselessUptoCard

/-- THE SECOND FORM's CARD OF 'muscovadolaw01.WeighKnown'. -/
def weighKnownUptoCard : Claim7 := { stood := { row := weighKnownUptoRow, standIns := [], harness := (true, "978fa20f6f16e7e64022fe03bf5878814e49ad04a4fd46f998d3b4e1790764ec"), looks := true }, kinds := [], alts := [], goes := true, laidByText := true, laidKinds := [.handle], laidTests := true, laidLooks := .later }
def WeighKnownUptoCardSaid : Prop := Claim7.holds Tryd.pinned (.plain (OpenSpec.upto weighKnownSpec)) weighKnownUptoCard
end Rows
end Go.Proofs.YtjjmefieegcddaaDoor
