/-
  DERIVED. GIVEN WITH THE SEED: THE CARDS: each row of YtakbacfhcllioaaGreatDoorRows.lean that lists a variable, with what it lists TIED to the program's text (the seventh form; the later family's looks); each row that meets fmt, with fmt's text TOLD by the authors' own Lean function (tested against real Go, not proved from fmt's source: count such statements apart). THE CARD IS WHAT COUNTS. Prove the row's statement (the work); the ties are given (YtakbacfhcllioaaGreatDoorTie.lean); close each card by the builder's one call (the guide's Derived/Test/ToyasCard.lean, 'card_holds'). Laid BY PROGRAM, IN A SANDBOX (cutbox-door.mjs). By AI agents, Wed Nov 11 2026. No macro, syntax, notation, axiom, sorry.
-/
import Derived.Test.YtakbacfhcllioaaGreatDoorRows
import GoSem.ClaimSeven
namespace Go.Proofs.YtakbacfhcllioaaGreatDoor
namespace Rows

/-- THE TIED CARD OF 'glossarylaw20.WordsNone'. -/
def wordsNoneCard : Claim7 := { stood := { row := wordsNoneRow, standIns := [], harness := (true, "00c245a6652d21c6e8d0f00c1a2084aa1e2d07e0ac655fb833701fcf7b00a7a5"), looks := true }, kinds := [], alts := [], laidByText := true, laidKinds := [.data, .data, .data, .data, .data, .sentinel, .sentinel, .pinned], laidTests := true, laidLooks := .later }
def WordsNoneCardSaid : Prop := Claim7.holds Tryz.pinned (.plain (OpenSpec.ofChange wordsNoneSpec)) wordsNoneCard

/-- THE TIED CARD OF 'glossarylaw20.WordsPlaces'. -/
def wordsPlacesCard : Claim7 := { stood := { row := wordsPlacesRow, standIns := [], harness := (true, "00c245a6652d21c6e8d0f00c1a2084aa1e2d07e0ac655fb833701fcf7b00a7a5"), looks := true }, kinds := [], alts := [], laidByText := true, laidKinds := [.data, .data, .data, .data, .data, .sentinel, .sentinel, .pinned], laidTests := true, laidLooks := .later }
def WordsPlacesCardSaid : Prop := Claim7.holds Tryz.pinned (.plain (OpenSpec.ofChange wordsPlacesSpec)) wordsPlacesCard

/-- THE TIED CARD OF 'glossarylaw12.WeightsOf'. -/
def weightsOfCard : Claim7 := { stood := { row := weightsOfRow, standIns := [], harness := (true, "00c245a6652d21c6e8d0f00c1a2084aa1e2d07e0ac655fb833701fcf7b00a7a5"), looks := true }, kinds := [], alts := [], laidByText := true, laidKinds := [.data, .data, .data, .data, .data, .sentinel, .sentinel, .pinned], laidTests := true, laidLooks := .later }
def WeightsOfCardSaid : Prop := Claim7.holds Tryz.pinned (.plain (OpenSpec.ofChange weightsOfSpec)) weightsOfCard

/-- THE TIED CARD OF 'glossarylaw12.WeightsNumbers'. -/
def weightsNumbersCard : Claim7 := { stood := { row := weightsNumbersRow, standIns := [], harness := (true, "00c245a6652d21c6e8d0f00c1a2084aa1e2d07e0ac655fb833701fcf7b00a7a5"), looks := true }, kinds := [], alts := [], laidByText := true, laidKinds := [.data, .data, .data, .data, .sentinel, .sentinel, .pinned], laidTests := true, laidLooks := .later }
def WeightsNumbersCardSaid : Prop := Claim7.holds Tryz.pinned (.plain (OpenSpec.ofChange weightsNumbersSpec)) weightsNumbersCard

/-- THE TIED CARD OF 'glossarylaw12.WeightsBytes'. -/
def weightsBytesCard : Claim7 := { stood := { row := weightsBytesRow, standIns := [], harness := (true, "00c245a6652d21c6e8d0f00c1a2084aa1e2d07e0ac655fb833701fcf7b00a7a5"), looks := true }, kinds := [], alts := [], laidByText := true, laidKinds := [.data, .data, .data, .data, .sentinel, .sentinel, .pinned], laidTests := true, laidLooks := .later }
def WeightsBytesCardSaid : Prop := Claim7.holds Tryz.pinned (.plain (OpenSpec.ofChange weightsBytesSpec)) weightsBytesCard

/-- THE TIED CARD OF 'glossarylaw12.WeightsForms'. -/
def weightsFormsCard : Claim7 := { stood := { row := weightsFormsRow, standIns := [], harness := (true, "00c245a6652d21c6e8d0f00c1a2084aa1e2d07e0ac655fb833701fcf7b00a7a5"), looks := true }, kinds := [], alts := [], laidByText := true, laidKinds := [.data, .data, .data, .data, .sentinel, .sentinel, .pinned], laidTests := true, laidLooks := .later }
def WeightsFormsCardSaid : Prop := Claim7.holds Tryz.pinned (.plain (OpenSpec.ofChange weightsFormsSpec)) weightsFormsCard

/-- THE TIED CARD OF 'glossarylaw12.WeightsOrder'. -/
def weightsOrderCard : Claim7 := { stood := { row := weightsOrderRow, standIns := [], harness := (true, "00c245a6652d21c6e8d0f00c1a2084aa1e2d07e0ac655fb833701fcf7b00a7a5"), looks := true }, kinds := [], alts := [], laidByText := true, laidKinds := [.data, .data, .data, .data, .sentinel, .sentinel, .pinned], laidTests := true, laidLooks := .later }
def WeightsOrderCardSaid : Prop := Claim7.holds Tryz.pinned (.plain (OpenSpec.ofChange weightsOrderSpec)) weightsOrderCard

/-- THE TIED CARD OF 'glossarylaw12.WeightsPlain'. -/
def weightsPlainCard : Claim7 := { stood := { row := weightsPlainRow, standIns := [], harness := (true, "00c245a6652d21c6e8d0f00c1a2084aa1e2d07e0ac655fb833701fcf7b00a7a5"), looks := true }, kinds := [], alts := [], laidByText := true, laidKinds := [.data, .data, .data, .data, .sentinel, .sentinel, .pinned], laidTests := true, laidLooks := .later }
def WeightsPlainCardSaid : Prop := Claim7.holds Tryz.pinned (.plain (OpenSpec.ofChange weightsPlainSpec)) weightsPlainCard

/-- THE TIED CARD OF 'glossarylaw12.WeightsKnown'. -/
def weightsKnownCard : Claim7 := { stood := { row := weightsKnownRow, standIns := [], harness := (true, "00c245a6652d21c6e8d0f00c1a2084aa1e2d07e0ac655fb833701fcf7b00a7a5"), looks := true }, kinds := [], alts := [], laidByText := true, laidKinds := [.data, .data, .data, .data, .data, .sentinel, .sentinel, .pinned], laidTests := true, laidLooks := .later }
def WeightsKnownCardSaid : Prop := Claim7.holds Tryz.pinned (.plain (OpenSpec.ofChange weightsKnownSpec)) weightsKnownCard

/-- THE SECOND FORM's CARD OF 'glossarylaw20.WordsNone'. -/
def wordsNoneUptoCard : Claim7 := { stood := { row := wordsNoneUptoRow, standIns := [], harness := (true, "00c245a6652d21c6e8d0f00c1a2084aa1e2d07e0ac655fb833701fcf7b00a7a5"), looks := true }, kinds := [], alts := [], laidByText := true, laidKinds := [.data, .data, .data, .data, .data, .sentinel, .sentinel, .pinned], laidTests := true, laidLooks := .later }
def WordsNoneUptoCardSaid : Prop := Claim7.holds Tryz.pinned (.plain (OpenSpec.upto wordsNoneSpec)) wordsNoneUptoCard

/-- THE SECOND FORM's CARD OF 'glossarylaw20.WordsPlaces'. -/
def wordsPlacesUptoCard : Claim7 := { stood := { row := wordsPlacesUptoRow, standIns := [], harness := (true, "00c245a6652d21c6e8d0f00c1a2084aa1e2d07e0ac655fb833701fcf7b00a7a5"), looks := true }, kinds := [], alts := [], laidByText := true, laidKinds := [.data, .data, .data, .data, .data, .sentinel, .sentinel, .pinned], laidTests := true, laidLooks := .later }
def WordsPlacesUptoCardSaid : Prop := Claim7.holds Tryz.pinned (.plain (OpenSpec.upto wordsPlacesSpec)) wordsPlacesUptoCard

/-- THE SECOND FORM's CARD OF 'glossarylaw12.WeightsOf'. -/
def weightsOfUptoCard : Claim7 := { stood := { row := weightsOfUptoRow, standIns := [], harness := (true, "00c245a6652d21c6e8d0f00c1a2084aa1e2d07e0ac655fb833701fcf7b00a7a5"), looks := true }, kinds := [], alts := [], laidByText := true, laidKinds := [.data, .data, .data, .data, .data, .sentinel, .sentinel, .pinned], laidTests := true, laidLooks := .later }
def WeightsOfUptoCardSaid : Prop := Claim7.holds Tryz.pinned (.plain (OpenSpec.upto weightsOfSpec)) weightsOfUptoCard

/-- THE SECOND FORM's CARD OF 'glossarylaw12.WeightsNumbers'. -/
def weightsNumbersUptoCard : Claim7 := { stood := { row := weightsNumbersUptoRow, standIns := [], harness := (true, "00c245a6652d21c6e8d0f00c1a2084aa1e2d07e0ac655fb833701fcf7b00a7a5"), looks := true }, kinds := [], alts := [], laidByText := true, laidKinds := [.data, .data, .data, .data, .sentinel, .sentinel, .pinned], laidTests := true, laidLooks := .later }
def WeightsNumbersUptoCardSaid : Prop := Claim7.holds Tryz.pinned (.plain (OpenSpec.upto weightsNumbersSpec)) weightsNumbersUptoCard

/-- THE SECOND FORM's CARD OF 'glossarylaw12.WeightsBytes'. -/
def weightsBytesUptoCard : Claim7 := { stood := { row := weightsBytesUptoRow, standIns := [], harness := (true, "00c245a6652d21c6e8d0f00c1a2084aa1e2d07e0ac655fb833701fcf7b00a7a5"), looks := true }, kinds := [], alts := [], laidByText := true, laidKinds := [.data, .data, .data, .data, .sentinel, .sentinel, .pinned], laidTests := true, laidLooks := .later }
def WeightsBytesUptoCardSaid : Prop := Claim7.holds Tryz.pinned (.plain (OpenSpec.upto weightsBytesSpec)) weightsBytesUptoCard

/-- THE SECOND FORM's CARD OF 'glossarylaw12.WeightsForms'. -/
def weightsFormsUptoCard : Claim7 := { stood := { row := weightsFormsUptoRow, standIns := [], harness := (true, "00c245a6652d21c6e8d0f00c1a2084aa1e2d07e0ac655fb833701fcf7b00a7a5"), looks := true }, kinds := [], alts := [], laidByText := true, laidKinds := [.data, .data, .data, .data, .sentinel, .sentinel, .pinned], laidTests := true, laidLooks := .later }
def WeightsFormsUptoCardSaid : Prop := Claim7.holds Tryz.pinned (.plain (OpenSpec.upto weightsFormsSpec)) weightsFormsUptoCard

/-- THE SECOND FORM's CARD OF 'glossarylaw12.WeightsOrder'. -/
def weightsOrderUptoCard : Claim7 := { stood := { row := weightsOrderUptoRow, standIns := [], harness := (true, "00c245a6652d21c6e8d0f00c1a2084aa1e2d07e0ac655fb833701fcf7b00a7a5"), looks := true }, kinds := [], alts := [], laidByText := true, laidKinds := [.data, .data, .data, .data, .sentinel, .sentinel, .pinned], laidTests := true, laidLooks := .later }
def WeightsOrderUptoCardSaid : Prop := Claim7.holds Tryz.pinned (.plain (OpenSpec.upto weightsOrderSpec)) weightsOrderUptoCard

/-- THE SECOND FORM's CARD OF 'glossarylaw12.WeightsPlain'. -/
def weightsPlainUptoCard : Claim7 := { stood := { row := weightsPlainUptoRow, standIns := [], harness := (true, "00c245a6652d21c6e8d0f00c1a2084aa1e2d07e0ac655fb833701fcf7b00a7a5"), looks := true }, kinds := [], alts := [], laidByText := true, laidKinds := [.data, .data, .data, .data, .sentinel, .sentinel, .pinned], laidTests := true, laidLooks := .later }
def WeightsPlainUptoCardSaid : Prop := Claim7.holds Tryz.pinned (.plain (OpenSpec.upto weightsPlainSpec)) weightsPlainUptoCard

/-- THE SECOND FORM's CARD OF 'glossarylaw12.WeightsKnown'. -/
def weightsKnownUptoCard : Claim7 := { stood := { row := weightsKnownUptoRow, standIns := [], harness := (true, "00c245a6652d21c6e8d0f00c1a2084aa1e2d07e0ac655fb833701fcf7b00a7a5"), looks := true }, kinds := [], alts := [], laidByText := true, laidKinds := [.data, .data, .data, .data, .data, .sentinel, .sentinel, .pinned], laidTests := true, laidLooks := .later }
def WeightsKnownUptoCardSaid : Prop := Claim7.holds Tryz.pinned (.plain (OpenSpec.upto weightsKnownSpec)) weightsKnownUptoCard
end Rows
end Go.Proofs.YtakbacfhcllioaaGreatDoor
