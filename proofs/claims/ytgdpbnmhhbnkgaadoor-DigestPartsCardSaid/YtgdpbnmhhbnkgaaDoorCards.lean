/-
  DERIVED. GIVEN WITH THE SEED: THE CARDS: each row of YtgdpbnmhhbnkgaaDoorRows.lean that lists a variable, with what it lists TIED to the program's text (the seventh form; the later family's looks); each row that meets fmt, with fmt's text TOLD by the authors' own Lean function (tested against real Go, not proved from fmt's source: count such statements apart). THE CARD IS WHAT COUNTS. Prove the row's statement (the work); the ties are given (YtgdpbnmhhbnkgaaDoorTie.lean); close each card by the builder's one call (the guide's Derived/Test/ToyasCard.lean, 'card_holds'). Laid BY PROGRAM, IN A SANDBOX (cutbox-door.mjs). By AI agents, Wed Nov 11 2026. No macro, syntax, notation, axiom, sorry.
-/
import Derived.Test.YtgdpbnmhhbnkgaaDoorRows
import GoSem.ClaimSeven
namespace Go.Proofs.YtgdpbnmhhbnkgaaDoor
namespace Rows

/-- THE TIED CARD OF 'coxswaintop.CoxswainFields'. -/
def coxswainFieldsCard : Claim7 := { stood := { row := coxswainFieldsRow, standIns := [], harness := (true, "636b40ae53c025d2647cdc245ab07ac50114f4745d3e8013b6f8d33f3977c7c1"), looks := false }, kinds := [], alts := [], laidByText := true, laidKinds := [.data, .data], laidTests := true, laidLooks := .later }
def CoxswainFieldsCardSaid : Prop := Claim7.holds Tryd.pinned (.plain (OpenSpec.ofChange coxswainFieldsSpec)) coxswainFieldsCard

/-- THE TIED CARD OF 'coxswainlaw02.DigestIs'. -/
def digestIsCard : Claim7 := { stood := { row := digestIsRow, standIns := [], harness := (true, "636b40ae53c025d2647cdc245ab07ac50114f4745d3e8013b6f8d33f3977c7c1"), looks := false }, kinds := [], alts := [], laidByText := true, laidKinds := [.data, .data], laidTests := true, laidLooks := .later }
def DigestIsCardSaid : Prop := Claim7.holds Tryd.pinned (.plain (OpenSpec.ofChange digestIsSpec)) digestIsCard

/-- THE TIED CARD OF 'coxswainlaw02.DigestLong'. -/
def digestLongCard : Claim7 := { stood := { row := digestLongRow, standIns := [], harness := (true, "636b40ae53c025d2647cdc245ab07ac50114f4745d3e8013b6f8d33f3977c7c1"), looks := false }, kinds := [], alts := [], laidByText := true, laidKinds := [.data, .data], laidTests := true, laidLooks := .later }
def DigestLongCardSaid : Prop := Claim7.holds Tryd.pinned (.plain (OpenSpec.ofChange digestLongSpec)) digestLongCard

/-- THE TIED CARD OF 'coxswainlaw02.DigestParts'. -/
def digestPartsCard : Claim7 := { stood := { row := digestPartsRow, standIns := [], harness := (true, "636b40ae53c025d2647cdc245ab07ac50114f4745d3e8013b6f8d33f3977c7c1"), looks := false }, kinds := [], alts := [], laidByText := true, laidKinds := [.data, .data], laidTests := true, laidLooks := .later }
def DigestPartsCardSaid : Prop := Claim7.holds Tryd.pinned (.plain (OpenSpec.ofChange digestPartsSpec)) digestPartsCard

/-- THE TIED CARD OF 'coxswainlaw02.DigestHex'. -/
def digestHexCard : Claim7 := { stood := { row := digestHexRow, standIns := [], harness := (true, "636b40ae53c025d2647cdc245ab07ac50114f4745d3e8013b6f8d33f3977c7c1"), looks := false }, kinds := [], alts := [], laidByText := true, laidKinds := [.data, .data], laidTests := true, laidLooks := .later }
def DigestHexCardSaid : Prop := Claim7.holds Tryd.pinned (.plain (OpenSpec.ofChange digestHexSpec)) digestHexCard

/-- THE TIED CARD OF 'coxswainlaw05.HeaderReads'. -/
def headerReadsCard : Claim7 := { stood := { row := headerReadsRow, standIns := [], harness := (true, "636b40ae53c025d2647cdc245ab07ac50114f4745d3e8013b6f8d33f3977c7c1"), looks := false }, kinds := [], alts := [], laidByText := true, laidKinds := [.data, .data], laidTests := true, laidLooks := .later }
def HeaderReadsCardSaid : Prop := Claim7.holds Tryd.pinned (.plain (OpenSpec.ofChange headerReadsSpec)) headerReadsCard

/-- THE TIED CARD OF 'coxswainlaw05.HeaderUnlike'. -/
def headerUnlikeCard : Claim7 := { stood := { row := headerUnlikeRow, standIns := [], harness := (true, "636b40ae53c025d2647cdc245ab07ac50114f4745d3e8013b6f8d33f3977c7c1"), looks := false }, kinds := [], alts := [], laidByText := true, laidKinds := [.data, .data], laidTests := true, laidLooks := .later }
def HeaderUnlikeCardSaid : Prop := Claim7.holds Tryd.pinned (.plain (OpenSpec.ofChange headerUnlikeSpec)) headerUnlikeCard

/-- THE TIED CARD OF 'coxswainlaw07.CertBack'. -/
def certBackCard : Claim7 := { stood := { row := certBackRow, standIns := [], harness := (true, "636b40ae53c025d2647cdc245ab07ac50114f4745d3e8013b6f8d33f3977c7c1"), looks := false }, kinds := [], alts := [], laidByText := true, laidKinds := [.data, .data], laidTests := true, laidLooks := .later }
def CertBackCardSaid : Prop := Claim7.holds Tryd.pinned (.plain (OpenSpec.ofChange certBackSpec)) certBackCard

/-- THE TIED CARD OF 'coxswainlaw07.CertReads'. -/
def certReadsCard : Claim7 := { stood := { row := certReadsRow, standIns := [], harness := (true, "636b40ae53c025d2647cdc245ab07ac50114f4745d3e8013b6f8d33f3977c7c1"), looks := false }, kinds := [], alts := [], laidByText := true, laidKinds := [.data, .data], laidTests := true, laidLooks := .later }
def CertReadsCardSaid : Prop := Claim7.holds Tryd.pinned (.plain (OpenSpec.ofChange certReadsSpec)) certReadsCard

/-- THE TIED CARD OF 'coxswainlaw07.CertUnlike'. -/
def certUnlikeCard : Claim7 := { stood := { row := certUnlikeRow, standIns := [], harness := (true, "636b40ae53c025d2647cdc245ab07ac50114f4745d3e8013b6f8d33f3977c7c1"), looks := false }, kinds := [], alts := [], laidByText := true, laidKinds := [.data, .data], laidTests := true, laidLooks := .later }
def CertUnlikeCardSaid : Prop := Claim7.holds Tryd.pinned (.plain (OpenSpec.ofChange certUnlikeSpec)) certUnlikeCard

/-- THE TIED CARD OF 'coxswainlaw05.HeaderBack'. -/
def headerBackCard : Claim7 := { stood := { row := headerBackRow, standIns := [], harness := (true, "636b40ae53c025d2647cdc245ab07ac50114f4745d3e8013b6f8d33f3977c7c1"), looks := false }, kinds := [], alts := [], laidByText := true, laidKinds := [.data, .data], laidTests := true, laidLooks := .later }
def HeaderBackCardSaid : Prop := Claim7.holds Tryd.pinned (.plain (OpenSpec.ofChange headerBackSpec)) headerBackCard

/-- THE TIED CARD OF 'coxswainlaw05.HeaderKeys'. -/
def headerKeysCard : Claim7 := { stood := { row := headerKeysRow, standIns := [], harness := (true, "636b40ae53c025d2647cdc245ab07ac50114f4745d3e8013b6f8d33f3977c7c1"), looks := false }, kinds := [], alts := [], laidByText := true, laidKinds := [.data, .data], laidTests := true, laidLooks := .later }
def HeaderKeysCardSaid : Prop := Claim7.holds Tryd.pinned (.plain (OpenSpec.ofChange headerKeysSpec)) headerKeysCard

/-- THE TIED CARD OF 'coxswainlaw05.HeaderShares'. -/
def headerSharesCard : Claim7 := { stood := { row := headerSharesRow, standIns := [], harness := (true, "636b40ae53c025d2647cdc245ab07ac50114f4745d3e8013b6f8d33f3977c7c1"), looks := false }, kinds := [], alts := [], laidByText := true, laidKinds := [.data, .data], laidTests := true, laidLooks := .later }
def HeaderSharesCardSaid : Prop := Claim7.holds Tryd.pinned (.plain (OpenSpec.ofChange headerSharesSpec)) headerSharesCard

/-- THE SECOND FORM's CARD OF 'coxswaintop.CoxswainFields'. -/
def coxswainFieldsUptoCard : Claim7 := { stood := { row := coxswainFieldsUptoRow, standIns := [], harness := (true, "636b40ae53c025d2647cdc245ab07ac50114f4745d3e8013b6f8d33f3977c7c1"), looks := false }, kinds := [], alts := [], laidByText := true, laidKinds := [.data, .data], laidTests := true, laidLooks := .later }
def CoxswainFieldsUptoCardSaid : Prop := Claim7.holds Tryd.pinned (.plain (OpenSpec.upto coxswainFieldsSpec)) coxswainFieldsUptoCard

/-- THE SECOND FORM's CARD OF 'coxswainlaw02.DigestIs'. -/
def digestIsUptoCard : Claim7 := { stood := { row := digestIsUptoRow, standIns := [], harness := (true, "636b40ae53c025d2647cdc245ab07ac50114f4745d3e8013b6f8d33f3977c7c1"), looks := false }, kinds := [], alts := [], laidByText := true, laidKinds := [.data, .data], laidTests := true, laidLooks := .later }
def DigestIsUptoCardSaid : Prop := Claim7.holds Tryd.pinned (.plain (OpenSpec.upto digestIsSpec)) digestIsUptoCard

/-- THE SECOND FORM's CARD OF 'coxswainlaw02.DigestLong'. -/
def digestLongUptoCard : Claim7 := { stood := { row := digestLongUptoRow, standIns := [], harness := (true, "636b40ae53c025d2647cdc245ab07ac50114f4745d3e8013b6f8d33f3977c7c1"), looks := false }, kinds := [], alts := [], laidByText := true, laidKinds := [.data, .data], laidTests := true, laidLooks := .later }
def DigestLongUptoCardSaid : Prop := Claim7.holds Tryd.pinned (.plain (OpenSpec.upto digestLongSpec)) digestLongUptoCard

/-- THE SECOND FORM's CARD OF 'coxswainlaw02.DigestParts'. -/
def digestPartsUptoCard : Claim7 := { stood := { row := digestPartsUptoRow, standIns := [], harness := (true, "636b40ae53c025d2647cdc245ab07ac50114f4745d3e8013b6f8d33f3977c7c1"), looks := false }, kinds := [], alts := [], laidByText := true, laidKinds := [.data, .data], laidTests := true, laidLooks := .later }
def DigestPartsUptoCardSaid : Prop := Claim7.holds Tryd.pinned (.plain (OpenSpec.upto digestPartsSpec)) digestPartsUptoCard

/-- THE SECOND FORM's CARD OF 'coxswainlaw02.DigestHex'. -/
def digestHexUptoCard : Claim7 := { stood := { row := digestHexUptoRow, standIns := [], harness := (true, "636b40ae53c025d2647cdc245ab07ac50114f4745d3e8013b6f8d33f3977c7c1"), looks := false }, kinds := [], alts := [], laidByText := true, laidKinds := [.data, .data], laidTests := true, laidLooks := .later }
def DigestHexUptoCardSaid : Prop := Claim7.holds Tryd.pinned (.plain (OpenSpec.upto digestHexSpec)) digestHexUptoCard

/-- THE SECOND FORM's CARD OF 'coxswainlaw05.HeaderReads'. -/
def headerReadsUptoCard : Claim7 := { stood := { row := headerReadsUptoRow, standIns := [], harness := (true, "636b40ae53c025d2647cdc245ab07ac50114f4745d3e8013b6f8d33f3977c7c1"), looks := false }, kinds := [], alts := [], laidByText := true, laidKinds := [.data, .data], laidTests := true, laidLooks := .later }
def HeaderReadsUptoCardSaid : Prop := Claim7.holds Tryd.pinned (.plain (OpenSpec.upto headerReadsSpec)) headerReadsUptoCard

/-- THE SECOND FORM's CARD OF 'coxswainlaw05.HeaderUnlike'. -/
def headerUnlikeUptoCard : Claim7 := { stood := { row := headerUnlikeUptoRow, standIns := [], harness := (true, "636b40ae53c025d2647cdc245ab07ac50114f4745d3e8013b6f8d33f3977c7c1"), looks := false }, kinds := [], alts := [], laidByText := true, laidKinds := [.data, .data], laidTests := true, laidLooks := .later }
def HeaderUnlikeUptoCardSaid : Prop := Claim7.holds Tryd.pinned (.plain (OpenSpec.upto headerUnlikeSpec)) headerUnlikeUptoCard

/-- THE SECOND FORM's CARD OF 'coxswainlaw07.CertBack'. -/
def certBackUptoCard : Claim7 := { stood := { row := certBackUptoRow, standIns := [], harness := (true, "636b40ae53c025d2647cdc245ab07ac50114f4745d3e8013b6f8d33f3977c7c1"), looks := false }, kinds := [], alts := [], laidByText := true, laidKinds := [.data, .data], laidTests := true, laidLooks := .later }
def CertBackUptoCardSaid : Prop := Claim7.holds Tryd.pinned (.plain (OpenSpec.upto certBackSpec)) certBackUptoCard

/-- THE SECOND FORM's CARD OF 'coxswainlaw07.CertReads'. -/
def certReadsUptoCard : Claim7 := { stood := { row := certReadsUptoRow, standIns := [], harness := (true, "636b40ae53c025d2647cdc245ab07ac50114f4745d3e8013b6f8d33f3977c7c1"), looks := false }, kinds := [], alts := [], laidByText := true, laidKinds := [.data, .data], laidTests := true, laidLooks := .later }
def CertReadsUptoCardSaid : Prop := Claim7.holds Tryd.pinned (.plain (OpenSpec.upto certReadsSpec)) certReadsUptoCard

/-- THE SECOND FORM's CARD OF 'coxswainlaw07.CertUnlike'. -/
def certUnlikeUptoCard : Claim7 := { stood := { row := certUnlikeUptoRow, standIns := [], harness := (true, "636b40ae53c025d2647cdc245ab07ac50114f4745d3e8013b6f8d33f3977c7c1"), looks := false }, kinds := [], alts := [], laidByText := true, laidKinds := [.data, .data], laidTests := true, laidLooks := .later }
def CertUnlikeUptoCardSaid : Prop := Claim7.holds Tryd.pinned (.plain (OpenSpec.upto certUnlikeSpec)) certUnlikeUptoCard

/-- THE SECOND FORM's CARD OF 'coxswainlaw05.HeaderBack'. -/
def headerBackUptoCard : Claim7 := { stood := { row := headerBackUptoRow, standIns := [], harness := (true, "636b40ae53c025d2647cdc245ab07ac50114f4745d3e8013b6f8d33f3977c7c1"), looks := false }, kinds := [], alts := [], laidByText := true, laidKinds := [.data, .data], laidTests := true, laidLooks := .later }
def HeaderBackUptoCardSaid : Prop := Claim7.holds Tryd.pinned (.plain (OpenSpec.upto headerBackSpec)) headerBackUptoCard

/-- THE SECOND FORM's CARD OF 'coxswainlaw05.HeaderKeys'. -/
def headerKeysUptoCard : Claim7 := { stood := { row := headerKeysUptoRow, standIns := [], harness := (true, "636b40ae53c025d2647cdc245ab07ac50114f4745d3e8013b6f8d33f3977c7c1"), looks := false }, kinds := [], alts := [], laidByText := true, laidKinds := [.data, .data], laidTests := true, laidLooks := .later }
def HeaderKeysUptoCardSaid : Prop := Claim7.holds Tryd.pinned (.plain (OpenSpec.upto headerKeysSpec)) headerKeysUptoCard

/-- THE SECOND FORM's CARD OF 'coxswainlaw05.HeaderShares'. -/
def headerSharesUptoCard : Claim7 := { stood := { row := headerSharesUptoRow, standIns := [], harness := (true, "636b40ae53c025d2647cdc245ab07ac50114f4745d3e8013b6f8d33f3977c7c1"), looks := false }, kinds := [], alts := [], laidByText := true, laidKinds := [.data, .data], laidTests := true, laidLooks := .later }
def HeaderSharesUptoCardSaid : Prop := Claim7.holds Tryd.pinned (.plain (OpenSpec.upto headerSharesSpec)) headerSharesUptoCard
end Rows
end Go.Proofs.YtgdpbnmhhbnkgaaDoor
