/-
  DERIVED. GIVEN WITH THE SEED: THE CARDS: each row of YtdpkodhfelnedaaDoorRows.lean that lists a variable, with what it lists TIED to the program's text (the seventh form; the later family's looks); each row that meets fmt, with fmt's text TOLD by the authors' own Lean function (tested against real Go, not proved from fmt's source: count such statements apart). THE CARD IS WHAT COUNTS. Prove the row's statement (the work); the ties are given (YtdpkodhfelnedaaDoorTie.lean); close each card by the builder's one call (the guide's Derived/Test/ToyasCard.lean, 'card_holds'). Laid BY PROGRAM, IN A SANDBOX (cutbox-door.mjs). By AI agents, Wed Nov 11 2026. No macro, syntax, notation, axiom, sorry.
-/
import Derived.Test.YtdpkodhfelnedaaDoorRows
import GoSem.ClaimSeven
namespace Go.Proofs.YtdpkodhfelnedaaDoor
namespace Rows

/-- THE TIED CARD OF 'coxswainlaw05.HeaderUnlike'. -/
def headerUnlikeCard : Claim7 := { stood := { row := headerUnlikeRow, standIns := [], harness := (true, "3fcc3474fc67bbc076b3629be26ed37c6c248cdee3084892bf48f80d29e4872e"), looks := false }, kinds := [], alts := [], laidByText := true, laidKinds := [.data, .data], laidTests := true, laidLooks := .later }
def HeaderUnlikeCardSaid : Prop := Claim7.holds Tryd.pinned (.plain (OpenSpec.ofChange headerUnlikeSpec)) headerUnlikeCard

/-- THE SECOND FORM's CARD OF 'coxswainlaw05.HeaderUnlike'. -/
def headerUnlikeUptoCard : Claim7 := { stood := { row := headerUnlikeUptoRow, standIns := [], harness := (true, "3fcc3474fc67bbc076b3629be26ed37c6c248cdee3084892bf48f80d29e4872e"), looks := false }, kinds := [], alts := [], laidByText := true, laidKinds := [.data, .data], laidTests := true, laidLooks := .later }
def HeaderUnlikeUptoCardSaid : Prop := Claim7.holds Tryd.pinned (.plain (OpenSpec.upto headerUnlikeSpec)) headerUnlikeUptoCard
end Rows
end Go.Proofs.YtdpkodhfelnedaaDoor
