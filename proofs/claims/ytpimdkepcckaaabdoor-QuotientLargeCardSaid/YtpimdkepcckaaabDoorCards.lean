/-
  DERIVED. GIVEN WITH THE SEED: THE CARDS: each row of YtpimdkepcckaaabDoorRows.lean that lists a variable, with what it lists TIED to the program's text (the seventh form; the later family's looks); each row that meets fmt, with fmt's text TOLD by the authors' own Lean function (tested against real Go, not proved from fmt's source: count such statements apart). THE CARD IS WHAT COUNTS. Prove the row's statement (the work); the ties are given (YtpimdkepcckaaabDoorTie.lean); close each card by the builder's one call (the guide's Derived/Test/ToyasCard.lean, 'card_holds'). Laid BY PROGRAM, IN A SANDBOX (cutbox-door.mjs). By AI agents, Wed Nov 11 2026. No macro, syntax, notation, axiom, sorry.
-/
import Derived.Test.YtpimdkepcckaaabDoorRows
import GoSem.ClaimSeven
namespace Go.Proofs.YtpimdkepcckaaabDoor
namespace Rows

/-- THE TIED CARD OF 'reckonerlaw19.QuotientLarge'. -/
def quotientLargeCard : Claim7 := { stood := { row := quotientLargeRow, standIns := [], harness := (true, "3d50aa530046995c7f1dcb83b49cb0486a5c2302387b811cb1c4b2bf5802dacc"), looks := false }, kinds := [], alts := [], laidByText := true, laidKinds := [.data, .funcs], laidTests := true, laidLooks := .later }
def QuotientLargeCardSaid : Prop := Claim7.holds Tryd.pinned (.plain (OpenSpec.ofChange quotientLargeSpec)) quotientLargeCard

/-- THE SECOND FORM's CARD OF 'reckonerlaw19.QuotientLarge'. -/
def quotientLargeUptoCard : Claim7 := { stood := { row := quotientLargeUptoRow, standIns := [], harness := (true, "3d50aa530046995c7f1dcb83b49cb0486a5c2302387b811cb1c4b2bf5802dacc"), looks := false }, kinds := [], alts := [], laidByText := true, laidKinds := [.data, .funcs], laidTests := true, laidLooks := .later }
def QuotientLargeUptoCardSaid : Prop := Claim7.holds Tryd.pinned (.plain (OpenSpec.upto quotientLargeSpec)) quotientLargeUptoCard
end Rows
end Go.Proofs.YtpimdkepcckaaabDoor
