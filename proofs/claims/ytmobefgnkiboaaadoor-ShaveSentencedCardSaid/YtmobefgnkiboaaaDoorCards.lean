/-
  DERIVED. GIVEN WITH THE SEED: THE CARDS: each row of YtmobefgnkiboaaaDoorRows.lean that lists a variable, with what it lists TIED to the program's text (the seventh form; the later family's looks); each row that meets fmt, with fmt's text TOLD by the authors' own Lean function (tested against real Go, not proved from fmt's source: count such statements apart). THE CARD IS WHAT COUNTS. Prove the row's statement (the work); the ties are given (YtmobefgnkiboaaaDoorTie.lean); close each card by the builder's one call (the guide's Derived/Test/ToyasCard.lean, 'card_holds'). Laid BY PROGRAM, IN A SANDBOX (cutbox-door.mjs). By AI agents, Wed Nov 11 2026. No macro, syntax, notation, axiom, sorry.
-/
import Derived.Test.YtmobefgnkiboaaaDoorRows
import GoSem.ClaimSeven
namespace Go.Proofs.YtmobefgnkiboaaaDoor
namespace Rows

/-- THE TIED CARD OF 'pomadelaw02.ShaveSentenced'. -/
def shaveSentencedCard : Claim7 := { stood := { row := shaveSentencedRow, standIns := [], harness := (true, "5a54abcb44fd0065483be97eade95fb3d8796e181ec6e5e743ee2191b5fd3a41"), looks := false }, kinds := [], alts := [], laidByText := true, laidKinds := [.data, .pinned], laidTests := true, laidLooks := .later }
def ShaveSentencedCardSaid : Prop := Claim7.holds Tryd.pinned (.plain (OpenSpec.ofChange shaveSentencedSpec)) shaveSentencedCard

/-- THE SECOND FORM's CARD OF 'pomadelaw02.ShaveSentenced'. -/
def shaveSentencedUptoCard : Claim7 := { stood := { row := shaveSentencedUptoRow, standIns := [], harness := (true, "5a54abcb44fd0065483be97eade95fb3d8796e181ec6e5e743ee2191b5fd3a41"), looks := false }, kinds := [], alts := [], laidByText := true, laidKinds := [.data, .pinned], laidTests := true, laidLooks := .later }
def ShaveSentencedUptoCardSaid : Prop := Claim7.holds Tryd.pinned (.plain (OpenSpec.upto shaveSentencedSpec)) shaveSentencedUptoCard
end Rows
end Go.Proofs.YtmobefgnkiboaaaDoor
