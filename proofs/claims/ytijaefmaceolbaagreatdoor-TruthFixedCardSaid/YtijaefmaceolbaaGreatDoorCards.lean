/-
  DERIVED. GIVEN WITH THE SEED: THE CARDS: each row of YtijaefmaceolbaaGreatDoorRows.lean that lists a variable, with what it lists TIED to the program's text (the seventh form; the later family's looks); each row that meets fmt, with fmt's text TOLD by the authors' own Lean function (tested against real Go, not proved from fmt's source: count such statements apart). THE CARD IS WHAT COUNTS. Prove the row's statement (the work); the ties are given (YtijaefmaceolbaaGreatDoorTie.lean); close each card by the builder's one call (the guide's Derived/Test/ToyasCard.lean, 'card_holds'). Laid BY PROGRAM, IN A SANDBOX (cutbox-door.mjs). By AI agents, Wed Nov 11 2026. No macro, syntax, notation, axiom, sorry.
-/
import Derived.Test.YtijaefmaceolbaaGreatDoorRows
import GoSem.ClaimSeven
namespace Go.Proofs.YtijaefmaceolbaaGreatDoor
namespace Rows

/-- THE TIED CARD OF 'pomadelaw01.TruthKripke'. -/
def truthKripkeCard : Claim7 := { stood := { row := truthKripkeRow, standIns := [], harness := (true, "a337438f5713a92d019596c2c3867e9124d6a8e9dd1969ac691cfcf420f32cbe"), looks := false }, kinds := [], alts := [], laidByText := true, laidKinds := [.data, .pinned], laidTests := true, laidLooks := .later }
def TruthKripkeCardSaid : Prop := Claim7.holds Tryz.pinned (.plain (OpenSpec.ofChange truthKripkeSpec)) truthKripkeCard

/-- THE TIED CARD OF 'pomadelaw01.TruthFixed'. -/
def truthFixedCard : Claim7 := { stood := { row := truthFixedRow, standIns := [], harness := (true, "a337438f5713a92d019596c2c3867e9124d6a8e9dd1969ac691cfcf420f32cbe"), looks := false }, kinds := [], alts := [], laidByText := true, laidKinds := [.data, .pinned], laidTests := true, laidLooks := .later }
def TruthFixedCardSaid : Prop := Claim7.holds Tryz.pinned (.plain (OpenSpec.ofChange truthFixedSpec)) truthFixedCard

/-- THE TIED CARD OF 'pomadelaw01.TruthIntrinsic'. -/
def truthIntrinsicCard : Claim7 := { stood := { row := truthIntrinsicRow, standIns := [], harness := (true, "a337438f5713a92d019596c2c3867e9124d6a8e9dd1969ac691cfcf420f32cbe"), looks := false }, kinds := [], alts := [], laidByText := true, laidKinds := [.data, .pinned], laidTests := true, laidLooks := .later }
def TruthIntrinsicCardSaid : Prop := Claim7.holds Tryz.pinned (.plain (OpenSpec.ofChange truthIntrinsicSpec)) truthIntrinsicCard

/-- THE SECOND FORM's CARD OF 'pomadelaw01.TruthKripke'. -/
def truthKripkeUptoCard : Claim7 := { stood := { row := truthKripkeUptoRow, standIns := [], harness := (true, "a337438f5713a92d019596c2c3867e9124d6a8e9dd1969ac691cfcf420f32cbe"), looks := false }, kinds := [], alts := [], laidByText := true, laidKinds := [.data, .pinned], laidTests := true, laidLooks := .later }
def TruthKripkeUptoCardSaid : Prop := Claim7.holds Tryz.pinned (.plain (OpenSpec.upto truthKripkeSpec)) truthKripkeUptoCard

/-- THE SECOND FORM's CARD OF 'pomadelaw01.TruthFixed'. -/
def truthFixedUptoCard : Claim7 := { stood := { row := truthFixedUptoRow, standIns := [], harness := (true, "a337438f5713a92d019596c2c3867e9124d6a8e9dd1969ac691cfcf420f32cbe"), looks := false }, kinds := [], alts := [], laidByText := true, laidKinds := [.data, .pinned], laidTests := true, laidLooks := .later }
def TruthFixedUptoCardSaid : Prop := Claim7.holds Tryz.pinned (.plain (OpenSpec.upto truthFixedSpec)) truthFixedUptoCard

/-- THE SECOND FORM's CARD OF 'pomadelaw01.TruthIntrinsic'. -/
def truthIntrinsicUptoCard : Claim7 := { stood := { row := truthIntrinsicUptoRow, standIns := [], harness := (true, "a337438f5713a92d019596c2c3867e9124d6a8e9dd1969ac691cfcf420f32cbe"), looks := false }, kinds := [], alts := [], laidByText := true, laidKinds := [.data, .pinned], laidTests := true, laidLooks := .later }
def TruthIntrinsicUptoCardSaid : Prop := Claim7.holds Tryz.pinned (.plain (OpenSpec.upto truthIntrinsicSpec)) truthIntrinsicUptoCard
end Rows
end Go.Proofs.YtijaefmaceolbaaGreatDoor
