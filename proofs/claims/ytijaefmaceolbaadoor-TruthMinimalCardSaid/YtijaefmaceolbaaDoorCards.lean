/-
  DERIVED. GIVEN WITH THE SEED: THE CARDS: each row of YtijaefmaceolbaaDoorRows.lean that lists a variable, with what it lists TIED to the program's text (the seventh form; the later family's looks); each row that meets fmt, with fmt's text TOLD by the authors' own Lean function (tested against real Go, not proved from fmt's source: count such statements apart). THE CARD IS WHAT COUNTS. Prove the row's statement (the work); the ties are given (YtijaefmaceolbaaDoorTie.lean); close each card by the builder's one call (the guide's Derived/Test/ToyasCard.lean, 'card_holds'). Laid BY PROGRAM, IN A SANDBOX (cutbox-door.mjs). By AI agents, Wed Nov 11 2026. No macro, syntax, notation, axiom, sorry.
-/
import Derived.Test.YtijaefmaceolbaaDoorRows
import GoSem.ClaimSeven
namespace Go.Proofs.YtijaefmaceolbaaDoor
namespace Rows

/-- THE TIED CARD OF 'pomadelaw01.TruthCores'. -/
def truthCoresCard : Claim7 := { stood := { row := truthCoresRow, standIns := [], harness := (true, "c390e7afb11ae321f4683b6ed3aedfc44627b16815ca1635c631aa82dc0a7eb5"), looks := false }, kinds := [], alts := [], laidByText := true, laidKinds := [.data, .pinned], laidTests := true, laidLooks := .later }
def TruthCoresCardSaid : Prop := Claim7.holds Tryd.pinned (.plain (OpenSpec.ofChange truthCoresSpec)) truthCoresCard

/-- THE TIED CARD OF 'pomadelaw01.TruthCycles'. -/
def truthCyclesCard : Claim7 := { stood := { row := truthCyclesRow, standIns := [], harness := (true, "c390e7afb11ae321f4683b6ed3aedfc44627b16815ca1635c631aa82dc0a7eb5"), looks := false }, kinds := [], alts := [], laidByText := true, laidKinds := [.data, .pinned], laidTests := true, laidLooks := .later }
def TruthCyclesCardSaid : Prop := Claim7.holds Tryd.pinned (.plain (OpenSpec.ofChange truthCyclesSpec)) truthCyclesCard

/-- THE TIED CARD OF 'pomadelaw01.TruthValues'. -/
def truthValuesCard : Claim7 := { stood := { row := truthValuesRow, standIns := [], harness := (true, "c390e7afb11ae321f4683b6ed3aedfc44627b16815ca1635c631aa82dc0a7eb5"), looks := false }, kinds := [], alts := [], laidByText := true, laidKinds := [.data, .pinned], laidTests := true, laidLooks := .later }
def TruthValuesCardSaid : Prop := Claim7.holds Tryd.pinned (.plain (OpenSpec.ofChange truthValuesSpec)) truthValuesCard

/-- THE TIED CARD OF 'pomadelaw01.TruthCounts'. -/
def truthCountsCard : Claim7 := { stood := { row := truthCountsRow, standIns := [], harness := (true, "c390e7afb11ae321f4683b6ed3aedfc44627b16815ca1635c631aa82dc0a7eb5"), looks := false }, kinds := [], alts := [], laidByText := true, laidKinds := [.data, .pinned], laidTests := true, laidLooks := .later }
def TruthCountsCardSaid : Prop := Claim7.holds Tryd.pinned (.plain (OpenSpec.ofChange truthCountsSpec)) truthCountsCard

/-- THE TIED CARD OF 'pomadelaw01.TruthRings'. -/
def truthRingsCard : Claim7 := { stood := { row := truthRingsRow, standIns := [], harness := (true, "c390e7afb11ae321f4683b6ed3aedfc44627b16815ca1635c631aa82dc0a7eb5"), looks := false }, kinds := [], alts := [], laidByText := true, laidKinds := [.data, .pinned], laidTests := true, laidLooks := .later }
def TruthRingsCardSaid : Prop := Claim7.holds Tryd.pinned (.plain (OpenSpec.ofChange truthRingsSpec)) truthRingsCard

/-- THE TIED CARD OF 'pomadelaw01.TruthMinimal'. -/
def truthMinimalCard : Claim7 := { stood := { row := truthMinimalRow, standIns := [], harness := (true, "c390e7afb11ae321f4683b6ed3aedfc44627b16815ca1635c631aa82dc0a7eb5"), looks := false }, kinds := [], alts := [], laidByText := true, laidKinds := [.data, .pinned], laidTests := true, laidLooks := .later }
def TruthMinimalCardSaid : Prop := Claim7.holds Tryd.pinned (.plain (OpenSpec.ofChange truthMinimalSpec)) truthMinimalCard

/-- THE TIED CARD OF 'pomadelaw01.TruthRevises'. -/
def truthRevisesCard : Claim7 := { stood := { row := truthRevisesRow, standIns := [], harness := (true, "c390e7afb11ae321f4683b6ed3aedfc44627b16815ca1635c631aa82dc0a7eb5"), looks := false }, kinds := [], alts := [], laidByText := true, laidKinds := [.data, .pinned], laidTests := true, laidLooks := .later }
def TruthRevisesCardSaid : Prop := Claim7.holds Tryd.pinned (.plain (OpenSpec.ofChange truthRevisesSpec)) truthRevisesCard

/-- THE TIED CARD OF 'pomadelaw01.TruthGrounded'. -/
def truthGroundedCard : Claim7 := { stood := { row := truthGroundedRow, standIns := [], harness := (true, "c390e7afb11ae321f4683b6ed3aedfc44627b16815ca1635c631aa82dc0a7eb5"), looks := false }, kinds := [], alts := [], laidByText := true, laidKinds := [.data, .pinned], laidTests := true, laidLooks := .later }
def TruthGroundedCardSaid : Prop := Claim7.holds Tryd.pinned (.plain (OpenSpec.ofChange truthGroundedSpec)) truthGroundedCard

/-- THE TIED CARD OF 'pomadelaw01.TruthSteady'. -/
def truthSteadyCard : Claim7 := { stood := { row := truthSteadyRow, standIns := [], harness := (true, "c390e7afb11ae321f4683b6ed3aedfc44627b16815ca1635c631aa82dc0a7eb5"), looks := false }, kinds := [], alts := [], laidByText := true, laidKinds := [.data, .pinned], laidTests := true, laidLooks := .later }
def TruthSteadyCardSaid : Prop := Claim7.holds Tryd.pinned (.plain (OpenSpec.ofChange truthSteadySpec)) truthSteadyCard

/-- THE TIED CARD OF 'pomadelaw01.TruthMany'. -/
def truthManyCard : Claim7 := { stood := { row := truthManyRow, standIns := [], harness := (true, "c390e7afb11ae321f4683b6ed3aedfc44627b16815ca1635c631aa82dc0a7eb5"), looks := false }, kinds := [], alts := [], laidByText := true, laidKinds := [.data, .pinned], laidTests := true, laidLooks := .later }
def TruthManyCardSaid : Prop := Claim7.holds Tryd.pinned (.plain (OpenSpec.ofChange truthManySpec)) truthManyCard

/-- THE SECOND FORM's CARD OF 'pomadelaw01.TruthCores'. -/
def truthCoresUptoCard : Claim7 := { stood := { row := truthCoresUptoRow, standIns := [], harness := (true, "c390e7afb11ae321f4683b6ed3aedfc44627b16815ca1635c631aa82dc0a7eb5"), looks := false }, kinds := [], alts := [], laidByText := true, laidKinds := [.data, .pinned], laidTests := true, laidLooks := .later }
def TruthCoresUptoCardSaid : Prop := Claim7.holds Tryd.pinned (.plain (OpenSpec.upto truthCoresSpec)) truthCoresUptoCard

/-- THE SECOND FORM's CARD OF 'pomadelaw01.TruthCycles'. -/
def truthCyclesUptoCard : Claim7 := { stood := { row := truthCyclesUptoRow, standIns := [], harness := (true, "c390e7afb11ae321f4683b6ed3aedfc44627b16815ca1635c631aa82dc0a7eb5"), looks := false }, kinds := [], alts := [], laidByText := true, laidKinds := [.data, .pinned], laidTests := true, laidLooks := .later }
def TruthCyclesUptoCardSaid : Prop := Claim7.holds Tryd.pinned (.plain (OpenSpec.upto truthCyclesSpec)) truthCyclesUptoCard

/-- THE SECOND FORM's CARD OF 'pomadelaw01.TruthValues'. -/
def truthValuesUptoCard : Claim7 := { stood := { row := truthValuesUptoRow, standIns := [], harness := (true, "c390e7afb11ae321f4683b6ed3aedfc44627b16815ca1635c631aa82dc0a7eb5"), looks := false }, kinds := [], alts := [], laidByText := true, laidKinds := [.data, .pinned], laidTests := true, laidLooks := .later }
def TruthValuesUptoCardSaid : Prop := Claim7.holds Tryd.pinned (.plain (OpenSpec.upto truthValuesSpec)) truthValuesUptoCard

/-- THE SECOND FORM's CARD OF 'pomadelaw01.TruthCounts'. -/
def truthCountsUptoCard : Claim7 := { stood := { row := truthCountsUptoRow, standIns := [], harness := (true, "c390e7afb11ae321f4683b6ed3aedfc44627b16815ca1635c631aa82dc0a7eb5"), looks := false }, kinds := [], alts := [], laidByText := true, laidKinds := [.data, .pinned], laidTests := true, laidLooks := .later }
def TruthCountsUptoCardSaid : Prop := Claim7.holds Tryd.pinned (.plain (OpenSpec.upto truthCountsSpec)) truthCountsUptoCard

/-- THE SECOND FORM's CARD OF 'pomadelaw01.TruthRings'. -/
def truthRingsUptoCard : Claim7 := { stood := { row := truthRingsUptoRow, standIns := [], harness := (true, "c390e7afb11ae321f4683b6ed3aedfc44627b16815ca1635c631aa82dc0a7eb5"), looks := false }, kinds := [], alts := [], laidByText := true, laidKinds := [.data, .pinned], laidTests := true, laidLooks := .later }
def TruthRingsUptoCardSaid : Prop := Claim7.holds Tryd.pinned (.plain (OpenSpec.upto truthRingsSpec)) truthRingsUptoCard

/-- THE SECOND FORM's CARD OF 'pomadelaw01.TruthMinimal'. -/
def truthMinimalUptoCard : Claim7 := { stood := { row := truthMinimalUptoRow, standIns := [], harness := (true, "c390e7afb11ae321f4683b6ed3aedfc44627b16815ca1635c631aa82dc0a7eb5"), looks := false }, kinds := [], alts := [], laidByText := true, laidKinds := [.data, .pinned], laidTests := true, laidLooks := .later }
def TruthMinimalUptoCardSaid : Prop := Claim7.holds Tryd.pinned (.plain (OpenSpec.upto truthMinimalSpec)) truthMinimalUptoCard

/-- THE SECOND FORM's CARD OF 'pomadelaw01.TruthRevises'. -/
def truthRevisesUptoCard : Claim7 := { stood := { row := truthRevisesUptoRow, standIns := [], harness := (true, "c390e7afb11ae321f4683b6ed3aedfc44627b16815ca1635c631aa82dc0a7eb5"), looks := false }, kinds := [], alts := [], laidByText := true, laidKinds := [.data, .pinned], laidTests := true, laidLooks := .later }
def TruthRevisesUptoCardSaid : Prop := Claim7.holds Tryd.pinned (.plain (OpenSpec.upto truthRevisesSpec)) truthRevisesUptoCard

/-- THE SECOND FORM's CARD OF 'pomadelaw01.TruthGrounded'. -/
def truthGroundedUptoCard : Claim7 := { stood := { row := truthGroundedUptoRow, standIns := [], harness := (true, "c390e7afb11ae321f4683b6ed3aedfc44627b16815ca1635c631aa82dc0a7eb5"), looks := false }, kinds := [], alts := [], laidByText := true, laidKinds := [.data, .pinned], laidTests := true, laidLooks := .later }
def TruthGroundedUptoCardSaid : Prop := Claim7.holds Tryd.pinned (.plain (OpenSpec.upto truthGroundedSpec)) truthGroundedUptoCard

/-- THE SECOND FORM's CARD OF 'pomadelaw01.TruthSteady'. -/
def truthSteadyUptoCard : Claim7 := { stood := { row := truthSteadyUptoRow, standIns := [], harness := (true, "c390e7afb11ae321f4683b6ed3aedfc44627b16815ca1635c631aa82dc0a7eb5"), looks := false }, kinds := [], alts := [], laidByText := true, laidKinds := [.data, .pinned], laidTests := true, laidLooks := .later }
def TruthSteadyUptoCardSaid : Prop := Claim7.holds Tryd.pinned (.plain (OpenSpec.upto truthSteadySpec)) truthSteadyUptoCard

/-- THE SECOND FORM's CARD OF 'pomadelaw01.TruthMany'. -/
def truthManyUptoCard : Claim7 := { stood := { row := truthManyUptoRow, standIns := [], harness := (true, "c390e7afb11ae321f4683b6ed3aedfc44627b16815ca1635c631aa82dc0a7eb5"), looks := false }, kinds := [], alts := [], laidByText := true, laidKinds := [.data, .pinned], laidTests := true, laidLooks := .later }
def TruthManyUptoCardSaid : Prop := Claim7.holds Tryd.pinned (.plain (OpenSpec.upto truthManySpec)) truthManyUptoCard
end Rows
end Go.Proofs.YtijaefmaceolbaaDoor
