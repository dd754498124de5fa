/-
  NARROWER THAN 'FOR EVERY INPUT', by the rows' own cells (each row's printed sentence says how): TruthCores: laid · TruthCycles: laid · TruthValues: laid · TruthCounts: laid · TruthRings: laid · TruthMinimal: laid · TruthRevises: laid · TruthGrounded: laid · TruthSteady: laid · TruthMany: laid.
  DERIVED. THE GIVEN ROWS OF THIS SEAT. 10 by the template 'for every input the law returns true; each argument reads behind the call as it read before'; 0 by the template 'total and deterministic' (their statements: YtijaefmaceolbaaDoorTotals.lean).
  GIVEN WITH THE SEED: the statements are not yours to turn. If you find one false, say at which input.
  Laid BY PROGRAM, IN A SANDBOX (cutbox-rows.mjs): the forced cells as the released guide's own fill.sh prints them over the translation 3409319c0d94c1ea… (all of the seat's roots in one cut). By AI agents, Wed Nov 11 2026. No macro, syntax, notation, axiom, sorry.
-/
import Derived.Test.YtijaefmaceolbaaDoorChecked
import GoSem.PinnedTables
import GoSem.Claim
import GoSem.ClaimJoined
import GoSem.ClaimMapViews
import Derived.JoinedTies
import Derived.KernelRfl
namespace Go.Proofs.YtijaefmaceolbaaDoor
/- THE CELL 'sum', in the pinned program and in every row, IS THE sha256 OF THE DUMP (.gsa) THAT YtijaefmaceolbaaDoorProg.lean LOADS. Nothing in Lean hashes anything: it is a label: what it is worth is what the hold of that sum in a sandbox is worth. -/
noncomputable def Tryd.pinned : Pinned := { name := "ytijaefmaceolbaadoor", sum := "3409319c0d94c1ea1630d62fa4d159e16c16ed2863bd301325c70f14c89bfe74", checked := Tryd.checked }
namespace Rows
def none {H : Type} : Left H := { results := [], args := [] }

/- WHAT THE LISTED PACKAGE-LEVEL VARIABLES READ AS WHEN THE CALL BEGINS. Each datum BY PROGRAM (the guide's laid-datum.mjs) off the statement by which the dump's own 'gosem.cut.vars' lays the variable. In a bare row this is a premise. The card (YtijaefmaceolbaaDoorCards.lean) ties it to the program's text. -/
def laid_unicode_utf8_acceptRanges {H : Type} : DataW H := .agg [.agg [.lit (.int .u8 128), .lit (.int .u8 191)], .agg [.lit (.int .u8 160), .lit (.int .u8 191)], .agg [.lit (.int .u8 128), .lit (.int .u8 159)], .agg [.lit (.int .u8 144), .lit (.int .u8 191)], .agg [.lit (.int .u8 128), .lit (.int .u8 143)], .agg [.lit (.int .u8 0), .lit (.int .u8 0)], .agg [.lit (.int .u8 0), .lit (.int .u8 0)], .agg [.lit (.int .u8 0), .lit (.int .u8 0)], .agg [.lit (.int .u8 0), .lit (.int .u8 0)], .agg [.lit (.int .u8 0), .lit (.int .u8 0)], .agg [.lit (.int .u8 0), .lit (.int .u8 0)], .agg [.lit (.int .u8 0), .lit (.int .u8 0)], .agg [.lit (.int .u8 0), .lit (.int .u8 0)], .agg [.lit (.int .u8 0), .lit (.int .u8 0)], .agg [.lit (.int .u8 0), .lit (.int .u8 0)], .agg [.lit (.int .u8 0), .lit (.int .u8 0)]]
/-- One of Go's own tables, pinned by name: the form's constant. -/
def laid_unicode_utf8_first : DataW Unit := Go.Pinned.utf8First

/-- 'pomadelaw01.TruthCores': WHATEVER THE INPUT: true; the input reads as it did. -/
def truthCoresSpec : ChangeSpec := { name := "truthCores", fn := fun _ => fun
  | [d] => { results := [.lit (.bool true)], args := [d] }
  | _ => none }
def truthCoresRow : OpenClaim := { program := "ytijaefmaceolbaadoor", sum := "3409319c0d94c1ea1630d62fa4d159e16c16ed2863bd301325c70f14c89bfe74", func := "pomade/pomadelaw01.TruthCores", spec := "truthCores", inPlace := ["internal/bytealg.IndexByteString", "internal/bytealg.IndexString", "internal/abi.NoEscape", "internal/bytealg.MakeNoZero"], unfollowed := true, recurses := true, named := ["internal/bytealg.MaxLen", "unicode/utf8.first", "unicode/utf8.acceptRanges"], apart := false, laid := [("unicode/utf8.acceptRanges", laid_unicode_utf8_acceptRanges), ("unicode/utf8.first", laid_unicode_utf8_first)] }
def TruthCoresSaid : Prop := truthCoresRow.holds Tryd.pinned (OpenSpec.ofChange truthCoresSpec)

/-- ITS FALSE NEIGHBOUR: 'it returns false'. Refute it at one input. -/
def truthCoresWrong : ChangeSpec := { name := "truthCores", fn := fun _ => fun
  | [d] => { results := [.lit (.bool false)], args := [d] }
  | _ => none }
def TruthCoresWrongFalsely : Prop := truthCoresRow.holds Tryd.pinned (OpenSpec.ofChange truthCoresWrong)

/-- 'pomadelaw01.TruthCycles': WHATEVER THE INPUT: true; the input reads as it did. -/
def truthCyclesSpec : ChangeSpec := { name := "truthCycles", fn := fun _ => fun
  | [d1, d2] => { results := [.lit (.bool true)], args := [d1, d2] }
  | _ => none }
def truthCyclesRow : OpenClaim := { program := "ytijaefmaceolbaadoor", sum := "3409319c0d94c1ea1630d62fa4d159e16c16ed2863bd301325c70f14c89bfe74", func := "pomade/pomadelaw01.TruthCycles", spec := "truthCycles", inPlace := ["internal/bytealg.IndexByteString", "internal/bytealg.IndexString", "internal/abi.NoEscape", "internal/bytealg.MakeNoZero"], unfollowed := true, recurses := true, named := ["internal/bytealg.MaxLen", "unicode/utf8.first", "unicode/utf8.acceptRanges"], apart := false, laid := [("unicode/utf8.acceptRanges", laid_unicode_utf8_acceptRanges), ("unicode/utf8.first", laid_unicode_utf8_first)] }
def TruthCyclesSaid : Prop := truthCyclesRow.holds Tryd.pinned (OpenSpec.ofChange truthCyclesSpec)

/-- ITS FALSE NEIGHBOUR: 'it returns false'. Refute it at one input. -/
def truthCyclesWrong : ChangeSpec := { name := "truthCycles", fn := fun _ => fun
  | [d1, d2] => { results := [.lit (.bool false)], args := [d1, d2] }
  | _ => none }
def TruthCyclesWrongFalsely : Prop := truthCyclesRow.holds Tryd.pinned (OpenSpec.ofChange truthCyclesWrong)

/-- 'pomadelaw01.TruthValues': WHATEVER THE INPUT: true; the input reads as it did. -/
def truthValuesSpec : ChangeSpec := { name := "truthValues", fn := fun _ => fun
  | [d1, d2] => { results := [.lit (.bool true)], args := [d1, d2] }
  | _ => none }
def truthValuesRow : OpenClaim := { program := "ytijaefmaceolbaadoor", sum := "3409319c0d94c1ea1630d62fa4d159e16c16ed2863bd301325c70f14c89bfe74", func := "pomade/pomadelaw01.TruthValues", spec := "truthValues", inPlace := ["internal/bytealg.IndexByteString", "internal/bytealg.IndexString", "internal/abi.NoEscape", "internal/bytealg.MakeNoZero"], unfollowed := true, recurses := true, named := ["internal/bytealg.MaxLen", "unicode/utf8.first", "unicode/utf8.acceptRanges"], apart := false, laid := [("unicode/utf8.acceptRanges", laid_unicode_utf8_acceptRanges), ("unicode/utf8.first", laid_unicode_utf8_first)] }
def TruthValuesSaid : Prop := truthValuesRow.holds Tryd.pinned (OpenSpec.ofChange truthValuesSpec)

/-- ITS FALSE NEIGHBOUR: 'it returns false'. Refute it at one input. -/
def truthValuesWrong : ChangeSpec := { name := "truthValues", fn := fun _ => fun
  | [d1, d2] => { results := [.lit (.bool false)], args := [d1, d2] }
  | _ => none }
def TruthValuesWrongFalsely : Prop := truthValuesRow.holds Tryd.pinned (OpenSpec.ofChange truthValuesWrong)

/-- 'pomadelaw01.TruthCounts': WHATEVER THE INPUT: true; the input reads as it did. -/
def truthCountsSpec : ChangeSpec := { name := "truthCounts", fn := fun _ => fun
  | [d] => { results := [.lit (.bool true)], args := [d] }
  | _ => none }
def truthCountsRow : OpenClaim := { program := "ytijaefmaceolbaadoor", sum := "3409319c0d94c1ea1630d62fa4d159e16c16ed2863bd301325c70f14c89bfe74", func := "pomade/pomadelaw01.TruthCounts", spec := "truthCounts", inPlace := ["internal/bytealg.IndexByteString", "internal/bytealg.IndexString", "internal/abi.NoEscape", "internal/bytealg.MakeNoZero"], unfollowed := true, recurses := true, named := ["internal/bytealg.MaxLen", "unicode/utf8.first", "unicode/utf8.acceptRanges"], apart := false, laid := [("unicode/utf8.acceptRanges", laid_unicode_utf8_acceptRanges), ("unicode/utf8.first", laid_unicode_utf8_first)] }
def TruthCountsSaid : Prop := truthCountsRow.holds Tryd.pinned (OpenSpec.ofChange truthCountsSpec)

/-- ITS FALSE NEIGHBOUR: 'it returns false'. Refute it at one input. -/
def truthCountsWrong : ChangeSpec := { name := "truthCounts", fn := fun _ => fun
  | [d] => { results := [.lit (.bool false)], args := [d] }
  | _ => none }
def TruthCountsWrongFalsely : Prop := truthCountsRow.holds Tryd.pinned (OpenSpec.ofChange truthCountsWrong)

/-- 'pomadelaw01.TruthRings': WHATEVER THE INPUT: true; the input reads as it did. -/
def truthRingsSpec : ChangeSpec := { name := "truthRings", fn := fun _ => fun
  | [d] => { results := [.lit (.bool true)], args := [d] }
  | _ => none }
def truthRingsRow : OpenClaim := { program := "ytijaefmaceolbaadoor", sum := "3409319c0d94c1ea1630d62fa4d159e16c16ed2863bd301325c70f14c89bfe74", func := "pomade/pomadelaw01.TruthRings", spec := "truthRings", inPlace := ["internal/bytealg.IndexByteString", "internal/bytealg.IndexString", "internal/abi.NoEscape", "internal/bytealg.MakeNoZero"], unfollowed := true, recurses := true, named := ["internal/bytealg.MaxLen", "unicode/utf8.first", "unicode/utf8.acceptRanges"], apart := false, laid := [("unicode/utf8.acceptRanges", laid_unicode_utf8_acceptRanges), ("unicode/utf8.first", laid_unicode_utf8_first)] }
def TruthRingsSaid : Prop := truthRingsRow.holds Tryd.pinned (OpenSpec.ofChange truthRingsSpec)

/-- ITS FALSE NEIGHBOUR: 'it returns false'. Refute it at one input. -/
def truthRingsWrong : ChangeSpec := { name := "truthRings", fn := fun _ => fun
  | [d] => { results := [.lit (.bool false)], args := [d] }
  | _ => none }
def TruthRingsWrongFalsely : Prop := truthRingsRow.holds Tryd.pinned (OpenSpec.ofChange truthRingsWrong)

/-- 'pomadelaw01.TruthMinimal': WHATEVER THE INPUT: true; the input reads as it did. -/
def truthMinimalSpec : ChangeSpec := { name := "truthMinimal", fn := fun _ => fun
  | [d] => { results := [.lit (.bool true)], args := [d] }
  | _ => none }
def truthMinimalRow : OpenClaim := { program := "ytijaefmaceolbaadoor", sum := "3409319c0d94c1ea1630d62fa4d159e16c16ed2863bd301325c70f14c89bfe74", func := "pomade/pomadelaw01.TruthMinimal", spec := "truthMinimal", inPlace := ["internal/bytealg.IndexByteString", "internal/bytealg.IndexString", "internal/abi.NoEscape", "internal/bytealg.MakeNoZero"], unfollowed := true, recurses := true, named := ["internal/bytealg.MaxLen", "unicode/utf8.first", "unicode/utf8.acceptRanges"], apart := false, laid := [("unicode/utf8.acceptRanges", laid_unicode_utf8_acceptRanges), ("unicode/utf8.first", laid_unicode_utf8_first)] }
def TruthMinimalSaid : Prop := truthMinimalRow.holds Tryd.pinned (OpenSpec.ofChange truthMinimalSpec)

/-- ITS FALSE NEIGHBOUR: 'it returns false'. Refute it at one input. -/
def truthMinimalWrong : ChangeSpec := { name := "truthMinimal", fn := fun _ => fun
  | [d] => { results := [.lit (.bool false)], args := [d] }
  | _ => none }
def TruthMinimalWrongFalsely : Prop := truthMinimalRow.holds Tryd.pinned (OpenSpec.ofChange truthMinimalWrong)

/-- 'pomadelaw01.TruthRevises': WHATEVER THE INPUT: true; the input reads as it did. -/
def truthRevisesSpec : ChangeSpec := { name := "truthRevises", fn := fun _ => fun
  | [d1, d2] => { results := [.lit (.bool true)], args := [d1, d2] }
  | _ => none }
def truthRevisesRow : OpenClaim := { program := "ytijaefmaceolbaadoor", sum := "3409319c0d94c1ea1630d62fa4d159e16c16ed2863bd301325c70f14c89bfe74", func := "pomade/pomadelaw01.TruthRevises", spec := "truthRevises", inPlace := ["internal/bytealg.IndexByteString", "internal/bytealg.IndexString", "internal/abi.NoEscape", "internal/bytealg.MakeNoZero"], unfollowed := true, recurses := true, named := ["internal/bytealg.MaxLen", "unicode/utf8.first", "unicode/utf8.acceptRanges"], apart := false, laid := [("unicode/utf8.acceptRanges", laid_unicode_utf8_acceptRanges), ("unicode/utf8.first", laid_unicode_utf8_first)] }
def TruthRevisesSaid : Prop := truthRevisesRow.holds Tryd.pinned (OpenSpec.ofChange truthRevisesSpec)

/-- ITS FALSE NEIGHBOUR: 'it returns false'. Refute it at one input. -/
def truthRevisesWrong : ChangeSpec := { name := "truthRevises", fn := fun _ => fun
  | [d1, d2] => { results := [.lit (.bool false)], args := [d1, d2] }
  | _ => none }
def TruthRevisesWrongFalsely : Prop := truthRevisesRow.holds Tryd.pinned (OpenSpec.ofChange truthRevisesWrong)

/-- 'pomadelaw01.TruthGrounded': WHATEVER THE INPUT: true; the input reads as it did. -/
def truthGroundedSpec : ChangeSpec := { name := "truthGrounded", fn := fun _ => fun
  | [d1, d2] => { results := [.lit (.bool true)], args := [d1, d2] }
  | _ => none }
def truthGroundedRow : OpenClaim := { program := "ytijaefmaceolbaadoor", sum := "3409319c0d94c1ea1630d62fa4d159e16c16ed2863bd301325c70f14c89bfe74", func := "pomade/pomadelaw01.TruthGrounded", spec := "truthGrounded", inPlace := ["internal/bytealg.IndexByteString", "internal/bytealg.IndexString", "internal/abi.NoEscape", "internal/bytealg.MakeNoZero"], unfollowed := true, recurses := true, named := ["internal/bytealg.MaxLen", "unicode/utf8.first", "unicode/utf8.acceptRanges"], apart := false, laid := [("unicode/utf8.acceptRanges", laid_unicode_utf8_acceptRanges), ("unicode/utf8.first", laid_unicode_utf8_first)] }
def TruthGroundedSaid : Prop := truthGroundedRow.holds Tryd.pinned (OpenSpec.ofChange truthGroundedSpec)

/-- ITS FALSE NEIGHBOUR: 'it returns false'. Refute it at one input. -/
def truthGroundedWrong : ChangeSpec := { name := "truthGrounded", fn := fun _ => fun
  | [d1, d2] => { results := [.lit (.bool false)], args := [d1, d2] }
  | _ => none }
def TruthGroundedWrongFalsely : Prop := truthGroundedRow.holds Tryd.pinned (OpenSpec.ofChange truthGroundedWrong)

/-- 'pomadelaw01.TruthSteady': WHATEVER THE INPUT: true; the input reads as it did. -/
def truthSteadySpec : ChangeSpec := { name := "truthSteady", fn := fun _ => fun
  | [d1, d2] => { results := [.lit (.bool true)], args := [d1, d2] }
  | _ => none }
def truthSteadyRow : OpenClaim := { program := "ytijaefmaceolbaadoor", sum := "3409319c0d94c1ea1630d62fa4d159e16c16ed2863bd301325c70f14c89bfe74", func := "pomade/pomadelaw01.TruthSteady", spec := "truthSteady", inPlace := ["internal/bytealg.IndexByteString", "internal/bytealg.IndexString", "internal/abi.NoEscape", "internal/bytealg.MakeNoZero"], unfollowed := true, recurses := true, named := ["internal/bytealg.MaxLen", "unicode/utf8.first", "unicode/utf8.acceptRanges"], apart := false, laid := [("unicode/utf8.acceptRanges", laid_unicode_utf8_acceptRanges), ("unicode/utf8.first", laid_unicode_utf8_first)] }
def TruthSteadySaid : Prop := truthSteadyRow.holds Tryd.pinned (OpenSpec.ofChange truthSteadySpec)

/-- ITS FALSE NEIGHBOUR: 'it returns false'. Refute it at one input. -/
def truthSteadyWrong : ChangeSpec := { name := "truthSteady", fn := fun _ => fun
  | [d1, d2] => { results := [.lit (.bool false)], args := [d1, d2] }
  | _ => none }
def TruthSteadyWrongFalsely : Prop := truthSteadyRow.holds Tryd.pinned (OpenSpec.ofChange truthSteadyWrong)

/-- 'pomadelaw01.TruthMany': WHATEVER THE INPUT: true; the input reads as it did. -/
def truthManySpec : ChangeSpec := { name := "truthMany", fn := fun _ => fun
  | [d] => { results := [.lit (.bool true)], args := [d] }
  | _ => none }
def truthManyRow : OpenClaim := { program := "ytijaefmaceolbaadoor", sum := "3409319c0d94c1ea1630d62fa4d159e16c16ed2863bd301325c70f14c89bfe74", func := "pomade/pomadelaw01.TruthMany", spec := "truthMany", inPlace := ["internal/bytealg.IndexByteString", "internal/bytealg.IndexString", "internal/bytealg.CountString", "internal/abi.NoEscape", "internal/bytealg.MakeNoZero"], unfollowed := true, recurses := true, named := ["internal/bytealg.MaxLen", "unicode/utf8.first", "unicode/utf8.acceptRanges"], apart := false, laid := [("unicode/utf8.acceptRanges", laid_unicode_utf8_acceptRanges), ("unicode/utf8.first", laid_unicode_utf8_first)] }
def TruthManySaid : Prop := truthManyRow.holds Tryd.pinned (OpenSpec.ofChange truthManySpec)

/-- ITS FALSE NEIGHBOUR: 'it returns false'. Refute it at one input. -/
def truthManyWrong : ChangeSpec := { name := "truthMany", fn := fun _ => fun
  | [d] => { results := [.lit (.bool false)], args := [d] }
  | _ => none }
def TruthManyWrongFalsely : Prop := truthManyRow.holds Tryd.pinned (OpenSpec.ofChange truthManyWrong)

/- THE SECOND FORM. 'bulk': how many values and letters a reading holds, each counted each time it is reached (what is shared counts as often as it is met; a slice's spare places count too). A statement '..UptoSaid' is the law's where the arguments, and the package variables that the reading takes, are together of bulk at most 1048576: NARROWER than '..Said'. Prove '..Said' where nothing that the law and all that it calls make is longer than what came in: it says more and counts as full. Else prove '..UptoSaid'. A law counts once. -/
mutual
def uptoBulk {H : Type} : DataW H → Nat
  | .lit (.string bytes) => bytes.length + 1
  | .lit _ => 1
  | .nil => 1
  | .ptr d => uptoBulk d + 1
  | .slice elems spare => uptoBulkAll elems + uptoBulkAll spare + 1
  | .agg parts => uptoBulkAll parts + 1
  | .iface _ d => uptoBulk d + 1
  | .map entries => uptoBulkEntries entries + 1
  | .held _ => 1
def uptoBulkAll {H : Type} : List (DataW H) → Nat
  | [] => 0
  | d :: r => uptoBulk d + uptoBulkAll r
def uptoBulkEntries {H : Type} : List (Lit × DataW H) → Nat
  | [] => 0
  | x :: r => uptoBulkEntry x + uptoBulkEntries r
def uptoBulkEntry {H : Type} : Lit × DataW H → Nat
  | (.string bytes, d) => bytes.length + uptoBulk d + 1
  | (_, d) => uptoBulk d + 1
 end
def uptoSmall : (H : Type) → List (DataW H) → Bool := fun _ ds => decide (uptoBulkAll ds ≤ 1048576)
def OpenSpec.upto (s : _root_.Go.ChangeSpec) : _root_.Go.OpenSpec := { _root_.Go.OpenSpec.ofChange s with cond := some uptoSmall }

/-- 'pomadelaw01.TruthCores', WHERE WHAT IT READS IS OF BULK AT MOST 1048576: true; the input reads as it did. -/
def truthCoresUptoRow : OpenClaim := { program := "ytijaefmaceolbaadoor", sum := "3409319c0d94c1ea1630d62fa4d159e16c16ed2863bd301325c70f14c89bfe74", func := "pomade/pomadelaw01.TruthCores", spec := "truthCores", inPlace := ["internal/bytealg.IndexByteString", "internal/bytealg.IndexString", "internal/abi.NoEscape", "internal/bytealg.MakeNoZero"], unfollowed := true, recurses := true, named := ["internal/bytealg.MaxLen", "unicode/utf8.first", "unicode/utf8.acceptRanges"], apart := false, laid := [("unicode/utf8.acceptRanges", laid_unicode_utf8_acceptRanges), ("unicode/utf8.first", laid_unicode_utf8_first)], narrowed := true }
def TruthCoresUptoSaid : Prop := truthCoresUptoRow.holds Tryd.pinned (OpenSpec.upto truthCoresSpec)

/-- 'pomadelaw01.TruthCycles', WHERE WHAT IT READS IS OF BULK AT MOST 1048576: true; the input reads as it did. -/
def truthCyclesUptoRow : OpenClaim := { program := "ytijaefmaceolbaadoor", sum := "3409319c0d94c1ea1630d62fa4d159e16c16ed2863bd301325c70f14c89bfe74", func := "pomade/pomadelaw01.TruthCycles", spec := "truthCycles", inPlace := ["internal/bytealg.IndexByteString", "internal/bytealg.IndexString", "internal/abi.NoEscape", "internal/bytealg.MakeNoZero"], unfollowed := true, recurses := true, named := ["internal/bytealg.MaxLen", "unicode/utf8.first", "unicode/utf8.acceptRanges"], apart := false, laid := [("unicode/utf8.acceptRanges", laid_unicode_utf8_acceptRanges), ("unicode/utf8.first", laid_unicode_utf8_first)], narrowed := true }
def TruthCyclesUptoSaid : Prop := truthCyclesUptoRow.holds Tryd.pinned (OpenSpec.upto truthCyclesSpec)

/-- 'pomadelaw01.TruthValues', WHERE WHAT IT READS IS OF BULK AT MOST 1048576: true; the input reads as it did. -/
def truthValuesUptoRow : OpenClaim := { program := "ytijaefmaceolbaadoor", sum := "3409319c0d94c1ea1630d62fa4d159e16c16ed2863bd301325c70f14c89bfe74", func := "pomade/pomadelaw01.TruthValues", spec := "truthValues", inPlace := ["internal/bytealg.IndexByteString", "internal/bytealg.IndexString", "internal/abi.NoEscape", "internal/bytealg.MakeNoZero"], unfollowed := true, recurses := true, named := ["internal/bytealg.MaxLen", "unicode/utf8.first", "unicode/utf8.acceptRanges"], apart := false, laid := [("unicode/utf8.acceptRanges", laid_unicode_utf8_acceptRanges), ("unicode/utf8.first", laid_unicode_utf8_first)], narrowed := true }
def TruthValuesUptoSaid : Prop := truthValuesUptoRow.holds Tryd.pinned (OpenSpec.upto truthValuesSpec)

/-- 'pomadelaw01.TruthCounts', WHERE WHAT IT READS IS OF BULK AT MOST 1048576: true; the input reads as it did. -/
def truthCountsUptoRow : OpenClaim := { program := "ytijaefmaceolbaadoor", sum := "3409319c0d94c1ea1630d62fa4d159e16c16ed2863bd301325c70f14c89bfe74", func := "pomade/pomadelaw01.TruthCounts", spec := "truthCounts", inPlace := ["internal/bytealg.IndexByteString", "internal/bytealg.IndexString", "internal/abi.NoEscape", "internal/bytealg.MakeNoZero"], unfollowed := true, recurses := true, named := ["internal/bytealg.MaxLen", "unicode/utf8.first", "unicode/utf8.acceptRanges"], apart := false, laid := [("unicode/utf8.acceptRanges", laid_unicode_utf8_acceptRanges), ("unicode/utf8.first", laid_unicode_utf8_first)], narrowed := true }
def TruthCountsUptoSaid : Prop := truthCountsUptoRow.holds Tryd.pinned (OpenSpec.upto truthCountsSpec)

/-- 'pomadelaw01.TruthRings', WHERE WHAT IT READS IS OF BULK AT MOST 1048576: true; the input reads as it did. -/
def truthRingsUptoRow : OpenClaim := { program := "ytijaefmaceolbaadoor", sum := "3409319c0d94c1ea1630d62fa4d159e16c16ed2863bd301325c70f14c89bfe74", func := "pomade/pomadelaw01.TruthRings", spec := "truthRings", inPlace := ["internal/bytealg.IndexByteString", "internal/bytealg.IndexString", "internal/abi.NoEscape", "internal/bytealg.MakeNoZero"], unfollowed := true, recurses := true, named := ["internal/bytealg.MaxLen", "unicode/utf8.first", "unicode/utf8.acceptRanges"], apart := false, laid := [("unicode/utf8.acceptRanges", laid_unicode_utf8_acceptRanges), ("unicode/utf8.first", laid_unicode_utf8_first)], narrowed := true }
def TruthRingsUptoSaid : Prop := truthRingsUptoRow.holds Tryd.pinned (OpenSpec.upto truthRingsSpec)

/-- 'pomadelaw01.TruthMinimal', WHERE WHAT IT READS IS OF BULK AT MOST 1048576: true; the input reads as it did. -/
def truthMinimalUptoRow : OpenClaim := { program := "ytijaefmaceolbaadoor", sum := "3409319c0d94c1ea1630d62fa4d159e16c16ed2863bd301325c70f14c89bfe74", func := "pomade/pomadelaw01.TruthMinimal", spec := "truthMinimal", inPlace := ["internal/bytealg.IndexByteString", "internal/bytealg.IndexString", "internal/abi.NoEscape", "internal/bytealg.MakeNoZero"], unfollowed := true, recurses := true, named := ["internal/bytealg.MaxLen", "unicode/utf8.first", "unicode/utf8.acceptRanges"], apart := false, laid := [("unicode/utf8.acceptRanges", laid_unicode_utf8_acceptRanges), ("unicode/utf8.first", laid_unicode_utf8_first)], narrowed := true }
def TruthMinimalUptoSaid : Prop := truthMinimalUptoRow.holds Tryd.pinned (OpenSpec.upto truthMinimalSpec)

/-- 'pomadelaw01.TruthRevises', WHERE WHAT IT READS IS OF BULK AT MOST 1048576: true; the input reads as it did. -/
def truthRevisesUptoRow : OpenClaim := { program := "ytijaefmaceolbaadoor", sum := "3409319c0d94c1ea1630d62fa4d159e16c16ed2863bd301325c70f14c89bfe74", func := "pomade/pomadelaw01.TruthRevises", spec := "truthRevises", inPlace := ["internal/bytealg.IndexByteString", "internal/bytealg.IndexString", "internal/abi.NoEscape", "internal/bytealg.MakeNoZero"], unfollowed := true, recurses := true, named := ["internal/bytealg.MaxLen", "unicode/utf8.first", "unicode/utf8.acceptRanges"], apart := false, laid := [("unicode/utf8.acceptRanges", laid_unicode_utf8_acceptRanges), ("unicode/utf8.first", laid_unicode_utf8_first)], narrowed := true }
def TruthRevisesUptoSaid : Prop := truthRevisesUptoRow.holds Tryd.pinned (OpenSpec.upto truthRevisesSpec)

/-- 'pomadelaw01.TruthGrounded', WHERE WHAT IT READS IS OF BULK AT MOST 1048576: true; the input reads as it did. -/
def truthGroundedUptoRow : OpenClaim := { program := "ytijaefmaceolbaadoor", sum := "3409319c0d94c1ea1630d62fa4d159e16c16ed2863bd301325c70f14c89bfe74", func := "pomade/pomadelaw01.TruthGrounded", spec := "truthGrounded", inPlace := ["internal/bytealg.IndexByteString", "internal/bytealg.IndexString", "internal/abi.NoEscape", "internal/bytealg.MakeNoZero"], unfollowed := true, recurses := true, named := ["internal/bytealg.MaxLen", "unicode/utf8.first", "unicode/utf8.acceptRanges"], apart := false, laid := [("unicode/utf8.acceptRanges", laid_unicode_utf8_acceptRanges), ("unicode/utf8.first", laid_unicode_utf8_first)], narrowed := true }
def TruthGroundedUptoSaid : Prop := truthGroundedUptoRow.holds Tryd.pinned (OpenSpec.upto truthGroundedSpec)

/-- 'pomadelaw01.TruthSteady', WHERE WHAT IT READS IS OF BULK AT MOST 1048576: true; the input reads as it did. -/
def truthSteadyUptoRow : OpenClaim := { program := "ytijaefmaceolbaadoor", sum := "3409319c0d94c1ea1630d62fa4d159e16c16ed2863bd301325c70f14c89bfe74", func := "pomade/pomadelaw01.TruthSteady", spec := "truthSteady", inPlace := ["internal/bytealg.IndexByteString", "internal/bytealg.IndexString", "internal/abi.NoEscape", "internal/bytealg.MakeNoZero"], unfollowed := true, recurses := true, named := ["internal/bytealg.MaxLen", "unicode/utf8.first", "unicode/utf8.acceptRanges"], apart := false, laid := [("unicode/utf8.acceptRanges", laid_unicode_utf8_acceptRanges), ("unicode/utf8.first", laid_unicode_utf8_first)], narrowed := true }
def TruthSteadyUptoSaid : Prop := truthSteadyUptoRow.holds Tryd.pinned (OpenSpec.upto truthSteadySpec)

/-- 'pomadelaw01.TruthMany', WHERE WHAT IT READS IS OF BULK AT MOST 1048576: true; the input reads as it did. -/
def truthManyUptoRow : OpenClaim := { program := "ytijaefmaceolbaadoor", sum := "3409319c0d94c1ea1630d62fa4d159e16c16ed2863bd301325c70f14c89bfe74", func := "pomade/pomadelaw01.TruthMany", spec := "truthMany", inPlace := ["internal/bytealg.IndexByteString", "internal/bytealg.IndexString", "internal/bytealg.CountString", "internal/abi.NoEscape", "internal/bytealg.MakeNoZero"], unfollowed := true, recurses := true, named := ["internal/bytealg.MaxLen", "unicode/utf8.first", "unicode/utf8.acceptRanges"], apart := false, laid := [("unicode/utf8.acceptRanges", laid_unicode_utf8_acceptRanges), ("unicode/utf8.first", laid_unicode_utf8_first)], narrowed := true }
def TruthManyUptoSaid : Prop := truthManyUptoRow.holds Tryd.pinned (OpenSpec.upto truthManySpec)

end Rows
end Go.Proofs.YtijaefmaceolbaaDoor
