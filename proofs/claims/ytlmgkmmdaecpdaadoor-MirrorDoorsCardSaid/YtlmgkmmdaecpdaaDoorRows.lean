/-
  NARROWER THAN 'FOR EVERY INPUT', by the rows' own cells (each row's printed sentence says how): MirrorWins: laid · MirrorNeeds: laid · MirrorPlayed: laid · MirrorFlipped: laid · MirrorMore: laid · MirrorFull: laid · MirrorTurned: laid · MirrorWinners: laid · MirrorHex: laid · MirrorDoors: laid · MirrorBorder: laid · MirrorWalks: laid · MirrorSperner: laid.
  DERIVED. THE GIVEN ROWS OF THIS SEAT. 13 by the template 'for every input the law returns true; each argument reads behind the call as it read before'; 0 by the template 'total and deterministic' (their statements: YtlmgkmmdaecpdaaDoorTotals.lean).
  GIVEN WITH THE SEED: the statements are not yours to turn. If you find one false, say at which input.
  Laid BY PROGRAM, IN A SANDBOX (cutbox-rows.mjs): the forced cells as the released guide's own fill.sh prints them over the translation b7427f2e20c61a49… (all of the seat's roots in one cut). By AI agents, Wed Nov 11 2026. No macro, syntax, notation, axiom, sorry.
-/
import Derived.Test.YtlmgkmmdaecpdaaDoorChecked
import GoSem.PinnedTables
import GoSem.Claim
import GoSem.ClaimJoined
import GoSem.ClaimMapViews
import Derived.JoinedTies
import Derived.KernelRfl
namespace Go.Proofs.YtlmgkmmdaecpdaaDoor
/- THE CELL 'sum', in the pinned program and in every row, IS THE sha256 OF THE DUMP (.gsa) THAT YtlmgkmmdaecpdaaDoorProg.lean LOADS. Nothing in Lean hashes anything: it is a label: what it is worth is what the hold of that sum in a sandbox is worth. -/
noncomputable def Tryd.pinned : Pinned := { name := "ytlmgkmmdaecpdaadoor", sum := "b7427f2e20c61a4978f7cc6d9293d8e391a0b31b8dcb4cd32c810d8a45083675", checked := Tryd.checked }
namespace Rows
def none {H : Type} : Left H := { results := [], args := [] }

/- WHAT THE LISTED PACKAGE-LEVEL VARIABLES READ AS WHEN THE CALL BEGINS. Each datum BY PROGRAM (the guide's laid-datum.mjs) off the statement by which the dump's own 'gosem.cut.vars' lays the variable. In a bare row this is a premise. The card (YtlmgkmmdaecpdaaDoorCards.lean) ties it to the program's text. -/
def laid_unicode_utf8_acceptRanges {H : Type} : DataW H := .agg [.agg [.lit (.int .u8 128), .lit (.int .u8 191)], .agg [.lit (.int .u8 160), .lit (.int .u8 191)], .agg [.lit (.int .u8 128), .lit (.int .u8 159)], .agg [.lit (.int .u8 144), .lit (.int .u8 191)], .agg [.lit (.int .u8 128), .lit (.int .u8 143)], .agg [.lit (.int .u8 0), .lit (.int .u8 0)], .agg [.lit (.int .u8 0), .lit (.int .u8 0)], .agg [.lit (.int .u8 0), .lit (.int .u8 0)], .agg [.lit (.int .u8 0), .lit (.int .u8 0)], .agg [.lit (.int .u8 0), .lit (.int .u8 0)], .agg [.lit (.int .u8 0), .lit (.int .u8 0)], .agg [.lit (.int .u8 0), .lit (.int .u8 0)], .agg [.lit (.int .u8 0), .lit (.int .u8 0)], .agg [.lit (.int .u8 0), .lit (.int .u8 0)], .agg [.lit (.int .u8 0), .lit (.int .u8 0)], .agg [.lit (.int .u8 0), .lit (.int .u8 0)]]
def laid_pomade_mirror_steps {H : Type} : DataW H := .agg [.agg [.lit (.int .i64 0), .lit (.int .i64 (-1))], .agg [.lit (.int .i64 0), .lit (.int .i64 1)], .agg [.lit (.int .i64 (-1)), .lit (.int .i64 0)], .agg [.lit (.int .i64 (-1)), .lit (.int .i64 1)], .agg [.lit (.int .i64 1), .lit (.int .i64 (-1))], .agg [.lit (.int .i64 1), .lit (.int .i64 0)]]
/-- One of Go's own tables, pinned by name: the form's constant. -/
def laid_unicode_utf8_first : DataW Unit := Go.Pinned.utf8First

/-- 'pomadelaw04.MirrorWins': WHATEVER THE INPUT: true; the input reads as it did. -/
def mirrorWinsSpec : ChangeSpec := { name := "mirrorWins", fn := fun _ => fun
  | [d1, d2] => { results := [.lit (.bool true)], args := [d1, d2] }
  | _ => none }
def mirrorWinsRow : OpenClaim := { program := "ytlmgkmmdaecpdaadoor", sum := "b7427f2e20c61a4978f7cc6d9293d8e391a0b31b8dcb4cd32c810d8a45083675", func := "pomade/pomadelaw04.MirrorWins", spec := "mirrorWins", inPlace := ["internal/bytealg.IndexByteString", "internal/bytealg.IndexString", "internal/bytealg.CountString"], unfollowed := true, recurses := true, named := ["unicode/utf8.first", "unicode/utf8.acceptRanges", "internal/bytealg.MaxLen", "pomade/mirror.steps"], plainKeys := false, apart := false, laid := [("unicode/utf8.acceptRanges", laid_unicode_utf8_acceptRanges), ("pomade/mirror.steps", laid_pomade_mirror_steps), ("unicode/utf8.first", laid_unicode_utf8_first)] }
def MirrorWinsSaid : Prop := mirrorWinsRow.holds Tryd.pinned (OpenSpec.ofChange mirrorWinsSpec)

/-- ITS FALSE NEIGHBOUR: 'it returns false'. Refute it at one input. -/
def mirrorWinsWrong : ChangeSpec := { name := "mirrorWins", fn := fun _ => fun
  | [d1, d2] => { results := [.lit (.bool false)], args := [d1, d2] }
  | _ => none }
def MirrorWinsWrongFalsely : Prop := mirrorWinsRow.holds Tryd.pinned (OpenSpec.ofChange mirrorWinsWrong)

/-- 'pomadelaw04.MirrorNeeds': WHATEVER THE INPUT: true; the input reads as it did. -/
def mirrorNeedsSpec : ChangeSpec := { name := "mirrorNeeds", fn := fun _ => fun
  | [d1, d2, d3] => { results := [.lit (.bool true)], args := [d1, d2, d3] }
  | _ => none }
def mirrorNeedsRow : OpenClaim := { program := "ytlmgkmmdaecpdaadoor", sum := "b7427f2e20c61a4978f7cc6d9293d8e391a0b31b8dcb4cd32c810d8a45083675", func := "pomade/pomadelaw04.MirrorNeeds", spec := "mirrorNeeds", inPlace := ["internal/bytealg.IndexByteString", "internal/bytealg.IndexString", "internal/bytealg.CountString"], unfollowed := true, recurses := true, named := ["unicode/utf8.first", "unicode/utf8.acceptRanges", "internal/bytealg.MaxLen", "pomade/mirror.steps"], plainKeys := false, apart := false, laid := [("unicode/utf8.acceptRanges", laid_unicode_utf8_acceptRanges), ("pomade/mirror.steps", laid_pomade_mirror_steps), ("unicode/utf8.first", laid_unicode_utf8_first)] }
def MirrorNeedsSaid : Prop := mirrorNeedsRow.holds Tryd.pinned (OpenSpec.ofChange mirrorNeedsSpec)

/-- ITS FALSE NEIGHBOUR: 'it returns false'. Refute it at one input. -/
def mirrorNeedsWrong : ChangeSpec := { name := "mirrorNeeds", fn := fun _ => fun
  | [d1, d2, d3] => { results := [.lit (.bool false)], args := [d1, d2, d3] }
  | _ => none }
def MirrorNeedsWrongFalsely : Prop := mirrorNeedsRow.holds Tryd.pinned (OpenSpec.ofChange mirrorNeedsWrong)

/-- 'pomadelaw04.MirrorPlayed': WHATEVER THE INPUT: true; the input reads as it did. -/
def mirrorPlayedSpec : ChangeSpec := { name := "mirrorPlayed", fn := fun _ => fun
  | [d1, d2, d3] => { results := [.lit (.bool true)], args := [d1, d2, d3] }
  | _ => none }
def mirrorPlayedRow : OpenClaim := { program := "ytlmgkmmdaecpdaadoor", sum := "b7427f2e20c61a4978f7cc6d9293d8e391a0b31b8dcb4cd32c810d8a45083675", func := "pomade/pomadelaw04.MirrorPlayed", spec := "mirrorPlayed", inPlace := ["internal/bytealg.IndexByteString", "internal/bytealg.IndexString", "internal/bytealg.CountString"], unfollowed := true, recurses := true, named := ["unicode/utf8.first", "unicode/utf8.acceptRanges", "internal/bytealg.MaxLen", "pomade/mirror.steps"], plainKeys := false, apart := false, laid := [("unicode/utf8.acceptRanges", laid_unicode_utf8_acceptRanges), ("pomade/mirror.steps", laid_pomade_mirror_steps), ("unicode/utf8.first", laid_unicode_utf8_first)] }
def MirrorPlayedSaid : Prop := mirrorPlayedRow.holds Tryd.pinned (OpenSpec.ofChange mirrorPlayedSpec)

/-- ITS FALSE NEIGHBOUR: 'it returns false'. Refute it at one input. -/
def mirrorPlayedWrong : ChangeSpec := { name := "mirrorPlayed", fn := fun _ => fun
  | [d1, d2, d3] => { results := [.lit (.bool false)], args := [d1, d2, d3] }
  | _ => none }
def MirrorPlayedWrongFalsely : Prop := mirrorPlayedRow.holds Tryd.pinned (OpenSpec.ofChange mirrorPlayedWrong)

/-- 'pomadelaw04.MirrorFlipped': WHATEVER THE INPUT: true; the input reads as it did. -/
def mirrorFlippedSpec : ChangeSpec := { name := "mirrorFlipped", fn := fun _ => fun
  | [d1, d2] => { results := [.lit (.bool true)], args := [d1, d2] }
  | _ => none }
def mirrorFlippedRow : OpenClaim := { program := "ytlmgkmmdaecpdaadoor", sum := "b7427f2e20c61a4978f7cc6d9293d8e391a0b31b8dcb4cd32c810d8a45083675", func := "pomade/pomadelaw04.MirrorFlipped", spec := "mirrorFlipped", inPlace := ["internal/bytealg.IndexByteString", "internal/bytealg.IndexString", "internal/bytealg.CountString"], unfollowed := true, recurses := true, named := ["unicode/utf8.first", "unicode/utf8.acceptRanges", "internal/bytealg.MaxLen", "pomade/mirror.steps"], plainKeys := false, apart := false, laid := [("unicode/utf8.acceptRanges", laid_unicode_utf8_acceptRanges), ("pomade/mirror.steps", laid_pomade_mirror_steps), ("unicode/utf8.first", laid_unicode_utf8_first)] }
def MirrorFlippedSaid : Prop := mirrorFlippedRow.holds Tryd.pinned (OpenSpec.ofChange mirrorFlippedSpec)

/-- ITS FALSE NEIGHBOUR: 'it returns false'. Refute it at one input. -/
def mirrorFlippedWrong : ChangeSpec := { name := "mirrorFlipped", fn := fun _ => fun
  | [d1, d2] => { results := [.lit (.bool false)], args := [d1, d2] }
  | _ => none }
def MirrorFlippedWrongFalsely : Prop := mirrorFlippedRow.holds Tryd.pinned (OpenSpec.ofChange mirrorFlippedWrong)

/-- 'pomadelaw04.MirrorMore': WHATEVER THE INPUT: true; the input reads as it did. -/
def mirrorMoreSpec : ChangeSpec := { name := "mirrorMore", fn := fun _ => fun
  | [d1, d2, d3] => { results := [.lit (.bool true)], args := [d1, d2, d3] }
  | _ => none }
def mirrorMoreRow : OpenClaim := { program := "ytlmgkmmdaecpdaadoor", sum := "b7427f2e20c61a4978f7cc6d9293d8e391a0b31b8dcb4cd32c810d8a45083675", func := "pomade/pomadelaw04.MirrorMore", spec := "mirrorMore", inPlace := ["internal/bytealg.IndexByteString", "internal/bytealg.IndexString", "internal/bytealg.CountString"], unfollowed := true, recurses := true, named := ["unicode/utf8.first", "unicode/utf8.acceptRanges", "internal/bytealg.MaxLen", "pomade/mirror.steps"], plainKeys := false, apart := false, laid := [("unicode/utf8.acceptRanges", laid_unicode_utf8_acceptRanges), ("pomade/mirror.steps", laid_pomade_mirror_steps), ("unicode/utf8.first", laid_unicode_utf8_first)] }
def MirrorMoreSaid : Prop := mirrorMoreRow.holds Tryd.pinned (OpenSpec.ofChange mirrorMoreSpec)

/-- ITS FALSE NEIGHBOUR: 'it returns false'. Refute it at one input. -/
def mirrorMoreWrong : ChangeSpec := { name := "mirrorMore", fn := fun _ => fun
  | [d1, d2, d3] => { results := [.lit (.bool false)], args := [d1, d2, d3] }
  | _ => none }
def MirrorMoreWrongFalsely : Prop := mirrorMoreRow.holds Tryd.pinned (OpenSpec.ofChange mirrorMoreWrong)

/-- 'pomadelaw04.MirrorFull': WHATEVER THE INPUT: true; the input reads as it did. -/
def mirrorFullSpec : ChangeSpec := { name := "mirrorFull", fn := fun _ => fun
  | [d1, d2] => { results := [.lit (.bool true)], args := [d1, d2] }
  | _ => none }
def mirrorFullRow : OpenClaim := { program := "ytlmgkmmdaecpdaadoor", sum := "b7427f2e20c61a4978f7cc6d9293d8e391a0b31b8dcb4cd32c810d8a45083675", func := "pomade/pomadelaw04.MirrorFull", spec := "mirrorFull", inPlace := ["internal/bytealg.IndexByteString", "internal/bytealg.IndexString", "internal/bytealg.CountString"], unfollowed := true, recurses := true, named := ["unicode/utf8.first", "unicode/utf8.acceptRanges", "internal/bytealg.MaxLen", "pomade/mirror.steps"], plainKeys := false, apart := false, laid := [("unicode/utf8.acceptRanges", laid_unicode_utf8_acceptRanges), ("pomade/mirror.steps", laid_pomade_mirror_steps), ("unicode/utf8.first", laid_unicode_utf8_first)] }
def MirrorFullSaid : Prop := mirrorFullRow.holds Tryd.pinned (OpenSpec.ofChange mirrorFullSpec)

/-- ITS FALSE NEIGHBOUR: 'it returns false'. Refute it at one input. -/
def mirrorFullWrong : ChangeSpec := { name := "mirrorFull", fn := fun _ => fun
  | [d1, d2] => { results := [.lit (.bool false)], args := [d1, d2] }
  | _ => none }
def MirrorFullWrongFalsely : Prop := mirrorFullRow.holds Tryd.pinned (OpenSpec.ofChange mirrorFullWrong)

/-- 'pomadelaw04.MirrorTurned': WHATEVER THE INPUT: true; the input reads as it did. -/
def mirrorTurnedSpec : ChangeSpec := { name := "mirrorTurned", fn := fun _ => fun
  | [d1, d2] => { results := [.lit (.bool true)], args := [d1, d2] }
  | _ => none }
def mirrorTurnedRow : OpenClaim := { program := "ytlmgkmmdaecpdaadoor", sum := "b7427f2e20c61a4978f7cc6d9293d8e391a0b31b8dcb4cd32c810d8a45083675", func := "pomade/pomadelaw04.MirrorTurned", spec := "mirrorTurned", inPlace := ["internal/bytealg.IndexByteString", "internal/bytealg.IndexString", "internal/bytealg.CountString"], unfollowed := true, recurses := true, named := ["unicode/utf8.first", "unicode/utf8.acceptRanges", "internal/bytealg.MaxLen", "pomade/mirror.steps"], plainKeys := false, apart := false, laid := [("unicode/utf8.acceptRanges", laid_unicode_utf8_acceptRanges), ("pomade/mirror.steps", laid_pomade_mirror_steps), ("unicode/utf8.first", laid_unicode_utf8_first)] }
def MirrorTurnedSaid : Prop := mirrorTurnedRow.holds Tryd.pinned (OpenSpec.ofChange mirrorTurnedSpec)

/-- ITS FALSE NEIGHBOUR: 'it returns false'. Refute it at one input. -/
def mirrorTurnedWrong : ChangeSpec := { name := "mirrorTurned", fn := fun _ => fun
  | [d1, d2] => { results := [.lit (.bool false)], args := [d1, d2] }
  | _ => none }
def MirrorTurnedWrongFalsely : Prop := mirrorTurnedRow.holds Tryd.pinned (OpenSpec.ofChange mirrorTurnedWrong)

/-- 'pomadelaw04.MirrorWinners': WHATEVER THE INPUT: true; the input reads as it did. -/
def mirrorWinnersSpec : ChangeSpec := { name := "mirrorWinners", fn := fun _ => fun
  | [d1, d2, d3] => { results := [.lit (.bool true)], args := [d1, d2, d3] }
  | _ => none }
def mirrorWinnersRow : OpenClaim := { program := "ytlmgkmmdaecpdaadoor", sum := "b7427f2e20c61a4978f7cc6d9293d8e391a0b31b8dcb4cd32c810d8a45083675", func := "pomade/pomadelaw04.MirrorWinners", spec := "mirrorWinners", inPlace := ["internal/bytealg.IndexByteString", "internal/bytealg.IndexString", "internal/bytealg.CountString"], unfollowed := true, recurses := true, named := ["unicode/utf8.first", "unicode/utf8.acceptRanges", "internal/bytealg.MaxLen", "pomade/mirror.steps"], plainKeys := false, apart := false, laid := [("unicode/utf8.acceptRanges", laid_unicode_utf8_acceptRanges), ("pomade/mirror.steps", laid_pomade_mirror_steps), ("unicode/utf8.first", laid_unicode_utf8_first)] }
def MirrorWinnersSaid : Prop := mirrorWinnersRow.holds Tryd.pinned (OpenSpec.ofChange mirrorWinnersSpec)

/-- ITS FALSE NEIGHBOUR: 'it returns false'. Refute it at one input. -/
def mirrorWinnersWrong : ChangeSpec := { name := "mirrorWinners", fn := fun _ => fun
  | [d1, d2, d3] => { results := [.lit (.bool false)], args := [d1, d2, d3] }
  | _ => none }
def MirrorWinnersWrongFalsely : Prop := mirrorWinnersRow.holds Tryd.pinned (OpenSpec.ofChange mirrorWinnersWrong)

/-- 'pomadelaw04.MirrorHex': WHATEVER THE INPUT: true; the input reads as it did. -/
def mirrorHexSpec : ChangeSpec := { name := "mirrorHex", fn := fun _ => fun
  | [d1, d2, d3] => { results := [.lit (.bool true)], args := [d1, d2, d3] }
  | _ => none }
def mirrorHexRow : OpenClaim := { program := "ytlmgkmmdaecpdaadoor", sum := "b7427f2e20c61a4978f7cc6d9293d8e391a0b31b8dcb4cd32c810d8a45083675", func := "pomade/pomadelaw04.MirrorHex", spec := "mirrorHex", inPlace := ["internal/bytealg.IndexByteString", "internal/bytealg.IndexString", "internal/bytealg.CountString"], unfollowed := true, recurses := true, named := ["unicode/utf8.first", "unicode/utf8.acceptRanges", "internal/bytealg.MaxLen", "pomade/mirror.steps"], plainKeys := false, apart := false, laid := [("unicode/utf8.acceptRanges", laid_unicode_utf8_acceptRanges), ("pomade/mirror.steps", laid_pomade_mirror_steps), ("unicode/utf8.first", laid_unicode_utf8_first)] }
def MirrorHexSaid : Prop := mirrorHexRow.holds Tryd.pinned (OpenSpec.ofChange mirrorHexSpec)

/-- ITS FALSE NEIGHBOUR: 'it returns false'. Refute it at one input. -/
def mirrorHexWrong : ChangeSpec := { name := "mirrorHex", fn := fun _ => fun
  | [d1, d2, d3] => { results := [.lit (.bool false)], args := [d1, d2, d3] }
  | _ => none }
def MirrorHexWrongFalsely : Prop := mirrorHexRow.holds Tryd.pinned (OpenSpec.ofChange mirrorHexWrong)

/-- 'pomadelaw04.MirrorDoors': WHATEVER THE INPUT: true; the input reads as it did. -/
def mirrorDoorsSpec : ChangeSpec := { name := "mirrorDoors", fn := fun _ => fun
  | [d1, d2] => { results := [.lit (.bool true)], args := [d1, d2] }
  | _ => none }
def mirrorDoorsRow : OpenClaim := { program := "ytlmgkmmdaecpdaadoor", sum := "b7427f2e20c61a4978f7cc6d9293d8e391a0b31b8dcb4cd32c810d8a45083675", func := "pomade/pomadelaw04.MirrorDoors", spec := "mirrorDoors", inPlace := ["internal/bytealg.IndexByteString", "internal/bytealg.IndexString", "internal/bytealg.CountString"], unfollowed := true, recurses := true, named := ["unicode/utf8.first", "unicode/utf8.acceptRanges", "internal/bytealg.MaxLen", "pomade/mirror.steps"], plainKeys := false, apart := false, laid := [("unicode/utf8.acceptRanges", laid_unicode_utf8_acceptRanges), ("pomade/mirror.steps", laid_pomade_mirror_steps), ("unicode/utf8.first", laid_unicode_utf8_first)] }
def MirrorDoorsSaid : Prop := mirrorDoorsRow.holds Tryd.pinned (OpenSpec.ofChange mirrorDoorsSpec)

/-- ITS FALSE NEIGHBOUR: 'it returns false'. Refute it at one input. -/
def mirrorDoorsWrong : ChangeSpec := { name := "mirrorDoors", fn := fun _ => fun
  | [d1, d2] => { results := [.lit (.bool false)], args := [d1, d2] }
  | _ => none }
def MirrorDoorsWrongFalsely : Prop := mirrorDoorsRow.holds Tryd.pinned (OpenSpec.ofChange mirrorDoorsWrong)

/-- 'pomadelaw04.MirrorBorder': WHATEVER THE INPUT: true; the input reads as it did. -/
def mirrorBorderSpec : ChangeSpec := { name := "mirrorBorder", fn := fun _ => fun
  | [d1, d2] => { results := [.lit (.bool true)], args := [d1, d2] }
  | _ => none }
def mirrorBorderRow : OpenClaim := { program := "ytlmgkmmdaecpdaadoor", sum := "b7427f2e20c61a4978f7cc6d9293d8e391a0b31b8dcb4cd32c810d8a45083675", func := "pomade/pomadelaw04.MirrorBorder", spec := "mirrorBorder", inPlace := ["internal/bytealg.IndexByteString", "internal/bytealg.IndexString", "internal/bytealg.CountString"], unfollowed := true, recurses := true, named := ["unicode/utf8.first", "unicode/utf8.acceptRanges", "internal/bytealg.MaxLen", "pomade/mirror.steps"], plainKeys := false, apart := false, laid := [("unicode/utf8.acceptRanges", laid_unicode_utf8_acceptRanges), ("pomade/mirror.steps", laid_pomade_mirror_steps), ("unicode/utf8.first", laid_unicode_utf8_first)] }
def MirrorBorderSaid : Prop := mirrorBorderRow.holds Tryd.pinned (OpenSpec.ofChange mirrorBorderSpec)

/-- ITS FALSE NEIGHBOUR: 'it returns false'. Refute it at one input. -/
def mirrorBorderWrong : ChangeSpec := { name := "mirrorBorder", fn := fun _ => fun
  | [d1, d2] => { results := [.lit (.bool false)], args := [d1, d2] }
  | _ => none }
def MirrorBorderWrongFalsely : Prop := mirrorBorderRow.holds Tryd.pinned (OpenSpec.ofChange mirrorBorderWrong)

/-- 'pomadelaw04.MirrorWalks': WHATEVER THE INPUT: true; the input reads as it did. -/
def mirrorWalksSpec : ChangeSpec := { name := "mirrorWalks", fn := fun _ => fun
  | [d1, d2] => { results := [.lit (.bool true)], args := [d1, d2] }
  | _ => none }
def mirrorWalksRow : OpenClaim := { program := "ytlmgkmmdaecpdaadoor", sum := "b7427f2e20c61a4978f7cc6d9293d8e391a0b31b8dcb4cd32c810d8a45083675", func := "pomade/pomadelaw04.MirrorWalks", spec := "mirrorWalks", inPlace := ["internal/bytealg.IndexByteString", "internal/bytealg.IndexString", "internal/bytealg.CountString"], unfollowed := true, recurses := true, named := ["unicode/utf8.first", "unicode/utf8.acceptRanges", "internal/bytealg.MaxLen", "pomade/mirror.steps"], plainKeys := false, apart := false, laid := [("unicode/utf8.acceptRanges", laid_unicode_utf8_acceptRanges), ("pomade/mirror.steps", laid_pomade_mirror_steps), ("unicode/utf8.first", laid_unicode_utf8_first)] }
def MirrorWalksSaid : Prop := mirrorWalksRow.holds Tryd.pinned (OpenSpec.ofChange mirrorWalksSpec)

/-- ITS FALSE NEIGHBOUR: 'it returns false'. Refute it at one input. -/
def mirrorWalksWrong : ChangeSpec := { name := "mirrorWalks", fn := fun _ => fun
  | [d1, d2] => { results := [.lit (.bool false)], args := [d1, d2] }
  | _ => none }
def MirrorWalksWrongFalsely : Prop := mirrorWalksRow.holds Tryd.pinned (OpenSpec.ofChange mirrorWalksWrong)

/-- 'pomadelaw04.MirrorSperner': WHATEVER THE INPUT: true; the input reads as it did. -/
def mirrorSpernerSpec : ChangeSpec := { name := "mirrorSperner", fn := fun _ => fun
  | [d1, d2] => { results := [.lit (.bool true)], args := [d1, d2] }
  | _ => none }
def mirrorSpernerRow : OpenClaim := { program := "ytlmgkmmdaecpdaadoor", sum := "b7427f2e20c61a4978f7cc6d9293d8e391a0b31b8dcb4cd32c810d8a45083675", func := "pomade/pomadelaw04.MirrorSperner", spec := "mirrorSperner", inPlace := ["internal/bytealg.IndexByteString", "internal/bytealg.IndexString", "internal/bytealg.CountString"], unfollowed := true, recurses := true, named := ["unicode/utf8.first", "unicode/utf8.acceptRanges", "internal/bytealg.MaxLen", "pomade/mirror.steps"], plainKeys := false, apart := false, laid := [("unicode/utf8.acceptRanges", laid_unicode_utf8_acceptRanges), ("pomade/mirror.steps", laid_pomade_mirror_steps), ("unicode/utf8.first", laid_unicode_utf8_first)] }
def MirrorSpernerSaid : Prop := mirrorSpernerRow.holds Tryd.pinned (OpenSpec.ofChange mirrorSpernerSpec)

/-- ITS FALSE NEIGHBOUR: 'it returns false'. Refute it at one input. -/
def mirrorSpernerWrong : ChangeSpec := { name := "mirrorSperner", fn := fun _ => fun
  | [d1, d2] => { results := [.lit (.bool false)], args := [d1, d2] }
  | _ => none }
def MirrorSpernerWrongFalsely : Prop := mirrorSpernerRow.holds Tryd.pinned (OpenSpec.ofChange mirrorSpernerWrong)

/- THE SECOND FORM. 'bulk': how many values and letters a reading holds, each counted each time it is reached (what is shared counts as often as it is met; a slice's spare places count too). A statement '..UptoSaid' is the law's where the arguments, and the package variables that the reading takes, are together of bulk at most 1048576: NARROWER than '..Said'. Prove '..Said' where nothing that the law and all that it calls make is longer than what came in: it says more and counts as full. Else prove '..UptoSaid'. A law counts once. -/
mutual
def uptoBulk {H : Type} : DataW H → Nat
  | .lit (.string bytes) => bytes.length + 1
  | .lit _ => 1
  | .nil => 1
  | .ptr d => uptoBulk d + 1
  | .slice elems spare => uptoBulkAll elems + uptoBulkAll spare + 1
  | .agg parts => uptoBulkAll parts + 1
  | .iface _ d => uptoBulk d + 1
  | .map entries => uptoBulkEntries entries + 1
  | .held _ => 1
def uptoBulkAll {H : Type} : List (DataW H) → Nat
  | [] => 0
  | d :: r => uptoBulk d + uptoBulkAll r
def uptoBulkEntries {H : Type} : List (Lit × DataW H) → Nat
  | [] => 0
  | x :: r => uptoBulkEntry x + uptoBulkEntries r
def uptoBulkEntry {H : Type} : Lit × DataW H → Nat
  | (.string bytes, d) => bytes.length + uptoBulk d + 1
  | (_, d) => uptoBulk d + 1
 end
def uptoSmall : (H : Type) → List (DataW H) → Bool := fun _ ds => decide (uptoBulkAll ds ≤ 1048576)
def OpenSpec.upto (s : _root_.Go.ChangeSpec) : _root_.Go.OpenSpec := { _root_.Go.OpenSpec.ofChange s with cond := some uptoSmall }

/-- 'pomadelaw04.MirrorWins', WHERE WHAT IT READS IS OF BULK AT MOST 1048576: true; the input reads as it did. -/
def mirrorWinsUptoRow : OpenClaim := { program := "ytlmgkmmdaecpdaadoor", sum := "b7427f2e20c61a4978f7cc6d9293d8e391a0b31b8dcb4cd32c810d8a45083675", func := "pomade/pomadelaw04.MirrorWins", spec := "mirrorWins", inPlace := ["internal/bytealg.IndexByteString", "internal/bytealg.IndexString", "internal/bytealg.CountString"], unfollowed := true, recurses := true, named := ["unicode/utf8.first", "unicode/utf8.acceptRanges", "internal/bytealg.MaxLen", "pomade/mirror.steps"], plainKeys := false, apart := false, laid := [("unicode/utf8.acceptRanges", laid_unicode_utf8_acceptRanges), ("pomade/mirror.steps", laid_pomade_mirror_steps), ("unicode/utf8.first", laid_unicode_utf8_first)], narrowed := true }
def MirrorWinsUptoSaid : Prop := mirrorWinsUptoRow.holds Tryd.pinned (OpenSpec.upto mirrorWinsSpec)

/-- 'pomadelaw04.MirrorNeeds', WHERE WHAT IT READS IS OF BULK AT MOST 1048576: true; the input reads as it did. -/
def mirrorNeedsUptoRow : OpenClaim := { program := "ytlmgkmmdaecpdaadoor", sum := "b7427f2e20c61a4978f7cc6d9293d8e391a0b31b8dcb4cd32c810d8a45083675", func := "pomade/pomadelaw04.MirrorNeeds", spec := "mirrorNeeds", inPlace := ["internal/bytealg.IndexByteString", "internal/bytealg.IndexString", "internal/bytealg.CountString"], unfollowed := true, recurses := true, named := ["unicode/utf8.first", "unicode/utf8.acceptRanges", "internal/bytealg.MaxLen", "pomade/mirror.steps"], plainKeys := false, apart := false, laid := [("unicode/utf8.acceptRanges", laid_unicode_utf8_acceptRanges), ("pomade/mirror.steps", laid_pomade_mirror_steps), ("unicode/utf8.first", laid_unicode_utf8_first)], narrowed := true }
def MirrorNeedsUptoSaid : Prop := mirrorNeedsUptoRow.holds Tryd.pinned (OpenSpec.upto mirrorNeedsSpec)

/-- 'pomadelaw04.MirrorPlayed', WHERE WHAT IT READS IS OF BULK AT MOST 1048576: true; the input reads as it did. -/
def mirrorPlayedUptoRow : OpenClaim := { program := "ytlmgkmmdaecpdaadoor", sum := "b7427f2e20c61a4978f7cc6d9293d8e391a0b31b8dcb4cd32c810d8a45083675", func := "pomade/pomadelaw04.MirrorPlayed", spec := "mirrorPlayed", inPlace := ["internal/bytealg.IndexByteString", "internal/bytealg.IndexString", "internal/bytealg.CountString"], unfollowed := true, recurses := true, named := ["unicode/utf8.first", "unicode/utf8.acceptRanges", "internal/bytealg.MaxLen", "pomade/mirror.steps"], plainKeys := false, apart := false, laid := [("unicode/utf8.acceptRanges", laid_unicode_utf8_acceptRanges), ("pomade/mirror.steps", laid_pomade_mirror_steps), ("unicode/utf8.first", laid_unicode_utf8_first)], narrowed := true }
def MirrorPlayedUptoSaid : Prop := mirrorPlayedUptoRow.holds Tryd.pinned (OpenSpec.upto mirrorPlayedSpec)

/-- 'pomadelaw04.MirrorFlipped', WHERE WHAT IT READS IS OF BULK AT MOST 1048576: true; the input reads as it did. -/
def mirrorFlippedUptoRow : OpenClaim := { program := "ytlmgkmmdaecpdaadoor", sum := "b7427f2e20c61a4978f7cc6d9293d8e391a0b31b8dcb4cd32c810d8a45083675", func := "pomade/pomadelaw04.MirrorFlipped", spec := "mirrorFlipped", inPlace := ["internal/bytealg.IndexByteString", "internal/bytealg.IndexString", "internal/bytealg.CountString"], unfollowed := true, recurses := true, named := ["unicode/utf8.first", "unicode/utf8.acceptRanges", "internal/bytealg.MaxLen", "pomade/mirror.steps"], plainKeys := false, apart := false, laid := [("unicode/utf8.acceptRanges", laid_unicode_utf8_acceptRanges), ("pomade/mirror.steps", laid_pomade_mirror_steps), ("unicode/utf8.first", laid_unicode_utf8_first)], narrowed := true }
def MirrorFlippedUptoSaid : Prop := mirrorFlippedUptoRow.holds Tryd.pinned (OpenSpec.upto mirrorFlippedSpec)

/-- 'pomadelaw04.MirrorMore', WHERE WHAT IT READS IS OF BULK AT MOST 1048576: true; the input reads as it did. -/
def mirrorMoreUptoRow : OpenClaim := { program := "ytlmgkmmdaecpdaadoor", sum := "b7427f2e20c61a4978f7cc6d9293d8e391a0b31b8dcb4cd32c810d8a45083675", func := "pomade/pomadelaw04.MirrorMore", spec := "mirrorMore", inPlace := ["internal/bytealg.IndexByteString", "internal/bytealg.IndexString", "internal/bytealg.CountString"], unfollowed := true, recurses := true, named := ["unicode/utf8.first", "unicode/utf8.acceptRanges", "internal/bytealg.MaxLen", "pomade/mirror.steps"], plainKeys := false, apart := false, laid := [("unicode/utf8.acceptRanges", laid_unicode_utf8_acceptRanges), ("pomade/mirror.steps", laid_pomade_mirror_steps), ("unicode/utf8.first", laid_unicode_utf8_first)], narrowed := true }
def MirrorMoreUptoSaid : Prop := mirrorMoreUptoRow.holds Tryd.pinned (OpenSpec.upto mirrorMoreSpec)

/-- 'pomadelaw04.MirrorFull', WHERE WHAT IT READS IS OF BULK AT MOST 1048576: true; the input reads as it did. -/
def mirrorFullUptoRow : OpenClaim := { program := "ytlmgkmmdaecpdaadoor", sum := "b7427f2e20c61a4978f7cc6d9293d8e391a0b31b8dcb4cd32c810d8a45083675", func := "pomade/pomadelaw04.MirrorFull", spec := "mirrorFull", inPlace := ["internal/bytealg.IndexByteString", "internal/bytealg.IndexString", "internal/bytealg.CountString"], unfollowed := true, recurses := true, named := ["unicode/utf8.first", "unicode/utf8.acceptRanges", "internal/bytealg.MaxLen", "pomade/mirror.steps"], plainKeys := false, apart := false, laid := [("unicode/utf8.acceptRanges", laid_unicode_utf8_acceptRanges), ("pomade/mirror.steps", laid_pomade_mirror_steps), ("unicode/utf8.first", laid_unicode_utf8_first)], narrowed := true }
def MirrorFullUptoSaid : Prop := mirrorFullUptoRow.holds Tryd.pinned (OpenSpec.upto mirrorFullSpec)

/-- 'pomadelaw04.MirrorTurned', WHERE WHAT IT READS IS OF BULK AT MOST 1048576: true; the input reads as it did. -/
def mirrorTurnedUptoRow : OpenClaim := { program := "ytlmgkmmdaecpdaadoor", sum := "b7427f2e20c61a4978f7cc6d9293d8e391a0b31b8dcb4cd32c810d8a45083675", func := "pomade/pomadelaw04.MirrorTurned", spec := "mirrorTurned", inPlace := ["internal/bytealg.IndexByteString", "internal/bytealg.IndexString", "internal/bytealg.CountString"], unfollowed := true, recurses := true, named := ["unicode/utf8.first", "unicode/utf8.acceptRanges", "internal/bytealg.MaxLen", "pomade/mirror.steps"], plainKeys := false, apart := false, laid := [("unicode/utf8.acceptRanges", laid_unicode_utf8_acceptRanges), ("pomade/mirror.steps", laid_pomade_mirror_steps), ("unicode/utf8.first", laid_unicode_utf8_first)], narrowed := true }
def MirrorTurnedUptoSaid : Prop := mirrorTurnedUptoRow.holds Tryd.pinned (OpenSpec.upto mirrorTurnedSpec)

/-- 'pomadelaw04.MirrorWinners', WHERE WHAT IT READS IS OF BULK AT MOST 1048576: true; the input reads as it did. -/
def mirrorWinnersUptoRow : OpenClaim := { program := "ytlmgkmmdaecpdaadoor", sum := "b7427f2e20c61a4978f7cc6d9293d8e391a0b31b8dcb4cd32c810d8a45083675", func := "pomade/pomadelaw04.MirrorWinners", spec := "mirrorWinners", inPlace := ["internal/bytealg.IndexByteString", "internal/bytealg.IndexString", "internal/bytealg.CountString"], unfollowed := true, recurses := true, named := ["unicode/utf8.first", "unicode/utf8.acceptRanges", "internal/bytealg.MaxLen", "pomade/mirror.steps"], plainKeys := false, apart := false, laid := [("unicode/utf8.acceptRanges", laid_unicode_utf8_acceptRanges), ("pomade/mirror.steps", laid_pomade_mirror_steps), ("unicode/utf8.first", laid_unicode_utf8_first)], narrowed := true }
def MirrorWinnersUptoSaid : Prop := mirrorWinnersUptoRow.holds Tryd.pinned (OpenSpec.upto mirrorWinnersSpec)

/-- 'pomadelaw04.MirrorHex', WHERE WHAT IT READS IS OF BULK AT MOST 1048576: true; the input reads as it did. -/
def mirrorHexUptoRow : OpenClaim := { program := "ytlmgkmmdaecpdaadoor", sum := "b7427f2e20c61a4978f7cc6d9293d8e391a0b31b8dcb4cd32c810d8a45083675", func := "pomade/pomadelaw04.MirrorHex", spec := "mirrorHex", inPlace := ["internal/bytealg.IndexByteString", "internal/bytealg.IndexString", "internal/bytealg.CountString"], unfollowed := true, recurses := true, named := ["unicode/utf8.first", "unicode/utf8.acceptRanges", "internal/bytealg.MaxLen", "pomade/mirror.steps"], plainKeys := false, apart := false, laid := [("unicode/utf8.acceptRanges", laid_unicode_utf8_acceptRanges), ("pomade/mirror.steps", laid_pomade_mirror_steps), ("unicode/utf8.first", laid_unicode_utf8_first)], narrowed := true }
def MirrorHexUptoSaid : Prop := mirrorHexUptoRow.holds Tryd.pinned (OpenSpec.upto mirrorHexSpec)

/-- 'pomadelaw04.MirrorDoors', WHERE WHAT IT READS IS OF BULK AT MOST 1048576: true; the input reads as it did. -/
def mirrorDoorsUptoRow : OpenClaim := { program := "ytlmgkmmdaecpdaadoor", sum := "b7427f2e20c61a4978f7cc6d9293d8e391a0b31b8dcb4cd32c810d8a45083675", func := "pomade/pomadelaw04.MirrorDoors", spec := "mirrorDoors", inPlace := ["internal/bytealg.IndexByteString", "internal/bytealg.IndexString", "internal/bytealg.CountString"], unfollowed := true, recurses := true, named := ["unicode/utf8.first", "unicode/utf8.acceptRanges", "internal/bytealg.MaxLen", "pomade/mirror.steps"], plainKeys := false, apart := false, laid := [("unicode/utf8.acceptRanges", laid_unicode_utf8_acceptRanges), ("pomade/mirror.steps", laid_pomade_mirror_steps), ("unicode/utf8.first", laid_unicode_utf8_first)], narrowed := true }
def MirrorDoorsUptoSaid : Prop := mirrorDoorsUptoRow.holds Tryd.pinned (OpenSpec.upto mirrorDoorsSpec)

/-- 'pomadelaw04.MirrorBorder', WHERE WHAT IT READS IS OF BULK AT MOST 1048576: true; the input reads as it did. -/
def mirrorBorderUptoRow : OpenClaim := { program := "ytlmgkmmdaecpdaadoor", sum := "b7427f2e20c61a4978f7cc6d9293d8e391a0b31b8dcb4cd32c810d8a45083675", func := "pomade/pomadelaw04.MirrorBorder", spec := "mirrorBorder", inPlace := ["internal/bytealg.IndexByteString", "internal/bytealg.IndexString", "internal/bytealg.CountString"], unfollowed := true, recurses := true, named := ["unicode/utf8.first", "unicode/utf8.acceptRanges", "internal/bytealg.MaxLen", "pomade/mirror.steps"], plainKeys := false, apart := false, laid := [("unicode/utf8.acceptRanges", laid_unicode_utf8_acceptRanges), ("pomade/mirror.steps", laid_pomade_mirror_steps), ("unicode/utf8.first", laid_unicode_utf8_first)], narrowed := true }
def MirrorBorderUptoSaid : Prop := mirrorBorderUptoRow.holds Tryd.pinned (OpenSpec.upto mirrorBorderSpec)

/-- 'pomadelaw04.MirrorWalks', WHERE WHAT IT READS IS OF BULK AT MOST 1048576: true; the input reads as it did. -/
def mirrorWalksUptoRow : OpenClaim := { program := "ytlmgkmmdaecpdaadoor", sum := "b7427f2e20c61a4978f7cc6d9293d8e391a0b31b8dcb4cd32c810d8a45083675", func := "pomade/pomadelaw04.MirrorWalks", spec := "mirrorWalks", inPlace := ["internal/bytealg.IndexByteString", "internal/bytealg.IndexString", "internal/bytealg.CountString"], unfollowed := true, recurses := true, named := ["unicode/utf8.first", "unicode/utf8.acceptRanges", "internal/bytealg.MaxLen", "pomade/mirror.steps"], plainKeys := false, apart := false, laid := [("unicode/utf8.acceptRanges", laid_unicode_utf8_acceptRanges), ("pomade/mirror.steps", laid_pomade_mirror_steps), ("unicode/utf8.first", laid_unicode_utf8_first)], narrowed := true }
def MirrorWalksUptoSaid : Prop := mirrorWalksUptoRow.holds Tryd.pinned (OpenSpec.upto mirrorWalksSpec)

/-- 'pomadelaw04.MirrorSperner', WHERE WHAT IT READS IS OF BULK AT MOST 1048576: true; the input reads as it did. -/
def mirrorSpernerUptoRow : OpenClaim := { program := "ytlmgkmmdaecpdaadoor", sum := "b7427f2e20c61a4978f7cc6d9293d8e391a0b31b8dcb4cd32c810d8a45083675", func := "pomade/pomadelaw04.MirrorSperner", spec := "mirrorSperner", inPlace := ["internal/bytealg.IndexByteString", "internal/bytealg.IndexString", "internal/bytealg.CountString"], unfollowed := true, recurses := true, named := ["unicode/utf8.first", "unicode/utf8.acceptRanges", "internal/bytealg.MaxLen", "pomade/mirror.steps"], plainKeys := false, apart := false, laid := [("unicode/utf8.acceptRanges", laid_unicode_utf8_acceptRanges), ("pomade/mirror.steps", laid_pomade_mirror_steps), ("unicode/utf8.first", laid_unicode_utf8_first)], narrowed := true }
def MirrorSpernerUptoSaid : Prop := mirrorSpernerUptoRow.holds Tryd.pinned (OpenSpec.upto mirrorSpernerSpec)

end Rows
end Go.Proofs.YtlmgkmmdaecpdaaDoor
