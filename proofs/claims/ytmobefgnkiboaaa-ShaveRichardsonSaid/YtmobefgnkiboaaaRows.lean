/-
  No cell of these rows narrows 'for every input' (looked for: loops, veiled, ifaces, maps, wideKeys, modest, calm, conditions, laid).
  DERIVED. THE GIVEN ROWS OF THIS SEAT. 11 by the template 'for every input the law returns true; each argument reads behind the call as it read before'; 0 by the template 'total and deterministic' (their statements: YtmobefgnkiboaaaTotals.lean).
  GIVEN WITH THE SEED: the statements are not yours to turn. If you find one false, say at which input.
  Laid BY PROGRAM, IN A SANDBOX (cutbox-rows.mjs): the forced cells as the released guide's own fill.sh prints them over the translation 41b13a922caf6b87… (all of the seat's roots in one cut). By AI agents, Wed Nov 11 2026. No macro, syntax, notation, axiom, sorry.
-/
import Derived.Test.YtmobefgnkiboaaaChecked
import GoSem.Claim
import GoSem.ClaimJoined
import GoSem.ClaimMapViews
import Derived.JoinedTies
import Derived.KernelRfl
namespace Go.Proofs.Ytmobefgnkiboaaa
/- THE CELL 'sum', in the pinned program and in every row, IS THE sha256 OF THE DUMP (.gsa) THAT YtmobefgnkiboaaaProg.lean LOADS. Nothing in Lean hashes anything: it is a label: what it is worth is what the hold of that sum in a sandbox is worth. -/
noncomputable def Try.pinned : Pinned := { name := "ytmobefgnkiboaaa", sum := "41b13a922caf6b8704c14251960e9bb4ab9ad943466e7a7a8f76166e3561745d", checked := Try.checked }
namespace Rows
def none {H : Type} : Left H := { results := [], args := [] }

/-- 'pomadelaw02.ShaveRanks': WHATEVER THE INPUT: true; the input reads as it did. -/
def shaveRanksSpec : ChangeSpec := { name := "shaveRanks", fn := fun _ => fun
  | [d1, d2] => { results := [.lit (.bool true)], args := [d1, d2] }
  | _ => none }
def shaveRanksRow : OpenClaim := { program := "ytmobefgnkiboaaa", sum := "41b13a922caf6b8704c14251960e9bb4ab9ad943466e7a7a8f76166e3561745d", func := "pomade/pomadelaw02.ShaveRanks", spec := "shaveRanks", inPlace := ["internal/abi.NoEscape", "internal/bytealg.MakeNoZero"], unfollowed := true, recurses := true, apart := false }
def ShaveRanksSaid : Prop := shaveRanksRow.holds Try.pinned (OpenSpec.ofChange shaveRanksSpec)

/-- ITS FALSE NEIGHBOUR: 'it returns false'. Refute it at one input. -/
def shaveRanksWrong : ChangeSpec := { name := "shaveRanks", fn := fun _ => fun
  | [d1, d2] => { results := [.lit (.bool false)], args := [d1, d2] }
  | _ => none }
def ShaveRanksWrongFalsely : Prop := shaveRanksRow.holds Try.pinned (OpenSpec.ofChange shaveRanksWrong)

/-- 'pomadelaw02.ShaveSays': WHATEVER THE INPUT: true; the input reads as it did. -/
def shaveSaysSpec : ChangeSpec := { name := "shaveSays", fn := fun _ => fun
  | [d1, d2] => { results := [.lit (.bool true)], args := [d1, d2] }
  | _ => none }
def shaveSaysRow : OpenClaim := { program := "ytmobefgnkiboaaa", sum := "41b13a922caf6b8704c14251960e9bb4ab9ad943466e7a7a8f76166e3561745d", func := "pomade/pomadelaw02.ShaveSays", spec := "shaveSays", inPlace := ["internal/abi.NoEscape", "internal/bytealg.MakeNoZero"], unfollowed := true, recurses := true, apart := false }
def ShaveSaysSaid : Prop := shaveSaysRow.holds Try.pinned (OpenSpec.ofChange shaveSaysSpec)

/-- ITS FALSE NEIGHBOUR: 'it returns false'. Refute it at one input. -/
def shaveSaysWrong : ChangeSpec := { name := "shaveSays", fn := fun _ => fun
  | [d1, d2] => { results := [.lit (.bool false)], args := [d1, d2] }
  | _ => none }
def ShaveSaysWrongFalsely : Prop := shaveSaysRow.holds Try.pinned (OpenSpec.ofChange shaveSaysWrong)

/-- 'pomadelaw02.ShaveAcyclic': WHATEVER THE INPUT: true; the input reads as it did. -/
def shaveAcyclicSpec : ChangeSpec := { name := "shaveAcyclic", fn := fun _ => fun
  | [d1, d2] => { results := [.lit (.bool true)], args := [d1, d2] }
  | _ => none }
def shaveAcyclicRow : OpenClaim := { program := "ytmobefgnkiboaaa", sum := "41b13a922caf6b8704c14251960e9bb4ab9ad943466e7a7a8f76166e3561745d", func := "pomade/pomadelaw02.ShaveAcyclic", spec := "shaveAcyclic", inPlace := ["internal/abi.NoEscape", "internal/bytealg.MakeNoZero"], unfollowed := true, recurses := true, apart := false }
def ShaveAcyclicSaid : Prop := shaveAcyclicRow.holds Try.pinned (OpenSpec.ofChange shaveAcyclicSpec)

/-- ITS FALSE NEIGHBOUR: 'it returns false'. Refute it at one input. -/
def shaveAcyclicWrong : ChangeSpec := { name := "shaveAcyclic", fn := fun _ => fun
  | [d1, d2] => { results := [.lit (.bool false)], args := [d1, d2] }
  | _ => none }
def ShaveAcyclicWrongFalsely : Prop := shaveAcyclicRow.holds Try.pinned (OpenSpec.ofChange shaveAcyclicWrong)

/-- 'pomadelaw02.ShaveSemi': WHATEVER THE INPUT: true; the input reads as it did. -/
def shaveSemiSpec : ChangeSpec := { name := "shaveSemi", fn := fun _ => fun
  | [d1, d2] => { results := [.lit (.bool true)], args := [d1, d2] }
  | _ => none }
def shaveSemiRow : OpenClaim := { program := "ytmobefgnkiboaaa", sum := "41b13a922caf6b8704c14251960e9bb4ab9ad943466e7a7a8f76166e3561745d", func := "pomade/pomadelaw02.ShaveSemi", spec := "shaveSemi", inPlace := ["internal/abi.NoEscape", "internal/bytealg.MakeNoZero"], unfollowed := true, recurses := true, apart := false }
def ShaveSemiSaid : Prop := shaveSemiRow.holds Try.pinned (OpenSpec.ofChange shaveSemiSpec)

/-- ITS FALSE NEIGHBOUR: 'it returns false'. Refute it at one input. -/
def shaveSemiWrong : ChangeSpec := { name := "shaveSemi", fn := fun _ => fun
  | [d1, d2] => { results := [.lit (.bool false)], args := [d1, d2] }
  | _ => none }
def ShaveSemiWrongFalsely : Prop := shaveSemiRow.holds Try.pinned (OpenSpec.ofChange shaveSemiWrong)

/-- 'pomadelaw02.ShaveNeumann': WHATEVER THE INPUT: true; the input reads as it did. -/
def shaveNeumannSpec : ChangeSpec := { name := "shaveNeumann", fn := fun _ => fun
  | [d1, d2] => { results := [.lit (.bool true)], args := [d1, d2] }
  | _ => none }
def shaveNeumannRow : OpenClaim := { program := "ytmobefgnkiboaaa", sum := "41b13a922caf6b8704c14251960e9bb4ab9ad943466e7a7a8f76166e3561745d", func := "pomade/pomadelaw02.ShaveNeumann", spec := "shaveNeumann", inPlace := ["internal/abi.NoEscape", "internal/bytealg.MakeNoZero"], unfollowed := true, recurses := true, apart := false }
def ShaveNeumannSaid : Prop := shaveNeumannRow.holds Try.pinned (OpenSpec.ofChange shaveNeumannSpec)

/-- ITS FALSE NEIGHBOUR: 'it returns false'. Refute it at one input. -/
def shaveNeumannWrong : ChangeSpec := { name := "shaveNeumann", fn := fun _ => fun
  | [d1, d2] => { results := [.lit (.bool false)], args := [d1, d2] }
  | _ => none }
def ShaveNeumannWrongFalsely : Prop := shaveNeumannRow.holds Try.pinned (OpenSpec.ofChange shaveNeumannWrong)

/-- 'pomadelaw02.ShaveKernels': WHATEVER THE INPUT: true; the input reads as it did. -/
def shaveKernelsSpec : ChangeSpec := { name := "shaveKernels", fn := fun _ => fun
  | [d1, d2, d3] => { results := [.lit (.bool true)], args := [d1, d2, d3] }
  | _ => none }
def shaveKernelsRow : OpenClaim := { program := "ytmobefgnkiboaaa", sum := "41b13a922caf6b8704c14251960e9bb4ab9ad943466e7a7a8f76166e3561745d", func := "pomade/pomadelaw02.ShaveKernels", spec := "shaveKernels", inPlace := ["internal/abi.NoEscape", "internal/bytealg.MakeNoZero"], unfollowed := true, recurses := true, apart := false }
def ShaveKernelsSaid : Prop := shaveKernelsRow.holds Try.pinned (OpenSpec.ofChange shaveKernelsSpec)

/-- ITS FALSE NEIGHBOUR: 'it returns false'. Refute it at one input. -/
def shaveKernelsWrong : ChangeSpec := { name := "shaveKernels", fn := fun _ => fun
  | [d1, d2, d3] => { results := [.lit (.bool false)], args := [d1, d2, d3] }
  | _ => none }
def ShaveKernelsWrongFalsely : Prop := shaveKernelsRow.holds Try.pinned (OpenSpec.ofChange shaveKernelsWrong)

/-- 'pomadelaw02.ShaveRanked': WHATEVER THE INPUT: true; the input reads as it did. -/
def shaveRankedSpec : ChangeSpec := { name := "shaveRanked", fn := fun _ => fun
  | [d1, d2, d3] => { results := [.lit (.bool true)], args := [d1, d2, d3] }
  | _ => none }
def shaveRankedRow : OpenClaim := { program := "ytmobefgnkiboaaa", sum := "41b13a922caf6b8704c14251960e9bb4ab9ad943466e7a7a8f76166e3561745d", func := "pomade/pomadelaw02.ShaveRanked", spec := "shaveRanked", inPlace := ["internal/abi.NoEscape", "internal/bytealg.MakeNoZero"], unfollowed := true, recurses := true, apart := false }
def ShaveRankedSaid : Prop := shaveRankedRow.holds Try.pinned (OpenSpec.ofChange shaveRankedSpec)

/-- ITS FALSE NEIGHBOUR: 'it returns false'. Refute it at one input. -/
def shaveRankedWrong : ChangeSpec := { name := "shaveRanked", fn := fun _ => fun
  | [d1, d2, d3] => { results := [.lit (.bool false)], args := [d1, d2, d3] }
  | _ => none }
def ShaveRankedWrongFalsely : Prop := shaveRankedRow.holds Try.pinned (OpenSpec.ofChange shaveRankedWrong)

/-- 'pomadelaw02.ShavePerfect': WHATEVER THE INPUT: true; the input reads as it did. -/
def shavePerfectSpec : ChangeSpec := { name := "shavePerfect", fn := fun _ => fun
  | [d1, d2] => { results := [.lit (.bool true)], args := [d1, d2] }
  | _ => none }
def shavePerfectRow : OpenClaim := { program := "ytmobefgnkiboaaa", sum := "41b13a922caf6b8704c14251960e9bb4ab9ad943466e7a7a8f76166e3561745d", func := "pomade/pomadelaw02.ShavePerfect", spec := "shavePerfect", inPlace := ["internal/abi.NoEscape", "internal/bytealg.MakeNoZero"], unfollowed := true, recurses := true, apart := false }
def ShavePerfectSaid : Prop := shavePerfectRow.holds Try.pinned (OpenSpec.ofChange shavePerfectSpec)

/-- ITS FALSE NEIGHBOUR: 'it returns false'. Refute it at one input. -/
def shavePerfectWrong : ChangeSpec := { name := "shavePerfect", fn := fun _ => fun
  | [d1, d2] => { results := [.lit (.bool false)], args := [d1, d2] }
  | _ => none }
def ShavePerfectWrongFalsely : Prop := shavePerfectRow.holds Try.pinned (OpenSpec.ofChange shavePerfectWrong)

/-- 'pomadelaw02.ShaveQuasi': WHATEVER THE INPUT: true; the input reads as it did. -/
def shaveQuasiSpec : ChangeSpec := { name := "shaveQuasi", fn := fun _ => fun
  | [d1, d2, d3] => { results := [.lit (.bool true)], args := [d1, d2, d3] }
  | _ => none }
def shaveQuasiRow : OpenClaim := { program := "ytmobefgnkiboaaa", sum := "41b13a922caf6b8704c14251960e9bb4ab9ad943466e7a7a8f76166e3561745d", func := "pomade/pomadelaw02.ShaveQuasi", spec := "shaveQuasi", inPlace := ["internal/abi.NoEscape", "internal/bytealg.MakeNoZero"], unfollowed := true, recurses := true, apart := false }
def ShaveQuasiSaid : Prop := shaveQuasiRow.holds Try.pinned (OpenSpec.ofChange shaveQuasiSpec)

/-- ITS FALSE NEIGHBOUR: 'it returns false'. Refute it at one input. -/
def shaveQuasiWrong : ChangeSpec := { name := "shaveQuasi", fn := fun _ => fun
  | [d1, d2, d3] => { results := [.lit (.bool false)], args := [d1, d2, d3] }
  | _ => none }
def ShaveQuasiWrongFalsely : Prop := shaveQuasiRow.holds Try.pinned (OpenSpec.ofChange shaveQuasiWrong)

/-- 'pomadelaw02.ShaveLovasz': WHATEVER THE INPUT: true; the input reads as it did. -/
def shaveLovaszSpec : ChangeSpec := { name := "shaveLovasz", fn := fun _ => fun
  | [d1, d2] => { results := [.lit (.bool true)], args := [d1, d2] }
  | _ => none }
def shaveLovaszRow : OpenClaim := { program := "ytmobefgnkiboaaa", sum := "41b13a922caf6b8704c14251960e9bb4ab9ad943466e7a7a8f76166e3561745d", func := "pomade/pomadelaw02.ShaveLovasz", spec := "shaveLovasz", inPlace := ["internal/abi.NoEscape", "internal/bytealg.MakeNoZero"], unfollowed := true, recurses := true, apart := false }
def ShaveLovaszSaid : Prop := shaveLovaszRow.holds Try.pinned (OpenSpec.ofChange shaveLovaszSpec)

/-- ITS FALSE NEIGHBOUR: 'it returns false'. Refute it at one input. -/
def shaveLovaszWrong : ChangeSpec := { name := "shaveLovasz", fn := fun _ => fun
  | [d1, d2] => { results := [.lit (.bool false)], args := [d1, d2] }
  | _ => none }
def ShaveLovaszWrongFalsely : Prop := shaveLovaszRow.holds Try.pinned (OpenSpec.ofChange shaveLovaszWrong)

/-- 'pomadelaw02.ShaveRichardson': WHATEVER THE INPUT: true; the input reads as it did. -/
def shaveRichardsonSpec : ChangeSpec := { name := "shaveRichardson", fn := fun _ => fun
  | [d1, d2, d3] => { results := [.lit (.bool true)], args := [d1, d2, d3] }
  | _ => none }
def shaveRichardsonRow : OpenClaim := { program := "ytmobefgnkiboaaa", sum := "41b13a922caf6b8704c14251960e9bb4ab9ad943466e7a7a8f76166e3561745d", func := "pomade/pomadelaw02.ShaveRichardson", spec := "shaveRichardson", inPlace := ["internal/abi.NoEscape", "internal/bytealg.MakeNoZero"], unfollowed := true, recurses := true, apart := false }
def ShaveRichardsonSaid : Prop := shaveRichardsonRow.holds Try.pinned (OpenSpec.ofChange shaveRichardsonSpec)

/-- ITS FALSE NEIGHBOUR: 'it returns false'. Refute it at one input. -/
def shaveRichardsonWrong : ChangeSpec := { name := "shaveRichardson", fn := fun _ => fun
  | [d1, d2, d3] => { results := [.lit (.bool false)], args := [d1, d2, d3] }
  | _ => none }
def ShaveRichardsonWrongFalsely : Prop := shaveRichardsonRow.holds Try.pinned (OpenSpec.ofChange shaveRichardsonWrong)

/- THE SECOND FORM. 'bulk': how many values and letters a reading holds, each counted each time it is reached (what is shared counts as often as it is met; a slice's spare places count too). A statement '..UptoSaid' is the law's where the arguments, and the package variables that the reading takes, are together of bulk at most 1048576: NARROWER than '..Said'. Prove '..Said' where nothing that the law and all that it calls make is longer than what came in: it says more and counts as full. Else prove '..UptoSaid'. A law counts once. -/
mutual
def uptoBulk {H : Type} : DataW H → Nat
  | .lit (.string bytes) => bytes.length + 1
  | .lit _ => 1
  | .nil => 1
  | .ptr d => uptoBulk d + 1
  | .slice elems spare => uptoBulkAll elems + uptoBulkAll spare + 1
  | .agg parts => uptoBulkAll parts + 1
  | .iface _ d => uptoBulk d + 1
  | .map entries => uptoBulkEntries entries + 1
  | .held _ => 1
def uptoBulkAll {H : Type} : List (DataW H) → Nat
  | [] => 0
  | d :: r => uptoBulk d + uptoBulkAll r
def uptoBulkEntries {H : Type} : List (Lit × DataW H) → Nat
  | [] => 0
  | x :: r => uptoBulkEntry x + uptoBulkEntries r
def uptoBulkEntry {H : Type} : Lit × DataW H → Nat
  | (.string bytes, d) => bytes.length + uptoBulk d + 1
  | (_, d) => uptoBulk d + 1
 end
def uptoSmall : (H : Type) → List (DataW H) → Bool := fun _ ds => decide (uptoBulkAll ds ≤ 1048576)
def OpenSpec.upto (s : _root_.Go.ChangeSpec) : _root_.Go.OpenSpec := { _root_.Go.OpenSpec.ofChange s with cond := some uptoSmall }

/-- 'pomadelaw02.ShaveRanks', WHERE WHAT IT READS IS OF BULK AT MOST 1048576: true; the input reads as it did. -/
def shaveRanksUptoRow : OpenClaim := { program := "ytmobefgnkiboaaa", sum := "41b13a922caf6b8704c14251960e9bb4ab9ad943466e7a7a8f76166e3561745d", func := "pomade/pomadelaw02.ShaveRanks", spec := "shaveRanks", inPlace := ["internal/abi.NoEscape", "internal/bytealg.MakeNoZero"], unfollowed := true, recurses := true, apart := false, narrowed := true }
def ShaveRanksUptoSaid : Prop := shaveRanksUptoRow.holds Try.pinned (OpenSpec.upto shaveRanksSpec)

/-- 'pomadelaw02.ShaveSays', WHERE WHAT IT READS IS OF BULK AT MOST 1048576: true; the input reads as it did. -/
def shaveSaysUptoRow : OpenClaim := { program := "ytmobefgnkiboaaa", sum := "41b13a922caf6b8704c14251960e9bb4ab9ad943466e7a7a8f76166e3561745d", func := "pomade/pomadelaw02.ShaveSays", spec := "shaveSays", inPlace := ["internal/abi.NoEscape", "internal/bytealg.MakeNoZero"], unfollowed := true, recurses := true, apart := false, narrowed := true }
def ShaveSaysUptoSaid : Prop := shaveSaysUptoRow.holds Try.pinned (OpenSpec.upto shaveSaysSpec)

/-- 'pomadelaw02.ShaveAcyclic', WHERE WHAT IT READS IS OF BULK AT MOST 1048576: true; the input reads as it did. -/
def shaveAcyclicUptoRow : OpenClaim := { program := "ytmobefgnkiboaaa", sum := "41b13a922caf6b8704c14251960e9bb4ab9ad943466e7a7a8f76166e3561745d", func := "pomade/pomadelaw02.ShaveAcyclic", spec := "shaveAcyclic", inPlace := ["internal/abi.NoEscape", "internal/bytealg.MakeNoZero"], unfollowed := true, recurses := true, apart := false, narrowed := true }
def ShaveAcyclicUptoSaid : Prop := shaveAcyclicUptoRow.holds Try.pinned (OpenSpec.upto shaveAcyclicSpec)

/-- 'pomadelaw02.ShaveSemi', WHERE WHAT IT READS IS OF BULK AT MOST 1048576: true; the input reads as it did. -/
def shaveSemiUptoRow : OpenClaim := { program := "ytmobefgnkiboaaa", sum := "41b13a922caf6b8704c14251960e9bb4ab9ad943466e7a7a8f76166e3561745d", func := "pomade/pomadelaw02.ShaveSemi", spec := "shaveSemi", inPlace := ["internal/abi.NoEscape", "internal/bytealg.MakeNoZero"], unfollowed := true, recurses := true, apart := false, narrowed := true }
def ShaveSemiUptoSaid : Prop := shaveSemiUptoRow.holds Try.pinned (OpenSpec.upto shaveSemiSpec)

/-- 'pomadelaw02.ShaveNeumann', WHERE WHAT IT READS IS OF BULK AT MOST 1048576: true; the input reads as it did. -/
def shaveNeumannUptoRow : OpenClaim := { program := "ytmobefgnkiboaaa", sum := "41b13a922caf6b8704c14251960e9bb4ab9ad943466e7a7a8f76166e3561745d", func := "pomade/pomadelaw02.ShaveNeumann", spec := "shaveNeumann", inPlace := ["internal/abi.NoEscape", "internal/bytealg.MakeNoZero"], unfollowed := true, recurses := true, apart := false, narrowed := true }
def ShaveNeumannUptoSaid : Prop := shaveNeumannUptoRow.holds Try.pinned (OpenSpec.upto shaveNeumannSpec)

/-- 'pomadelaw02.ShaveKernels', WHERE WHAT IT READS IS OF BULK AT MOST 1048576: true; the input reads as it did. -/
def shaveKernelsUptoRow : OpenClaim := { program := "ytmobefgnkiboaaa", sum := "41b13a922caf6b8704c14251960e9bb4ab9ad943466e7a7a8f76166e3561745d", func := "pomade/pomadelaw02.ShaveKernels", spec := "shaveKernels", inPlace := ["internal/abi.NoEscape", "internal/bytealg.MakeNoZero"], unfollowed := true, recurses := true, apart := false, narrowed := true }
def ShaveKernelsUptoSaid : Prop := shaveKernelsUptoRow.holds Try.pinned (OpenSpec.upto shaveKernelsSpec)

/-- 'pomadelaw02.ShaveRanked', WHERE WHAT IT READS IS OF BULK AT MOST 1048576: true; the input reads as it did. -/
def shaveRankedUptoRow : OpenClaim := { program := "ytmobefgnkiboaaa", sum := "41b13a922caf6b8704c14251960e9bb4ab9ad943466e7a7a8f76166e3561745d", func := "pomade/pomadelaw02.ShaveRanked", spec := "shaveRanked", inPlace := ["internal/abi.NoEscape", "internal/bytealg.MakeNoZero"], unfollowed := true, recurses := true, apart := false, narrowed := true }
def ShaveRankedUptoSaid : Prop := shaveRankedUptoRow.holds Try.pinned (OpenSpec.upto shaveRankedSpec)

/-- 'pomadelaw02.ShavePerfect', WHERE WHAT IT READS IS OF BULK AT MOST 1048576: true; the input reads as it did. -/
def shavePerfectUptoRow : OpenClaim := { program := "ytmobefgnkiboaaa", sum := "41b13a922caf6b8704c14251960e9bb4ab9ad943466e7a7a8f76166e3561745d", func := "pomade/pomadelaw02.ShavePerfect", spec := "shavePerfect", inPlace := ["internal/abi.NoEscape", "internal/bytealg.MakeNoZero"], unfollowed := true, recurses := true, apart := false, narrowed := true }
def ShavePerfectUptoSaid : Prop := shavePerfectUptoRow.holds Try.pinned (OpenSpec.upto shavePerfectSpec)

/-- 'pomadelaw02.ShaveQuasi', WHERE WHAT IT READS IS OF BULK AT MOST 1048576: true; the input reads as it did. -/
def shaveQuasiUptoRow : OpenClaim := { program := "ytmobefgnkiboaaa", sum := "41b13a922caf6b8704c14251960e9bb4ab9ad943466e7a7a8f76166e3561745d", func := "pomade/pomadelaw02.ShaveQuasi", spec := "shaveQuasi", inPlace := ["internal/abi.NoEscape", "internal/bytealg.MakeNoZero"], unfollowed := true, recurses := true, apart := false, narrowed := true }
def ShaveQuasiUptoSaid : Prop := shaveQuasiUptoRow.holds Try.pinned (OpenSpec.upto shaveQuasiSpec)

/-- 'pomadelaw02.ShaveLovasz', WHERE WHAT IT READS IS OF BULK AT MOST 1048576: true; the input reads as it did. -/
def shaveLovaszUptoRow : OpenClaim := { program := "ytmobefgnkiboaaa", sum := "41b13a922caf6b8704c14251960e9bb4ab9ad943466e7a7a8f76166e3561745d", func := "pomade/pomadelaw02.ShaveLovasz", spec := "shaveLovasz", inPlace := ["internal/abi.NoEscape", "internal/bytealg.MakeNoZero"], unfollowed := true, recurses := true, apart := false, narrowed := true }
def ShaveLovaszUptoSaid : Prop := shaveLovaszUptoRow.holds Try.pinned (OpenSpec.upto shaveLovaszSpec)

/-- 'pomadelaw02.ShaveRichardson', WHERE WHAT IT READS IS OF BULK AT MOST 1048576: true; the input reads as it did. -/
def shaveRichardsonUptoRow : OpenClaim := { program := "ytmobefgnkiboaaa", sum := "41b13a922caf6b8704c14251960e9bb4ab9ad943466e7a7a8f76166e3561745d", func := "pomade/pomadelaw02.ShaveRichardson", spec := "shaveRichardson", inPlace := ["internal/abi.NoEscape", "internal/bytealg.MakeNoZero"], unfollowed := true, recurses := true, apart := false, narrowed := true }
def ShaveRichardsonUptoSaid : Prop := shaveRichardsonUptoRow.holds Try.pinned (OpenSpec.upto shaveRichardsonSpec)

end Rows
end Go.Proofs.Ytmobefgnkiboaaa
