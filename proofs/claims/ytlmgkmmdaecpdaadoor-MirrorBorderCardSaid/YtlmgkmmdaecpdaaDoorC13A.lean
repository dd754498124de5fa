/- Blocks that are known whole; regions that draw their order, taken by hand; worlds that have grown; bits of an int; one more number behind a list. (Turned from the texts of the chapter on towns.) Functions of Go's library at this program: the shelf's contracts, laid in plain declarations (lay-shelf.mjs, lay-plain.mjs; cut by shelfcut.py). slices.Sort at a slice that the call owns. The table of steps; the neighbours of a hexagon. Plain words of the chapter on mirrors: doors, turns and the border of a coloured triangle. Plain words of the chapter on boards: two bridges, one from the first row to the last, one from the first column to the last, meet. Plain words of the chapter on boards: on a full board a player has a bridge (by the doors of a colouring). Plain words of the chapter on boards: least costs of ways, found by rounds (the program) and by going on until nothing turns (the specification). Plain words of the chapter on boards: the first shortest bridge. Plain words of the chapter on boards: hexagons by their numbers; on a full board exactly one player has a bridge. The neighbours of a hexagon, in ascending order. Is a hexagon at a side? slices.Repeat of one number. Plain words of the chapter on boards: what a player needs; boards that are turned over, and boards with one hexagon more. How far each hexagon is from the last side: plain words. How far each hexagon is from the last side. The first shortest bridge: plain words. The first shortest bridge: the walk. Who has a bridge. A board is read. Words for Wins. The triangle's map: keys; plain words for the triangle. A triangle is read: the walk. A triangle is read: the walk (2). The points of a cell. The points of a cell, by the specification. The kinds of the seat's values (first written by print.sh). Functions of the specification and of the statements, each with its calls (first written by print.sh): pomadelaw04_same, pomadelaw04_lists, pomaderef04_Many, pomaderef04_Board, pomaderef04_Near, pomaderef04_begins, pomaderef04_ends. Plain words of the chapter on boards: a way from side to side brings a first shortest bridge, and a least cost. Winner. Needs. Needs: the walk. Small functions of the laws: same, Board, Many; flipped. The specification's Board and Many. Functions of the specification and of the statements, each with its calls (first written by print.sh): pomaderef04_Points, pomaderef04_Triangle, pomaderef04_colour, pomaderef04_full. Proper: the program's walk over the map of colours. Proper: the call. The text of a cell. Is a cell full? The cells of a triangle. Full: the walk. Full: the walk (2). Turns: the walk. Plain: the cells counted (MirrorTurned, MirrorBorder, MirrorSperner). The specification's Triangle. Functions of the specification and of the statements, each with its calls (first written by print.sh): pomaderef04_proper, pomaderef04_Proper, pomaderef04_Cells. Plain: boards turned over (MirrorFlipped), boards with a hexagon more of x (MirrorMore). The specification's ways: rows in memory, Near, ends, begins, and what stable rows say. Closed facts for alive. No bridge: a set of hexagons that is closed and does not reach the end. Wins: the walk of the method. Wins: the walk of the method (2). Wins: the walk. Closed facts for alive: Wins. Closed facts for alive: Needs, Winner. Plain: who wins (MirrorPlayed). The specification's small functions of the triangle: colour, full, Cells. A drawn region walked by hand: the operations are read out of the region's list. The text of a cell, by the specification. The specification's small functions of the triangle: Cells. The specification's Full. Functions of the specification and of the statements, each with its calls (first written by print.sh): pomaderef04_Door. Plain words of the chapter on mirrors: walks through doors. A step leads from a door and a cell to the cell's other door and the cell behind it. Plain words of the chapter on mirrors: the doors of a triangle's cells, and the walks through them. Plain words of the chapter on mirrors: the doors counted. The specification's proper and Door; lists. Functions of the specification and of the statements, each with its calls (first written by print.sh): slices_Index_int_int, slices_Contains_int_int, cmp_isNaN_int, cmp_Compare_int, slices_Compare_int_int. The edge between two points. The edges of a cell. Is an edge a door? Plain words of the chapter on mirrors: the walks of a proper colouring, one after another. Edges as keys of maps; a map of edges and bools as a set. The specification's Turns. The specification's Doors. The program's Doors: plain words, and what the loops keep. The program's Doors: the walk. alive: what the calls answer (the walk of alive itself is still open). alive: the walk. Functions of the specification and of the statements, each with its calls (first written by print.sh): pomadelaw04_flipped. flipped: a board turned over. What the laws' walks want of the world, and the contracts in its words. The law MirrorTurned. The law MirrorBorder. Arguments of the laws, opened; what the laid tables say of the world; the wrap that keeps the world's shape. -/
import Derived.Test.YtlmgkmmdaecpdaaDoorProg
import Derived.Below
import Derived.Deep.Draws
import Derived.Deep.AppendLies
import Derived.Maps.AppendAt
import Derived.OwnWalk
import Derived.Laws.BytesArg
import Derived.Laws.MakeOwn
import Derived.Laws.OwnMore
import Derived.Deep.OwnRows
import Derived.Tactics
import Derived.Lib.ConvBytes
import Derived.Laws.Slices
import Derived.WalkKit
import Derived.KernelRfl
import Derived.RowKit3
import Derived.Deep.LoopGhost
import Derived.Deep.QuietTactic
import Derived.BigQuiet
import Derived.WideLaws
import Derived.Deep.DeepCutAuto
import Derived.Deep.CutBlock
import Derived.Deep.RegionHeld3
import Derived.Laws.Rows
import Derived.Lib.AppendStr
import Derived.ArgAppend
import Derived.Laws.IdiomCopy
import Derived.OrdersHeld
import Derived.Laws.BitsLemmas
import Derived.RowKit
import Derived.Test.YtlmgkmmdaecpdaaDoorWWords
import Derived.Test.YtlmgkmmdaecpdaaDoorWLast
import Derived.Test.YtlmgkmmdaecpdaaDoorWTab
import Derived.Test.YtlmgkmmdaecpdaaDoorWFour
import Derived.Test.YtlmgkmmdaecpdaaDoorWQPut
import Derived.Test.YtlmgkmmdaecpdaaDoorWApart
import Derived.Test.YtlmgkmmdaecpdaaDoorWArr
import Derived.Test.YtlmgkmmdaecpdaaDoorWZeros
import Derived.Test.YtlmgkmmdaecpdaaDoorWFoot
import Derived.Test.YtlmgkmmdaecpdaaDoorWKept
import Derived.Test.YtlmgkmmdaecpdaaDoorWShare
import Derived.Test.YtlmgkmmdaecpdaaDoorWN
import Derived.Test.YtlmgkmmdaecpdaaDoorWFootNe
import Derived.Test.YtlmgkmmdaecpdaaDoorWAt
import Derived.Test.YtlmgkmmdaecpdaaDoorWEqStruct
import Derived.Test.YtlmgkmmdaecpdaaDoorWRepsOne
import Derived.Test.YtlmgkmmdaecpdaaDoorWInv
import Derived.Test.YtlmgkmmdaecpdaaDoorWInvWords
import Derived.Test.YtlmgkmmdaecpdaaDoorWGuard
import Derived.Test.YtlmgkmmdaecpdaaDoorWNEv
import Derived.Test.YtlmgkmmdaecpdaaDoorWMore
import Derived.Outline
import Derived.StillTailTactics
namespace Go.Proofs.YtlmgkmmdaecpdaaDoor.Im
open Go.RowKit Go.Proofs.YtlmgkmmdaecpdaaDoorW.PrintWords Go.Proofs.YtlmgkmmdaecpdaaDoorW.PrintLast Go.Proofs.YtlmgkmmdaecpdaaDoorW.PrintMore
set_option linter.unusedVariables false
set_option linter.unusedSimpArgs false
theorem info3 : (Tryd.prog.info? 3).map (fun i => (i.zero, i.size, i.bytes)) = some (some (.int .i64 0), 1, 8) := by kernel_rfl
theorem info5 : (Tryd.prog.info? 5).map (fun i => (i.zero, i.size, i.bytes)) = some (some (.int .u8 0), 1, 1) := by kernel_rfl
def Blk (w : World) (g : Nat) (t : TypeId) (cs : Array Value) : Prop := w.heap[g]? = some (.cells cs t (0, 0))
section
variable {w w' : World} {g : Nat} {t : TypeId} {cs : Array Value}
theorem Blk.lt (h : Blk w g t cs) : g < w.heap.size := by
  rcases Nat.lt_or_ge g w.heap.size with hlt | hge
  · exact hlt
  · unfold Blk at h; rw [Array.getElem?_eq_none hge] at h; cases h
theorem Blk.cell (h : Blk w g t cs) (i : Nat) : w.cell? ⟨g, i, none⟩ = cs[i]? := cell_of_row w g i cs t (0, 0) h
theorem Blk.frozen (h : Blk w g t cs) (i : Nat) : w.frozen? ⟨g, i, none⟩ = false := by
  unfold Blk at h
  simp [World.frozen?, h]
theorem Blk.new (w : World) (t : TypeId) (cs : Array Value) : Blk (w.alloc (.cells cs t)) w.heap.size t cs := heap_alloc_new w _
theorem Blk.drew (h : Blk w g t cs) : Blk w.drew g t cs := h
theorem Blk.drewN (h : Blk w g t cs) (n : Nat) : Blk (w.drewN n) g t cs := h
theorem Blk.alloc (h : Blk w g t cs) (o : Obj) : Blk (w.alloc o) g t cs := (Below.heap_alloc w o g h.lt).trans h
theorem Blk.set_ (h : Blk w g t cs) (i : Nat) (u : Value) : Blk (w.setCell ⟨g, i, none⟩ u) g t (cs.setIfInBounds i u) := by
  unfold Blk at h ⊢
  simp [World.setCell, Array.getElem?_modify, h]
theorem Blk.far (h : Blk w g t cs) {p : Addr} (hp : g ≠ p.block) (u : Value) : Blk (w.setCell p u) g t cs := (Below.heap_setCell w p u g hp).trans h
theorem Blk.below {B : Nat} (h : Blk w g t cs) (hb : Below B w w') (hg : g < B) : Blk w' g t cs := (hb.block g hg).trans h
theorem Blk.later (h : Blk w g t cs) (hb : Below w.heap.size w w') : Blk w' g t cs := h.below hb h.lt
end
theorem rd_map (o : List Nat) (i : Nat) : rd (o.map fun x : Nat => (x : Int)) i = ((o.getD i 0 : Nat) : Int) := by
  unfold rd
  rw [Int.toNat_natCast]
  simp only [List.getD_eq_getElem?_getD, List.getElem?_map]
  cases o[i]? <;> rfl
def ints (o : List Nat) : List Int := o.map fun x : Nat => (x : Int)
theorem ints_length (o : List Nat) : (ints o).length = o.length := by simp [ints]
theorem rd_ints (o : List Nat) (i : Nat) : rd (ints o) i = ((o.getD i 0 : Nat) : Int) := rd_map o i
theorem Blk.new' {w : World} {g : Nat} {t : TypeId} {cs : Array Value} (h : g = w.heap.size) : Blk (w.alloc (.cells cs t)) g t cs := h ▸ Blk.new w t cs
theorem gb_below {w w1 : World} {row : Option Nat} (h : Below w.heap.size w w1) : w.grownBy w1 row := ⟨h.os, h.tape, h.output, h.size, fun i hi _ => h.block i hi⟩
theorem Blk.gb {w w' : World} {g : Nat} {t : TypeId} {cs : Array Value} {row : Option Nat} (h : Blk w g t cs) (hb : w.grownBy w' row) (hg : some g ≠ row) : Blk w' g t cs := (hb.block g h.lt hg).trans h
theorem Blk.row {w : World} {g : Nat} {t : TypeId} {old : Array Value} (h : Blk w g t old) (cs : Array Value) : Blk (w.setRow g cs) g t cs := setRow_heap w g old cs t (0, 0) h
theorem wr_succ (i : Nat) (h : i < 1000000) : wrap64 ((i : Int) + 1) = ((i + 1 : Nat) : Int) := by unfold wrap64; omega
theorem add_zero (b : Addr) : b.add 0 = b := by unfold Addr.add; simp
end Go.Proofs.YtlmgkmmdaecpdaaDoor.Im

