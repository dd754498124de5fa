/- Blocks that are known whole; regions that draw their order, taken by hand; worlds that have grown; bits of an int; one more number behind a list. (Turned from the texts of the chapter on towns.) The kinds of the seat's values (first written by print.sh). Functions of the specification and of the statements, each with its calls (first written by print.sh): pomadelaw04_same, pomadelaw04_lists, pomaderef04_Many, pomaderef04_Board, pomaderef04_Near, pomaderef04_begins, pomaderef04_ends. Functions of Go's library at this program: the shelf's contracts, laid in plain declarations (lay-shelf.mjs, lay-plain.mjs; cut by shelfcut.py). slices.Sort at a slice that the call owns. The table of steps; the neighbours of a hexagon. Plain words of the chapter on mirrors: doors, turns and the border of a coloured triangle. Plain words of the chapter on boards: two bridges, one from the first row to the last, one from the first column to the last, meet. Plain words of the chapter on boards: on a full board a player has a bridge (by the doors of a colouring). Plain words of the chapter on boards: least costs of ways, found by rounds (the program) and by going on until nothing turns (the specification). Plain words of the chapter on boards: the first shortest bridge. Plain words of the chapter on boards: hexagons by their numbers; on a full board exactly one player has a bridge. The neighbours of a hexagon, in ascending order. Is a hexagon at a side? slices.Repeat of one number. Plain words of the chapter on boards: what a player needs; boards that are turned over, and boards with one hexagon more. How far each hexagon is from the last side: plain words. How far each hexagon is from the last side. The first shortest bridge: plain words. The first shortest bridge: the walk. Who has a bridge. A board is read. Plain words of the chapter on boards: a way from side to side brings a first shortest bridge, and a least cost. Winner. Needs. Needs: the walk. Small functions of the laws: same, Board, Many; flipped. The specification's Board and Many. Plain: boards turned over (MirrorFlipped), boards with a hexagon more of x (MirrorMore). The specification's ways: rows in memory, Near, ends, begins, and what stable rows say. The specification's ways: the walk. Words for Wins. The triangle's map: keys; plain words for the triangle. A triangle is read: the walk. A triangle is read: the walk (2). The points of a cell. The text of a cell. Is a cell full? The cells of a triangle. Full: the walk. Full: the walk (2). Turns: the walk. Closed facts for alive. No bridge: a set of hexagons that is closed and does not reach the end. Wins: the walk of the method. Wins: the walk of the method (2). Wins: the walk. Closed facts for alive: Wins. Closed facts for alive: Needs, Winner. alive: what the calls answer (the walk of alive itself is still open). alive: the walk. Functions of the specification and of the statements, each with its calls (first written by print.sh): pomadelaw04_flipped. flipped: a board turned over. What the laws' walks want of the world, and the contracts in its words. The specification's Needs. The specification's shortest: plain. Functions of the specification and of the statements, each with its calls (first written by print.sh): slices_Index_int_int, slices_Contains_int_int, cmp_isNaN_int, cmp_Compare_int, slices_Compare_int_int. Plain: who wins (MirrorPlayed). Bridge: plain words, and the membership of a number in a list. Plain: bridges as lists of numbers (MirrorHex). The specification's shortest: the walk. Plain: a board with one hexagon more of x (MirrorMore). Bridge: the walk. Bridge: the call. The specification's Bridge: the walk. The specification's wins: who wins, by trying all moves. A drawn region walked by hand: the operations are read out of the region's list. The specification's wins: the walk. The law MirrorPlayed. The specification's Wins. The law MirrorWins. Arguments of the laws, opened; what the laid tables say of the world; the wrap that keeps the world's shape. -/
import Derived.Test.YtlmgkmmdaecpdaaDoorProg
import Derived.Below
import Derived.Deep.Draws
import Derived.Deep.AppendLies
import Derived.Maps.AppendAt
import Derived.OwnWalk
import Derived.Laws.BytesArg
import Derived.Laws.MakeOwn
import Derived.Laws.OwnMore
import Derived.Deep.OwnRows
import Derived.Tactics
import Derived.Lib.ConvBytes
import Derived.Laws.Slices
import Derived.WalkKit
import Derived.KernelRfl
import Derived.RowKit3
import Derived.Deep.LoopGhost
import Derived.Deep.QuietTactic
import Derived.BigQuiet
import Derived.WideLaws
import Derived.Deep.DeepCutAuto
import Derived.Deep.CutBlock
import Derived.Deep.RegionHeld3
import Derived.Laws.Rows
import Derived.Lib.AppendStr
import Derived.ArgAppend
import Derived.Laws.IdiomCopy
import Derived.OrdersHeld
import Derived.Laws.BitsLemmas
import Derived.RowKit
import Derived.Test.YtlmgkmmdaecpdaaDoorWWords
import Derived.Test.YtlmgkmmdaecpdaaDoorWLast
import Derived.Test.YtlmgkmmdaecpdaaDoorWTab
import Derived.Test.YtlmgkmmdaecpdaaDoorWFour
import Derived.Test.YtlmgkmmdaecpdaaDoorWQPut
import Derived.Test.YtlmgkmmdaecpdaaDoorWApart
import Derived.Test.YtlmgkmmdaecpdaaDoorWArr
import Derived.Test.YtlmgkmmdaecpdaaDoorWZeros
import Derived.Test.YtlmgkmmdaecpdaaDoorWFoot
import Derived.Test.YtlmgkmmdaecpdaaDoorWKept
import Derived.Test.YtlmgkmmdaecpdaaDoorWShare
import Derived.Test.YtlmgkmmdaecpdaaDoorWN
import Derived.Test.YtlmgkmmdaecpdaaDoorWFootNe
import Derived.Test.YtlmgkmmdaecpdaaDoorWAt
import Derived.Test.YtlmgkmmdaecpdaaDoorWEqStruct
import Derived.Test.YtlmgkmmdaecpdaaDoorWRepsOne
import Derived.Test.YtlmgkmmdaecpdaaDoorWInv
import Derived.Test.YtlmgkmmdaecpdaaDoorWInvWords
import Derived.Test.YtlmgkmmdaecpdaaDoorWGuard
import Derived.Test.YtlmgkmmdaecpdaaDoorWNEv
import Derived.Test.YtlmgkmmdaecpdaaDoorWMore
import Derived.Outline
import Derived.StillTailTactics
namespace Go.Proofs.YtlmgkmmdaecpdaaDoor.Im
open Go.RowKit Go.Proofs.YtlmgkmmdaecpdaaDoorW.PrintWords Go.Proofs.YtlmgkmmdaecpdaaDoorW.PrintLast Go.Proofs.YtlmgkmmdaecpdaaDoorW.PrintMore
set_option linter.unusedVariables false
set_option linter.unusedSimpArgs false
theorem info3 : (Tryd.prog.info? 3).map (fun i => (i.zero, i.size, i.bytes)) = some (some (.int .i64 0), 1, 8) := by kernel_rfl
theorem info5 : (Tryd.prog.info? 5).map (fun i => (i.zero, i.size, i.bytes)) = some (some (.int .u8 0), 1, 1) := by kernel_rfl
def Blk (w : World) (g : Nat) (t : TypeId) (cs : Array Value) : Prop := w.heap[g]? = some (.cells cs t (0, 0))
section
variable {w w' : World} {g : Nat} {t : TypeId} {cs : Array Value}
theorem Blk.lt (h : Blk w g t cs) : g < w.heap.size := by
  rcases Nat.lt_or_ge g w.heap.size with hlt | hge
  · exact hlt
  · unfold Blk at h; rw [Array.getElem?_eq_none hge] at h; cases h
theorem Blk.cell (h : Blk w g t cs) (i : Nat) : w.cell? ⟨g, i, none⟩ = cs[i]? := cell_of_row w g i cs t (0, 0) h
theorem Blk.frozen (h : Blk w g t cs) (i : Nat) : w.frozen? ⟨g, i, none⟩ = false := by
  unfold Blk at h
  simp [World.frozen?, h]
theorem Blk.new (w : World) (t : TypeId) (cs : Array Value) : Blk (w.alloc (.cells cs t)) w.heap.size t cs := heap_alloc_new w _
theorem Blk.drew (h : Blk w g t cs) : Blk w.drew g t cs := h
theorem Blk.drewN (h : Blk w g t cs) (n : Nat) : Blk (w.drewN n) g t cs := h
theorem Blk.alloc (h : Blk w g t cs) (o : Obj) : Blk (w.alloc o) g t cs := (Below.heap_alloc w o g h.lt).trans h
theorem Blk.set_ (h : Blk w g t cs) (i : Nat) (u : Value) : Blk (w.setCell ⟨g, i, none⟩ u) g t (cs.setIfInBounds i u) := by
  unfold Blk at h ⊢
  simp [World.setCell, Array.getElem?_modify, h]
theorem Blk.far (h : Blk w g t cs) {p : Addr} (hp : g ≠ p.block) (u : Value) : Blk (w.setCell p u) g t cs := (Below.heap_setCell w p u g hp).trans h
theorem Blk.below {B : Nat} (h : Blk w g t cs) (hb : Below B w w') (hg : g < B) : Blk w' g t cs := (hb.block g hg).trans h
theorem Blk.later (h : Blk w g t cs) (hb : Below w.heap.size w w') : Blk w' g t cs := h.below hb h.lt
end
theorem rd_map (o : List Nat) (i : Nat) : rd (o.map fun x : Nat => (x : Int)) i = ((o.getD i 0 : Nat) : Int) := by
  unfold rd
  rw [Int.toNat_natCast]
  simp only [List.getD_eq_getElem?_getD, List.getElem?_map]
  cases o[i]? <;> rfl
def ints (o : List Nat) : List Int := o.map fun x : Nat => (x : Int)
theorem ints_length (o : List Nat) : (ints o).length = o.length := by simp [ints]
theorem rd_ints (o : List Nat) (i : Nat) : rd (ints o) i = ((o.getD i 0 : Nat) : Int) := rd_map o i
theorem Blk.new' {w : World} {g : Nat} {t : TypeId} {cs : Array Value} (h : g = w.heap.size) : Blk (w.alloc (.cells cs t)) g t cs := h ▸ Blk.new w t cs
theorem gb_below {w w1 : World} {row : Option Nat} (h : Below w.heap.size w w1) : w.grownBy w1 row := ⟨h.os, h.tape, h.output, h.size, fun i hi _ => h.block i hi⟩
theorem Blk.gb {w w' : World} {g : Nat} {t : TypeId} {cs : Array Value} {row : Option Nat} (h : Blk w g t cs) (hb : w.grownBy w' row) (hg : some g ≠ row) : Blk w' g t cs := (hb.block g h.lt hg).trans h
theorem Blk.row {w : World} {g : Nat} {t : TypeId} {old : Array Value} (h : Blk w g t old) (cs : Array Value) : Blk (w.setRow g cs) g t cs := setRow_heap w g old cs t (0, 0) h
theorem wr_succ (i : Nat) (h : i < 1000000) : wrap64 ((i : Int) + 1) = ((i + 1 : Nat) : Int) := by unfold wrap64; omega
theorem add_zero (b : Addr) : b.add 0 = b := by unfold Addr.add; simp
end Go.Proofs.YtlmgkmmdaecpdaaDoor.Im

namespace Go.Proofs.YtlmgkmmdaecpdaaDoor.Im
open Go.RowKit Go.Proofs.YtlmgkmmdaecpdaaDoorW.PrintWords Go.Proofs.YtlmgkmmdaecpdaaDoorW.PrintLast Go.Proofs.YtlmgkmmdaecpdaaDoorW.PrintMore
attribute [local go_sem] max2_int min2_int max_two min_two max_three min_three max_four min_four
set_option linter.unusedVariables false
set_option linter.unusedSimpArgs false
structure S77 where
  f0 : Int
  f1 : Int
  f2 : Int
def z77 : S77 := ⟨(0 : Int), (0 : Int), (0 : Int)⟩
def k77 : Kd S77 := Kd.iso (Kd.pair (Kd.int .i64) (Kd.pair (Kd.int .i64) (Kd.int .i64))) (fun x : S77 => (x.f0, x.f1, x.f2))
theorem k77_open {w : World} {x : S77} {cs : List Value} (h : k77.K w x cs) : cs = [.int .i64 x.f0, .int .i64 x.f1, .int .i64 x.f2] := by
  obtain ⟨_, _, rfl, rfl, ⟨_, _, rfl, rfl, rfl⟩⟩ := h
  exact rfl
theorem k77_mkM (w : World) (base : Nat) (ok : Nat → Prop) (x : S77)  : k77.M w base ok x [.int .i64 x.f0, .int .i64 x.f1, .int .i64 x.f2] := ⟨[.int .i64 x.f0], [.int .i64 x.f1, .int .i64 x.f2], rfl, rfl, ⟨[.int .i64 x.f1], [.int .i64 x.f2], rfl, rfl, rfl⟩⟩
def rd_T77 (xs : List S77) (i : Int) : S77 := xs.getD i.toNat z77
theorem at_T77 {w : World} {A : Option Addr} {n : Nat} {xs : List S77} (h : Kd.C k77 w A n xs) (i : Int) (h0 : 0 ≤ i) (h1 : i < n) : ∃ ad , A = some ad ∧ w.cell? (ad.add (i.toNat * 3)) = some (.int .i64 (rd_T77 xs i).f0) ∧ w.cell? ⟨(ad.add (i.toNat * 3)).block, (ad.add (i.toNat * 3)).off + 1, none⟩ = some (.int .i64 (rd_T77 xs i).f1) ∧ w.cell? ⟨(ad.add (i.toNat * 3)).block, (ad.add (i.toNat * 3)).off + 2, none⟩ = some (.int .i64 (rd_T77 xs i).f2) := by
  obtain ⟨ad, c, e, _, hK, hc0⟩ := Kd.C_get h z77 i h0 h1
  have hc : ∀ j u, c[j]? = some u → w.cell? (ad.add (i.toNat * 3 + j)) = some u := hc0
  obtain rfl := k77_open hK
  exact ⟨ad, e, hc 0 _ rfl, by rw [← add_field _ _ 1 (by omega)]; exact hc 1 _ rfl, by rw [← add_field _ _ 2 (by omega)]; exact hc 2 _ rfl⟩
def rd_L3 (xs : List (List Int)) (i : Int) : (List Int) := xs.getD i.toNat ([] : List Int)
theorem at_L3 {w : World} {A : Option Addr} {n : Nat} {xs : List (List Int)} (h : Kd.C (Kd.slice 3 (Kd.int .i64)) w A n xs) (i : Int) (h0 : 0 ≤ i) (h1 : i < n) : ∃ ad A0 c0, A = some ad ∧ w.cell? (ad.add i.toNat) = some (.slice A0 (rd_L3 xs i).length c0) ∧ (rd_L3 xs i).length ≤ c0 ∧ (Kd.int .i64).C w A0 (rd_L3 xs i).length (rd_L3 xs i) := by
  obtain ⟨ad, c, e, _, hK, hc0⟩ := Kd.C_get h ([] : List Int) i h0 h1
  have hc : ∀ j u, c[j]? = some u → w.cell? (ad.add (i.toNat * 1 + j)) = some u := hc0
  obtain ⟨A0, c0, rfl, l0, g0⟩ := hK
  exact ⟨ad, A0, c0, e, by have hq := hc 0 _ rfl; rwa [Nat.mul_one, Nat.add_zero] at hq, l0, g0⟩
end Go.Proofs.YtlmgkmmdaecpdaaDoor.Im

namespace Go.Proofs.YtlmgkmmdaecpdaaDoor.Im
open Go.RowKit Go.Proofs.YtlmgkmmdaecpdaaDoorW.PrintWords Go.Proofs.YtlmgkmmdaecpdaaDoorW.PrintLast Go.Proofs.YtlmgkmmdaecpdaaDoorW.PrintMore
attribute [local go_sem] max2_int min2_int max_two min_two max_three min_three max_four min_four
set_option linter.unusedVariables false
set_option linter.unusedSimpArgs false
def pomadelaw04_same.l0 : Nat → List Int → List Int → Int → Option (Bool)
  | 0, _, _, _ => none
  | k + 1, x0, x1, x5 => if x5 < (x0.length : Int) then (if 0 ≤ x5 then (if x5 < (x1.length : Int) then (if (rd x0 x5) = (rd x1 x5) then (pomadelaw04_same.l0 k x0 x1 (wrap64 (x5 + 1))) else (some false)) else (none)) else (none)) else (some true)
def pomadelaw04_same.f (k : Nat) (l0 : List Int) (l1 : List Int) : Option (Bool) := if (l0.length : Int) = (l1.length : Int) then (pomadelaw04_same.l0 k l0 l1 0) else (some false)
theorem pomadelaw04_same.mono_l : ∀ k, (∀ y0 y1 y2, LeO (pomadelaw04_same.l0 k y0 y1 y2) (pomadelaw04_same.l0 (k + 1) y0 y1 y2))
  | 0 => fun _ _ _ r h => by simp [pomadelaw04_same.l0] at h
  | k + 1 => by
    have ih0 := pomadelaw04_same.mono_l k
    · intro y0 y1 y2
      unfold pomadelaw04_same.l0
      repeat' first
      | (with_reducible exact ih0 _ _ _)
      | (with_reducible exact LeO.refl _)
      | (with_reducible exact LeO.none _)
      | (with_reducible refine LeO.ite ?_ ?_)
      | (with_reducible refine LeO.bind ?_ (fun _ => ?_))
      | exact ih0 _ _ _
      | exact LeO.none _
      | refine LeO.ite ?_ ?_
      | refine LeO.bind ?_ (fun _ => ?_)
theorem pomadelaw04_same.mono : ∀ a0 a1 k, LeO (pomadelaw04_same.f k a0 a1) (pomadelaw04_same.f (k + 1) a0 a1) := by
  intro a0 a1 k
  have ih0 := pomadelaw04_same.mono_l k
  unfold pomadelaw04_same.f
  repeat' first
      | (with_reducible exact ih0 _ _ _)
      | (with_reducible exact LeO.refl _)
      | (with_reducible exact LeO.none _)
      | (with_reducible refine LeO.ite ?_ ?_)
      | (with_reducible refine LeO.bind ?_ (fun _ => ?_))
      | exact ih0 _ _ _
      | exact LeO.none _
      | refine LeO.ite ?_ ?_
      | refine LeO.bind ?_ (fun _ => ?_)
set_option maxHeartbeats 8000000 in
set_option maxRecDepth 100000 in
theorem pomadelaw04_same.calls (k : Nat) (A0 : Option Addr) (c0 : Nat) (l0 : List Int) (A1 : Option Addr) (c1 : Nat) (l1 : List Int) (r : Bool) (w : World) (hr0 : Kd.C (Kd.int .i64) w A0 l0.length l0) (hc0 : l0.length ≤ c0) (hr1 : Kd.C (Kd.int .i64) w A1 l1.length l1) (hc1 : l1.length ≤ c1) (h : pomadelaw04_same.f k l0 l1 = some r) :
    Calls Tryd.prog 33 #[.slice A0 l0.length c0, .slice A1 l1.length c1] w fun e w' => e = .returned (.bool r) ∧ Drawn0 w w' := by
  have HR0 := Aside0.mk hr0
  have HC0 := Aside0.mk hc0
  clear hr0 hc0
  have HR1 := Aside0.mk hr1
  have HC1 := Aside0.mk hc1
  clear hr1 hc1
  have H : (if (l0.length : Int) = (l1.length : Int) then (pomadelaw04_same.l0 k l0 l1 0) else (some false)) = some r := h
  clear h
  by_cases c3 : (l0.length : Int) = (l1.length : Int)
  · rw [if_pos c3] at H
    have c3b0 : ((l0.length : Int) == (l1.length : Int)) = true := beq_iff_eq.mpr c3
    have c3b1 : ((l0.length : Int) != (l1.length : Int)) = false := bne_eq_false_iff_eq.mpr c3
    have c3b2 : (l0.length == l1.length) = true := by first | simpa using c3 | (simp at c3 ⊢; omega)
    clear c3
    have H' := Aside0.mk H
    clear H
    go_enter Tryd.func33, Tryd.ntmps33
    go_wp2
    repeat (go_quiet (fail); try go_wp2)
    go_loopg [5] k (fun kq v5 w' => ∃ (x5_1 : Int), v5 = .int .i64 x5_1 ∧ Aside0 (pomadelaw04_same.l0 kq l0 l1 x5_1 = some r) ∧ Aside0 (kq ≤ k) ∧ Drawn0 w w')
    case atStart => exact ⟨(0), (by first | rfl | (simp; done) | (simp [*]; done)), H', ⟨Nat.le_refl _⟩, by repeat (first | exact Drawn0.refl _ | apply Drawn0.step)⟩
    case round =>
      clear H'
      try clear c1
      try clear p2
      try clear c3
      try clear c3b0
      try clear c3b1
      try clear c3b2
      obtain ⟨x5_1, rfl, HA, HK1, ⟨m1, rfl⟩⟩ := hrel
      cases gk with
      | zero => exact absurd HA.out (by simp [pomadelaw04_same.l0])
      | succ k1 =>
        have H := HA.out
        clear HA
        simp only [pomadelaw04_same.l0] at H
        by_cases c4 : x5_1 < (l0.length : Int)
        · rw [if_pos c4] at H
          have c4b0 : decide (x5_1 < (l0.length : Int)) = true := decide_eq_true c4
          clear c4
          by_cases c5 : 0 ≤ x5_1
          · rw [if_pos c5] at H
            have c5b0 : decide (0 ≤ x5_1) = true := decide_eq_true c5
            clear c5
            by_cases c6 : x5_1 < (l1.length : Int)
            · rw [if_pos c6] at H
              have c6b0 : decide (x5_1 < (l1.length : Int)) = true := decide_eq_true c6
              clear c6
              by_cases c7 : (rd l0 x5_1) = (rd l1 x5_1)
              · rw [if_pos c7] at H
                have c7b0 : ((rd l0 x5_1) == (rd l1 x5_1)) = true := beq_iff_eq.mpr c7
                have c7b1 : ((rd l0 x5_1) != (rd l1 x5_1)) = false := bne_eq_false_iff_eq.mpr c7
                clear c7
                have H' := Aside0.mk H
                clear H
                have p232 : 0 ≤ (x5_1 : Int) := of_decide_eq_true (by first | (with_reducible assumption) | assumption)
                have q232 : x5_1 < (l0.length : Int) := of_decide_eq_true (by first | (with_reducible assumption) | assumption)
                obtain ⟨ad232, e232, hx232_0⟩ := Kd.at_int HR0.out x5_1 p232 q232
                cases e232
                replace p232 := eq_true p232
                replace q232 := eq_true q232
                have p233 : 0 ≤ (x5_1 : Int) := of_decide_eq_true (by first | (with_reducible assumption) | assumption)
                have q233 : x5_1 < (l1.length : Int) := of_decide_eq_true (by first | (with_reducible assumption) | assumption)
                obtain ⟨ad233, e233, hx233_0⟩ := Kd.at_int HR1.out x5_1 p233 q233
                cases e233
                replace p233 := eq_true p233
                replace q233 := eq_true q233
                go_wp2
                repeat (go_quiet (fail); try go_wp2)
                go_roundg k1
                case measure => have := HK1.out; omega
                case rel => exact ⟨(wrap64 (x5_1 + 1)), (by first | rfl | (simp; done) | (simp [*]; done)), H', ⟨by have := HK1.out; omega⟩, by repeat (first | exact Drawn0.refl _ | apply Drawn0.step)⟩
              · rw [if_neg c7] at H
                have c7b0 : ((rd l0 x5_1) == (rd l1 x5_1)) = false := beq_eq_false_iff_ne.mpr c7
                have c7b1 : ((rd l0 x5_1) != (rd l1 x5_1)) = true := bne_iff_ne.mpr c7
                obtain rfl := Option.some.inj H
                have p232 : 0 ≤ (x5_1 : Int) := of_decide_eq_true (by first | (with_reducible assumption) | assumption)
                have q232 : x5_1 < (l0.length : Int) := of_decide_eq_true (by first | (with_reducible assumption) | assumption)
                obtain ⟨ad232, e232, hx232_0⟩ := Kd.at_int HR0.out x5_1 p232 q232
                cases e232
                replace p232 := eq_true p232
                replace q232 := eq_true q232
                have p233 : 0 ≤ (x5_1 : Int) := of_decide_eq_true (by first | (with_reducible assumption) | assumption)
                have q233 : x5_1 < (l1.length : Int) := of_decide_eq_true (by first | (with_reducible assumption) | assumption)
                obtain ⟨ad233, e233, hx233_0⟩ := Kd.at_int HR1.out x5_1 p233 q233
                cases e233
                replace p233 := eq_true p233
                replace q233 := eq_true q233
                go_wp2
                repeat (go_quiet (fail); try go_wp2)
                go_ret
                exact ⟨by first | rfl | (simp; done) | (simp [*]; done), by repeat (first | exact Drawn0.refl _ | apply Drawn0.step)⟩
            · rw [if_neg c6] at H
              exact absurd H (by simp)
          · rw [if_neg c5] at H
            exact absurd H (by simp)
        · rw [if_neg c4] at H
          have c4b0 : decide (x5_1 < (l0.length : Int)) = false := decide_eq_false c4
          clear c4
          obtain rfl := Option.some.inj H
          go_wp2
          repeat (go_quiet (fail); try go_wp2)
          go_ret
          exact ⟨by first | rfl | (simp; done) | (simp [*]; done), by repeat (first | exact Drawn0.refl _ | apply Drawn0.step)⟩
  · rw [if_neg c3] at H
    have c3b0 : ((l0.length : Int) == (l1.length : Int)) = false := beq_eq_false_iff_ne.mpr c3
    have c3b1 : ((l0.length : Int) != (l1.length : Int)) = true := bne_iff_ne.mpr c3
    have c3b2 : (l0.length == l1.length) = false := by first | simpa using c3 | (simp at c3 ⊢; omega)
    obtain rfl := Option.some.inj H
    go_enter Tryd.func33, Tryd.ntmps33
    go_wp2
    repeat (go_quiet (fail); try go_wp2)
    go_ret
    exact ⟨by first | rfl | (simp; done) | (simp [*]; done), by repeat (first | exact Drawn0.refl _ | apply Drawn0.step)⟩
def pomadelaw04_lists.l0 : Nat → List (List Int) → List (List Int) → Int → Option (Bool)
  | 0, _, _, _ => none
  | k + 1, x0, x1, x5 => if x5 < (x0.length : Int) then (if 0 ≤ x5 then (if x5 < (x1.length : Int) then ((pomadelaw04_same.f k (rd_L3 x0 x5) (rd_L3 x1 x5)).bind fun t250 => (if t250 = true then (pomadelaw04_lists.l0 k x0 x1 (wrap64 (x5 + 1))) else (some false))) else (none)) else (none)) else (some true)
def pomadelaw04_lists.f (k : Nat) (l0 : List (List Int)) (l1 : List (List Int)) : Option (Bool) := if (l0.length : Int) = (l1.length : Int) then (pomadelaw04_lists.l0 k l0 l1 0) else (some false)
theorem pomadelaw04_lists.mono_l : ∀ k, (∀ y0 y1 y2, LeO (pomadelaw04_lists.l0 k y0 y1 y2) (pomadelaw04_lists.l0 (k + 1) y0 y1 y2))
  | 0 => fun _ _ _ r h => by simp [pomadelaw04_lists.l0] at h
  | k + 1 => by
    have ih0 := pomadelaw04_lists.mono_l k
    · intro y0 y1 y2
      unfold pomadelaw04_lists.l0
      repeat' first
      | (with_reducible exact ih0 _ _ _)
      | (with_reducible exact pomadelaw04_same.mono _ _ _)
      | (with_reducible exact LeO.refl _)
      | (with_reducible exact LeO.none _)
      | (with_reducible refine LeO.ite ?_ ?_)
      | (with_reducible refine LeO.bind ?_ (fun _ => ?_))
      | exact ih0 _ _ _
      | exact pomadelaw04_same.mono _ _ _
      | exact LeO.none _
      | refine LeO.ite ?_ ?_
      | refine LeO.bind ?_ (fun _ => ?_)
theorem pomadelaw04_lists.mono : ∀ a0 a1 k, LeO (pomadelaw04_lists.f k a0 a1) (pomadelaw04_lists.f (k + 1) a0 a1) := by
  intro a0 a1 k
  have ih0 := pomadelaw04_lists.mono_l k
  unfold pomadelaw04_lists.f
  repeat' first
      | (with_reducible exact ih0 _ _ _)
      | (with_reducible exact pomadelaw04_same.mono _ _ _)
      | (with_reducible exact LeO.refl _)
      | (with_reducible exact LeO.none _)
      | (with_reducible refine LeO.ite ?_ ?_)
      | (with_reducible refine LeO.bind ?_ (fun _ => ?_))
      | exact ih0 _ _ _
      | exact pomadelaw04_same.mono _ _ _
      | exact LeO.none _
      | refine LeO.ite ?_ ?_
      | refine LeO.bind ?_ (fun _ => ?_)
set_option maxHeartbeats 8000000 in
set_option maxRecDepth 100000 in
theorem pomadelaw04_lists.calls (k : Nat) (A0 : Option Addr) (c0 : Nat) (l0 : List (List Int)) (A1 : Option Addr) (c1 : Nat) (l1 : List (List Int)) (r : Bool) (w : World) (hr0 : Kd.C (Kd.slice 3 (Kd.int .i64)) w A0 l0.length l0) (hc0 : l0.length ≤ c0) (hr1 : Kd.C (Kd.slice 3 (Kd.int .i64)) w A1 l1.length l1) (hc1 : l1.length ≤ c1) (h : pomadelaw04_lists.f k l0 l1 = some r) :
    Calls Tryd.prog 29 #[.slice A0 l0.length c0, .slice A1 l1.length c1] w fun e w' => e = .returned (.bool r) ∧ Drawn0 w w' := by
  have HR0 := Aside0.mk hr0
  have HC0 := Aside0.mk hc0
  clear hr0 hc0
  have HR1 := Aside0.mk hr1
  have HC1 := Aside0.mk hc1
  clear hr1 hc1
  have H : (if (l0.length : Int) = (l1.length : Int) then (pomadelaw04_lists.l0 k l0 l1 0) else (some false)) = some r := h
  clear h
  by_cases c3 : (l0.length : Int) = (l1.length : Int)
  · rw [if_pos c3] at H
    have c3b0 : ((l0.length : Int) == (l1.length : Int)) = true := beq_iff_eq.mpr c3
    have c3b1 : ((l0.length : Int) != (l1.length : Int)) = false := bne_eq_false_iff_eq.mpr c3
    have c3b2 : (l0.length == l1.length) = true := by first | simpa using c3 | (simp at c3 ⊢; omega)
    clear c3
    have H' := Aside0.mk H
    clear H
    go_enter Tryd.func29, Tryd.ntmps29
    go_wp2
    repeat (go_quiet (fail); try go_wp2)
    go_loopg [5] k (fun kq v5 w' => ∃ (x5_1 : Int), v5 = .int .i64 x5_1 ∧ Aside0 (pomadelaw04_lists.l0 kq l0 l1 x5_1 = some r) ∧ Aside0 (kq ≤ k) ∧ Drawn0 w w')
    case atStart => exact ⟨(0), (by first | rfl | (simp; done) | (simp [*]; done)), H', ⟨Nat.le_refl _⟩, by repeat (first | exact Drawn0.refl _ | apply Drawn0.step)⟩
    case round =>
      clear H'
      try clear c1
      try clear c2
      try clear p2
      try clear c3
      try clear c3b0
      try clear c3b1
      try clear c3b2
      obtain ⟨x5_1, rfl, HA, HK1, ⟨m1, rfl⟩⟩ := hrel
      cases gk with
      | zero => exact absurd HA.out (by simp [pomadelaw04_lists.l0])
      | succ k1 =>
        have H := HA.out
        clear HA
        simp only [pomadelaw04_lists.l0] at H
        by_cases c4 : x5_1 < (l0.length : Int)
        · rw [if_pos c4] at H
          have c4b0 : decide (x5_1 < (l0.length : Int)) = true := decide_eq_true c4
          clear c4
          by_cases c5 : 0 ≤ x5_1
          · rw [if_pos c5] at H
            have c5b0 : decide (0 ≤ x5_1) = true := decide_eq_true c5
            clear c5
            by_cases c6 : x5_1 < (l1.length : Int)
            · rw [if_pos c6] at H
              have c6b0 : decide (x5_1 < (l1.length : Int)) = true := decide_eq_true c6
              clear c6
              replace H := Option.bind_eq_some_iff.mp H
              obtain ⟨t250, A70, H⟩ := H
              replace H : (if t250 = true then (pomadelaw04_lists.l0 k1 l0 l1 (wrap64 (x5_1 + 1))) else (some false)) = some r := H
              have A7 := Aside0.mk A70
              clear A70
              by_cases c8 : t250 = true
              · subst c8
                have H1 : (pomadelaw04_lists.l0 k1 l0 l1 (wrap64 (x5_1 + 1))) = some r := by rw [if_pos rfl] at H; exact H
                clear H
                have H := H1
                clear H1
                have H' := Aside0.mk H
                clear H
                have p248 : 0 ≤ (x5_1 : Int) := of_decide_eq_true (by first | (with_reducible assumption) | assumption)
                have q248 : x5_1 < (l0.length : Int) := of_decide_eq_true (by first | (with_reducible assumption) | assumption)
                obtain ⟨ad248, A248_0, c248_0, e248, hx248_0, hl248_0, hi248_0⟩ := at_L3 HR0.out x5_1 p248 q248
                cases e248
                have HR248_0 := Aside0.mk hi248_0
                have HC248_0 := Aside0.mk hl248_0
                clear hi248_0 hl248_0
                replace p248 := eq_true p248
                replace q248 := eq_true q248
                have p249 : 0 ≤ (x5_1 : Int) := of_decide_eq_true (by first | (with_reducible assumption) | assumption)
                have q249 : x5_1 < (l1.length : Int) := of_decide_eq_true (by first | (with_reducible assumption) | assumption)
                obtain ⟨ad249, A249_0, c249_0, e249, hx249_0, hl249_0, hi249_0⟩ := at_L3 HR1.out x5_1 p249 q249
                cases e249
                have HR249_0 := Aside0.mk hi249_0
                have HC249_0 := Aside0.mk hl249_0
                clear hi249_0 hl249_0
                replace p249 := eq_true p249
                replace q249 := eq_true q249
                go_wp2_with (first | (go_at_call 33; (with_reducible refine (pomadelaw04_same.calls k1 _ _ (rd_L3 l0 x5_1) _ _ (rd_L3 l1 x5_1) true _ ?side1 ?side2 ?side3 ?side4 A7.out).mono ?_); (case side1 => repeat (first | exact HR248_0.out | (with_reducible refine Kd.C_alloc ?_ _) | (with_reducible refine Kd.C_drewN ?_ _) | (with_reducible refine Kd.C_drew ?_))); (case side2 => exact HC248_0.out); (case side3 => repeat (first | exact HR249_0.out | (with_reducible refine Kd.C_alloc ?_ _) | (with_reducible refine Kd.C_drewN ?_ _) | (with_reducible refine Kd.C_drew ?_))); (case side4 => exact HC249_0.out); rintro e w' ⟨rfl, ⟨nd, rfl⟩⟩; (try first | exact ⟨rfl, _, World.drewN_drewN _ _ _⟩ | exact ⟨rfl, _, Eq.trans (World.drewN_drewN _ _ _) (congrArg (World.drewN _) (Nat.add_assoc _ _ _))⟩)))
                repeat (go_quiet (first | (go_at_call 33; (with_reducible refine (pomadelaw04_same.calls k1 _ _ (rd_L3 l0 x5_1) _ _ (rd_L3 l1 x5_1) true _ ?side1 ?side2 ?side3 ?side4 A7.out).mono ?_); (case side1 => repeat (first | exact HR248_0.out | (with_reducible refine Kd.C_alloc ?_ _) | (with_reducible refine Kd.C_drewN ?_ _) | (with_reducible refine Kd.C_drew ?_))); (case side2 => exact HC248_0.out); (case side3 => repeat (first | exact HR249_0.out | (with_reducible refine Kd.C_alloc ?_ _) | (with_reducible refine Kd.C_drewN ?_ _) | (with_reducible refine Kd.C_drew ?_))); (case side4 => exact HC249_0.out); rintro e w' ⟨rfl, ⟨nd, rfl⟩⟩; (try first | exact ⟨rfl, _, World.drewN_drewN _ _ _⟩ | exact ⟨rfl, _, Eq.trans (World.drewN_drewN _ _ _) (congrArg (World.drewN _) (Nat.add_assoc _ _ _))⟩))); try go_wp2_with (first | (go_at_call 33; (with_reducible refine (pomadelaw04_same.calls k1 _ _ (rd_L3 l0 x5_1) _ _ (rd_L3 l1 x5_1) true _ ?side1 ?side2 ?side3 ?side4 A7.out).mono ?_); (case side1 => repeat (first | exact HR248_0.out | (with_reducible refine Kd.C_alloc ?_ _) | (with_reducible refine Kd.C_drewN ?_ _) | (with_reducible refine Kd.C_drew ?_))); (case side2 => exact HC248_0.out); (case side3 => repeat (first | exact HR249_0.out | (with_reducible refine Kd.C_alloc ?_ _) | (with_reducible refine Kd.C_drewN ?_ _) | (with_reducible refine Kd.C_drew ?_))); (case side4 => exact HC249_0.out); rintro e w' ⟨rfl, ⟨nd, rfl⟩⟩; (try first | exact ⟨rfl, _, World.drewN_drewN _ _ _⟩ | exact ⟨rfl, _, Eq.trans (World.drewN_drewN _ _ _) (congrArg (World.drewN _) (Nat.add_assoc _ _ _))⟩))))
                go_roundg k1
                case measure => have := HK1.out; omega
                case rel => exact ⟨(wrap64 (x5_1 + 1)), (by first | rfl | (simp; done) | (simp [*]; done)), H', ⟨by have := HK1.out; omega⟩, by repeat (first | exact Drawn0.refl _ | apply Drawn0.step)⟩
              · replace c8 := Bool.eq_false_iff.mpr c8
                subst c8
                have H1 : (some false) = some r := by rw [if_neg (show ¬ (false = true) by decide)] at H; exact H
                clear H
                have H := H1
                clear H1
                obtain rfl := Option.some.inj H
                have p248 : 0 ≤ (x5_1 : Int) := of_decide_eq_true (by first | (with_reducible assumption) | assumption)
                have q248 : x5_1 < (l0.length : Int) := of_decide_eq_true (by first | (with_reducible assumption) | assumption)
                obtain ⟨ad248, A248_0, c248_0, e248, hx248_0, hl248_0, hi248_0⟩ := at_L3 HR0.out x5_1 p248 q248
                cases e248
                have HR248_0 := Aside0.mk hi248_0
                have HC248_0 := Aside0.mk hl248_0
                clear hi248_0 hl248_0
                replace p248 := eq_true p248
                replace q248 := eq_true q248
                have p249 : 0 ≤ (x5_1 : Int) := of_decide_eq_true (by first | (with_reducible assumption) | assumption)
                have q249 : x5_1 < (l1.length : Int) := of_decide_eq_true (by first | (with_reducible assumption) | assumption)
                obtain ⟨ad249, A249_0, c249_0, e249, hx249_0, hl249_0, hi249_0⟩ := at_L3 HR1.out x5_1 p249 q249
                cases e249
                have HR249_0 := Aside0.mk hi249_0
                have HC249_0 := Aside0.mk hl249_0
                clear hi249_0 hl249_0
                replace p249 := eq_true p249
                replace q249 := eq_true q249
                go_wp2_with (first | (go_at_call 33; (with_reducible refine (pomadelaw04_same.calls k1 _ _ (rd_L3 l0 x5_1) _ _ (rd_L3 l1 x5_1) false _ ?side1 ?side2 ?side3 ?side4 A7.out).mono ?_); (case side1 => repeat (first | exact HR248_0.out | (with_reducible refine Kd.C_alloc ?_ _) | (with_reducible refine Kd.C_drewN ?_ _) | (with_reducible refine Kd.C_drew ?_))); (case side2 => exact HC248_0.out); (case side3 => repeat (first | exact HR249_0.out | (with_reducible refine Kd.C_alloc ?_ _) | (with_reducible refine Kd.C_drewN ?_ _) | (with_reducible refine Kd.C_drew ?_))); (case side4 => exact HC249_0.out); rintro e w' ⟨rfl, ⟨nd, rfl⟩⟩; (try first | exact ⟨rfl, _, World.drewN_drewN _ _ _⟩ | exact ⟨rfl, _, Eq.trans (World.drewN_drewN _ _ _) (congrArg (World.drewN _) (Nat.add_assoc _ _ _))⟩)))
                repeat (go_quiet (first | (go_at_call 33; (with_reducible refine (pomadelaw04_same.calls k1 _ _ (rd_L3 l0 x5_1) _ _ (rd_L3 l1 x5_1) false _ ?side1 ?side2 ?side3 ?side4 A7.out).mono ?_); (case side1 => repeat (first | exact HR248_0.out | (with_reducible refine Kd.C_alloc ?_ _) | (with_reducible refine Kd.C_drewN ?_ _) | (with_reducible refine Kd.C_drew ?_))); (case side2 => exact HC248_0.out); (case side3 => repeat (first | exact HR249_0.out | (with_reducible refine Kd.C_alloc ?_ _) | (with_reducible refine Kd.C_drewN ?_ _) | (with_reducible refine Kd.C_drew ?_))); (case side4 => exact HC249_0.out); rintro e w' ⟨rfl, ⟨nd, rfl⟩⟩; (try first | exact ⟨rfl, _, World.drewN_drewN _ _ _⟩ | exact ⟨rfl, _, Eq.trans (World.drewN_drewN _ _ _) (congrArg (World.drewN _) (Nat.add_assoc _ _ _))⟩))); try go_wp2_with (first | (go_at_call 33; (with_reducible refine (pomadelaw04_same.calls k1 _ _ (rd_L3 l0 x5_1) _ _ (rd_L3 l1 x5_1) false _ ?side1 ?side2 ?side3 ?side4 A7.out).mono ?_); (case side1 => repeat (first | exact HR248_0.out | (with_reducible refine Kd.C_alloc ?_ _) | (with_reducible refine Kd.C_drewN ?_ _) | (with_reducible refine Kd.C_drew ?_))); (case side2 => exact HC248_0.out); (case side3 => repeat (first | exact HR249_0.out | (with_reducible refine Kd.C_alloc ?_ _) | (with_reducible refine Kd.C_drewN ?_ _) | (with_reducible refine Kd.C_drew ?_))); (case side4 => exact HC249_0.out); rintro e w' ⟨rfl, ⟨nd, rfl⟩⟩; (try first | exact ⟨rfl, _, World.drewN_drewN _ _ _⟩ | exact ⟨rfl, _, Eq.trans (World.drewN_drewN _ _ _) (congrArg (World.drewN _) (Nat.add_assoc _ _ _))⟩))))
                go_ret
                exact ⟨by first | rfl | (simp; done) | (simp [*]; done), by repeat (first | exact Drawn0.refl _ | apply Drawn0.step)⟩
            · rw [if_neg c6] at H
              exact absurd H (by simp)
          · rw [if_neg c5] at H
            exact absurd H (by simp)
        · rw [if_neg c4] at H
          have c4b0 : decide (x5_1 < (l0.length : Int)) = false := decide_eq_false c4
          clear c4
          obtain rfl := Option.some.inj H
          go_wp2
          repeat (go_quiet (fail); try go_wp2)
          go_ret
          exact ⟨by first | rfl | (simp; done) | (simp [*]; done), by repeat (first | exact Drawn0.refl _ | apply Drawn0.step)⟩
  · rw [if_neg c3] at H
    have c3b0 : ((l0.length : Int) == (l1.length : Int)) = false := beq_eq_false_iff_ne.mpr c3
    have c3b1 : ((l0.length : Int) != (l1.length : Int)) = true := bne_iff_ne.mpr c3
    have c3b2 : (l0.length == l1.length) = false := by first | simpa using c3 | (simp at c3 ⊢; omega)
    obtain rfl := Option.some.inj H
    go_enter Tryd.func29, Tryd.ntmps29
    go_wp2
    repeat (go_quiet (fail); try go_wp2)
    go_ret
    exact ⟨by first | rfl | (simp; done) | (simp [*]; done), by repeat (first | exact Drawn0.refl _ | apply Drawn0.step)⟩
def pomaderef04_Many.l0 : Nat → ByteArray → Int → Int → Int → Option (Int)
  | 0, _, _, _, _ => none
  | k + 1, x0, x1, x5, x6 => if x6 < (x0.size : Int) then (if 0 ≤ x6 then (if (bt x0 x6) = x1 then (pomaderef04_Many.l0 k x0 x1 (wrap64 (x5 + 1)) (wrap64 (x6 + 1))) else (pomaderef04_Many.l0 k x0 x1 x5 (wrap64 (x6 + 1)))) else (none)) else (some x5)
def pomaderef04_Many.f (k : Nat) (a0 : ByteArray) (a1 : Int) : Option (Int) := pomaderef04_Many.l0 k a0 a1 0 0
theorem pomaderef04_Many.mono_l : ∀ k, (∀ y0 y1 y2 y3, LeO (pomaderef04_Many.l0 k y0 y1 y2 y3) (pomaderef04_Many.l0 (k + 1) y0 y1 y2 y3))
  | 0 => fun _ _ _ _ r h => by simp [pomaderef04_Many.l0] at h
  | k + 1 => by
    have ih0 := pomaderef04_Many.mono_l k
    · intro y0 y1 y2 y3
      unfold pomaderef04_Many.l0
      repeat' first
      | (with_reducible exact ih0 _ _ _ _)
      | (with_reducible exact LeO.refl _)
      | (with_reducible exact LeO.none _)
      | (with_reducible refine LeO.ite ?_ ?_)
      | (with_reducible refine LeO.bind ?_ (fun _ => ?_))
      | exact ih0 _ _ _ _
      | exact LeO.none _
      | refine LeO.ite ?_ ?_
      | refine LeO.bind ?_ (fun _ => ?_)
theorem pomaderef04_Many.mono : ∀ a0 a1 k, LeO (pomaderef04_Many.f k a0 a1) (pomaderef04_Many.f (k + 1) a0 a1) := by
  intro a0 a1 k
  have ih0 := pomaderef04_Many.mono_l k
  unfold pomaderef04_Many.f
  repeat' first
      | (with_reducible exact ih0 _ _ _ _)
      | (with_reducible exact LeO.refl _)
      | (with_reducible exact LeO.none _)
      | (with_reducible refine LeO.ite ?_ ?_)
      | (with_reducible refine LeO.bind ?_ (fun _ => ?_))
      | exact ih0 _ _ _ _
      | exact LeO.none _
      | refine LeO.ite ?_ ?_
      | refine LeO.bind ?_ (fun _ => ?_)
set_option maxHeartbeats 8000000 in
set_option maxRecDepth 100000 in
theorem pomaderef04_Many.calls (k : Nat) (a0 : ByteArray) (a1 : Int) (r : Int) (w : World) (h : pomaderef04_Many.f k a0 a1 = some r) :
    Calls Tryd.prog 16 #[.string a0, .int .u8 a1] w fun e w' => e = .returned (.int .i64 r) ∧ Drawn0 w w' := by
  have H : (pomaderef04_Many.l0 k a0 a1 0 0) = some r := h
  clear h
  have H' := Aside0.mk H
  clear H
  go_enter Tryd.func16, Tryd.ntmps16
  go_wp2
  go_loopg [5, 6] k (fun kq v5 v6 w' => ∃ (x5_1 : Int) (x6_1 : Int), v5 = .int .i64 x5_1 ∧ v6 = .int .i64 x6_1 ∧ Aside0 (pomaderef04_Many.l0 kq a0 a1 x5_1 x6_1 = some r) ∧ Aside0 (kq ≤ k) ∧ Drawn0 w w')
  case atStart => exact ⟨(0), (0), (by first | rfl | (simp; done) | (simp [*]; done)), (by first | rfl | (simp; done) | (simp [*]; done)), H', ⟨Nat.le_refl _⟩, by repeat (first | exact Drawn0.refl _ | apply Drawn0.step)⟩
  case round =>
    clear H'
    try clear c1
    try clear p2
    obtain ⟨x5_1, x6_1, rfl, rfl, HA, HK1, ⟨m1, rfl⟩⟩ := hrel
    cases gk with
    | zero => exact absurd HA.out (by simp [pomaderef04_Many.l0])
    | succ k1 =>
      have H := HA.out
      clear HA
      simp only [pomaderef04_Many.l0] at H
      by_cases c3 : x6_1 < (a0.size : Int)
      · rw [if_pos c3] at H
        have c3b0 : decide (x6_1 < (a0.size : Int)) = true := decide_eq_true c3
        clear c3
        by_cases c4 : 0 ≤ x6_1
        · rw [if_pos c4] at H
          have c4b0 : decide (0 ≤ x6_1) = true := decide_eq_true c4
          clear c4
          by_cases c6 : (bt a0 x6_1) = a1
          · rw [if_pos c6] at H
            have c6b0 : ((bt a0 x6_1) == a1) = true := beq_iff_eq.mpr c6
            have c6b1 : ((bt a0 x6_1) != a1) = false := bne_eq_false_iff_eq.mpr c6
            clear c6
            have H' := Aside0.mk H
            clear H
            have p5 : 0 ≤ (x6_1 : Int) := of_decide_eq_true (by first | (with_reducible assumption) | assumption)
            have q5 : x6_1 < (a0.size : Int) := of_decide_eq_true (by first | (with_reducible assumption) | assumption)
            have hx5 := bt_at a0 x6_1
            replace p5 := eq_true p5
            replace q5 := eq_true q5
            go_wp2
            go_roundg k1
            case measure => have := HK1.out; omega
            case rel => exact ⟨(wrap64 (x5_1 + 1)), (wrap64 (x6_1 + 1)), (by first | rfl | (simp; done) | (simp [*]; done)), (by first | rfl | (simp; done) | (simp [*]; done)), H', ⟨by have := HK1.out; omega⟩, by repeat (first | exact Drawn0.refl _ | apply Drawn0.step)⟩
          · rw [if_neg c6] at H
            have c6b0 : ((bt a0 x6_1) == a1) = false := beq_eq_false_iff_ne.mpr c6
            have c6b1 : ((bt a0 x6_1) != a1) = true := bne_iff_ne.mpr c6
            have H' := Aside0.mk H
            clear H
            have p5 : 0 ≤ (x6_1 : Int) := of_decide_eq_true (by first | (with_reducible assumption) | assumption)
            have q5 : x6_1 < (a0.size : Int) := of_decide_eq_true (by first | (with_reducible assumption) | assumption)
            have hx5 := bt_at a0 x6_1
            replace p5 := eq_true p5
            replace q5 := eq_true q5
            go_wp2
            go_roundg k1
            case measure => have := HK1.out; omega
            case rel => exact ⟨(x5_1), (wrap64 (x6_1 + 1)), (by first | rfl | (simp; done) | (simp [*]; done)), (by first | rfl | (simp; done) | (simp [*]; done)), H', ⟨by have := HK1.out; omega⟩, by repeat (first | exact Drawn0.refl _ | apply Drawn0.step)⟩
        · rw [if_neg c4] at H
          exact absurd H (by simp)
      · rw [if_neg c3] at H
        have c3b0 : decide (x6_1 < (a0.size : Int)) = false := decide_eq_false c3
        clear c3
        obtain rfl := Option.some.inj H
        go_wp2
        go_ret
        exact ⟨by first | rfl | (simp; done) | (simp [*]; done), by repeat (first | exact Drawn0.refl _ | apply Drawn0.step)⟩
mutual
def pomaderef04_Board.j0 : Nat → Int → ByteArray → Bool → Bool → Option (Int)
  | 0, _, _, _, _ => none
  | k + 1, x0, x1, x2, x13 => if x13 = true then (some 2) else (if (x1.size : Int) = (wrap64 (x0 * x0)) then (pomaderef04_Board.l0 k x1 x2 0) else (some 5))
def pomaderef04_Board.l0 : Nat → ByteArray → Bool → Int → Option (Int)
  | 0, _, _, _ => none
  | k + 1, x1, x2, x7 => if x7 < (x1.size : Int) then (if 0 ≤ x7 then (if (bt x1 x7) = 120 then (pomaderef04_Board.l0 k x1 x2 (wrap64 (x7 + 1))) else (if (bt x1 x7) = 111 then (pomaderef04_Board.l0 k x1 x2 (wrap64 (x7 + 1))) else (if (bt x1 x7) = 46 then (if x2 = true then (pomaderef04_Board.l0 k x1 x2 (wrap64 (x7 + 1))) else (some 5)) else (some 5)))) else (none)) else (some 0)
end
def pomaderef04_Board.f (k : Nat) (a0 : Int) (a1 : ByteArray) (a2 : Bool) : Option (Int) := if a0 < 1 then (pomaderef04_Board.j0 k a0 a1 a2 true) else (pomaderef04_Board.j0 k a0 a1 a2 (decide (a0 > 11)))
theorem pomaderef04_Board.mono_l : ∀ k, (∀ y0 y1 y2 y3, LeO (pomaderef04_Board.j0 k y0 y1 y2 y3) (pomaderef04_Board.j0 (k + 1) y0 y1 y2 y3)) ∧ (∀ y0 y1 y2, LeO (pomaderef04_Board.l0 k y0 y1 y2) (pomaderef04_Board.l0 (k + 1) y0 y1 y2))
  | 0 => ⟨fun _ _ _ _ r h => by simp [pomaderef04_Board.j0] at h, fun _ _ _ r h => by simp [pomaderef04_Board.l0] at h⟩
  | k + 1 => by
    obtain ⟨ih0, ih1⟩ := pomaderef04_Board.mono_l k
    refine ⟨?_, ?_⟩
    · intro y0 y1 y2 y3
      unfold pomaderef04_Board.j0
      repeat' first
      | (with_reducible exact ih0 _ _ _ _)
      | (with_reducible exact ih1 _ _ _)
      | (with_reducible exact LeO.refl _)
      | (with_reducible exact LeO.none _)
      | (with_reducible refine LeO.ite ?_ ?_)
      | (with_reducible refine LeO.bind ?_ (fun _ => ?_))
      | exact ih0 _ _ _ _
      | exact ih1 _ _ _
      | exact LeO.none _
      | refine LeO.ite ?_ ?_
      | refine LeO.bind ?_ (fun _ => ?_)
    · intro y0 y1 y2
      unfold pomaderef04_Board.l0
      repeat' first
      | (with_reducible exact ih0 _ _ _ _)
      | (with_reducible exact ih1 _ _ _)
      | (with_reducible exact LeO.refl _)
      | (with_reducible exact LeO.none _)
      | (with_reducible refine LeO.ite ?_ ?_)
      | (with_reducible refine LeO.bind ?_ (fun _ => ?_))
      | exact ih0 _ _ _ _
      | exact ih1 _ _ _
      | exact LeO.none _
      | refine LeO.ite ?_ ?_
      | refine LeO.bind ?_ (fun _ => ?_)
theorem pomaderef04_Board.mono : ∀ a0 a1 a2 k, LeO (pomaderef04_Board.f k a0 a1 a2) (pomaderef04_Board.f (k + 1) a0 a1 a2) := by
  intro a0 a1 a2 k
  obtain ⟨ih0, ih1⟩ := pomaderef04_Board.mono_l k
  unfold pomaderef04_Board.f
  repeat' first
      | (with_reducible exact ih0 _ _ _ _)
      | (with_reducible exact ih1 _ _ _)
      | (with_reducible exact LeO.refl _)
      | (with_reducible exact LeO.none _)
      | (with_reducible refine LeO.ite ?_ ?_)
      | (with_reducible refine LeO.bind ?_ (fun _ => ?_))
      | exact ih0 _ _ _ _
      | exact ih1 _ _ _
      | exact LeO.none _
      | refine LeO.ite ?_ ?_
      | refine LeO.bind ?_ (fun _ => ?_)
set_option maxHeartbeats 8000000 in
set_option maxRecDepth 100000 in
theorem pomaderef04_Board.calls (k : Nat) (a0 : Int) (a1 : ByteArray) (a2 : Bool) (r : Int) (w : World) (h : pomaderef04_Board.f k a0 a1 a2 = some r) :
    Calls Tryd.prog 22 #[.int .i64 a0, .string a1, .bool a2] w fun e w' => e = .returned (.int .i64 r) ∧ Drawn0 w w' := by
  have H : (if a0 < 1 then (pomaderef04_Board.j0 k a0 a1 a2 true) else (pomaderef04_Board.j0 k a0 a1 a2 (decide (a0 > 11)))) = some r := h
  clear h
  have HC4 := Aside0.mk H
  clear H
  go_enter Tryd.func22, Tryd.ntmps22
  go_upto_region 1 with (fail)
  go_cut [13] (fun v13 wc => ∃ (kq : Nat) (x13_3 : Bool), v13 = .bool x13_3 ∧ Aside0 (pomaderef04_Board.j0 kq a0 a1 a2 x13_3 = some r) ∧ Aside0 (kq ≤ k) ∧ Drawn0 w wc)
  case first =>
    have H := HC4.out
    clear HC4
    by_cases c5 : a0 < 1
    · rw [if_pos c5] at H
      have c5b0 : decide (a0 < 1) = true := decide_eq_true c5
      clear c5
      (first | rw [c5b0] | (simp only [i64_w, i32_w]; rw [c5b0]) | skip)
      have H' := Aside0.mk H
      clear H
      go_wp2
      go_meet
      case rel => exact ⟨_, (true), (by first | rfl | (simp; done) | (simp [*]; done)), H', ⟨by first | omega | exact Nat.le_refl _⟩, by repeat (first | exact Drawn0.refl _ | apply Drawn0.step)⟩
    · rw [if_neg c5] at H
      have c5b0 : decide (a0 < 1) = false := decide_eq_false c5
      clear c5
      (first | rw [c5b0] | (simp only [i64_w, i32_w]; rw [c5b0]) | skip)
      have H' := Aside0.mk H
      clear H
      go_wp2
      go_meet
      case rel => exact ⟨_, (decide (a0 > 11)), (by first | rfl | (simp; done) | (simp [*]; done)), H', ⟨by first | omega | exact Nat.le_refl _⟩, by repeat (first | exact Drawn0.refl _ | apply Drawn0.step)⟩
  case rest =>
    clear HC4
    try clear c2
    try clear p2
    try clear c5
    try clear c5b0
    obtain ⟨kq, x13_3, rfl, HA, HJ3, ⟨mc3, rfl⟩⟩ := hcut
    cases kq with
    | zero => exact absurd HA.out (by simp [pomaderef04_Board.j0])
    | succ kj3 =>
      have H := HA.out
      clear HA
      simp only [pomaderef04_Board.j0] at H
      by_cases c6 : x13_3 = true
      · subst c6
        have H1 : (some 2) = some r := by rw [if_pos rfl] at H; exact H
        clear H
        have H := H1
        clear H1
        obtain rfl := Option.some.inj H
        go_wp2
        go_ret
        exact ⟨by first | rfl | (simp; done) | (simp [*]; done), by repeat (first | exact Drawn0.refl _ | apply Drawn0.step)⟩
      · replace c6 := Bool.eq_false_iff.mpr c6
        subst c6
        have H1 : (if (a1.size : Int) = (wrap64 (a0 * a0)) then (pomaderef04_Board.l0 kj3 a1 a2 0) else (some 5)) = some r := by rw [if_neg (show ¬ (false = true) by decide)] at H; exact H
        clear H
        have H := H1
        clear H1
        by_cases c7 : (a1.size : Int) = (wrap64 (a0 * a0))
        · rw [if_pos c7] at H
          have c7b0 : ((a1.size : Int) == (wrap64 (a0 * a0))) = true := beq_iff_eq.mpr c7
          have c7b1 : ((a1.size : Int) != (wrap64 (a0 * a0))) = false := bne_eq_false_iff_eq.mpr c7
          clear c7
          have H' := Aside0.mk H
          clear H
          go_wp2
          go_loopg [7] kj3 (fun kq v7 w' => ∃ (x7_2 : Int), v7 = .int .i64 x7_2 ∧ Aside0 (pomaderef04_Board.l0 kq a1 a2 x7_2 = some r) ∧ Aside0 (kq ≤ kj3) ∧ Drawn0 w w')
          case atStart => exact ⟨(0), (by first | rfl | (simp; done) | (simp [*]; done)), H', ⟨Nat.le_refl _⟩, by repeat (first | exact Drawn0.refl _ | apply Drawn0.step)⟩
          case round =>
            clear H'
            try clear c2
            try clear p2
            try clear c3
            try clear c5
            try clear c5b0
            try clear c6
            try clear p6
            try clear c7
            try clear c7b0
            try clear c7b1
            try clear p2
            obtain ⟨x7_2, rfl, HA, HK2, ⟨m2, rfl⟩⟩ := hrel
            cases gk with
            | zero => exact absurd HA.out (by simp [pomaderef04_Board.l0])
            | succ k2 =>
              have H := HA.out
              clear HA
              simp only [pomaderef04_Board.l0] at H
              by_cases c8 : x7_2 < (a1.size : Int)
              · rw [if_pos c8] at H
                have c8b0 : decide (x7_2 < (a1.size : Int)) = true := decide_eq_true c8
                clear c8
                by_cases c9 : 0 ≤ x7_2
                · rw [if_pos c9] at H
                  have c9b0 : decide (0 ≤ x7_2) = true := decide_eq_true c9
                  clear c9
                  by_cases c11 : (bt a1 x7_2) = 120
                  · rw [if_pos c11] at H
                    have c11b0 : ((bt a1 x7_2) == 120) = true := beq_iff_eq.mpr c11
                    have c11b1 : ((bt a1 x7_2) != 120) = false := bne_eq_false_iff_eq.mpr c11
                    clear c11
                    have H' := Aside0.mk H
                    clear H
                    have p10 : 0 ≤ (x7_2 : Int) := of_decide_eq_true (by first | (with_reducible assumption) | assumption)
                    have q10 : x7_2 < (a1.size : Int) := of_decide_eq_true (by first | (with_reducible assumption) | assumption)
                    have hx10 := bt_at a1 x7_2
                    replace p10 := eq_true p10
                    replace q10 := eq_true q10
                    go_wp2
                    go_roundg k2
                    case measure => have := HJ3.out; have := HK2.out; omega
                    case rel => exact ⟨(wrap64 (x7_2 + 1)), (by first | rfl | (simp; done) | (simp [*]; done)), H', ⟨by have := HJ3.out; have := HK2.out; omega⟩, by repeat (first | exact Drawn0.refl _ | apply Drawn0.step)⟩
                  · rw [if_neg c11] at H
                    have c11b0 : ((bt a1 x7_2) == 120) = false := beq_eq_false_iff_ne.mpr c11
                    have c11b1 : ((bt a1 x7_2) != 120) = true := bne_iff_ne.mpr c11
                    by_cases c13 : (bt a1 x7_2) = 111
                    · rw [if_pos c13] at H
                      have c13b0 : ((bt a1 x7_2) == 111) = true := beq_iff_eq.mpr c13
                      have c13b1 : ((bt a1 x7_2) != 111) = false := bne_eq_false_iff_eq.mpr c13
                      clear c13
                      have H' := Aside0.mk H
                      clear H
                      have p10 : 0 ≤ (x7_2 : Int) := of_decide_eq_true (by first | (with_reducible assumption) | assumption)
                      have q10 : x7_2 < (a1.size : Int) := of_decide_eq_true (by first | (with_reducible assumption) | assumption)
                      have hx10 := bt_at a1 x7_2
                      replace p10 := eq_true p10
                      replace q10 := eq_true q10
                      have p12 : 0 ≤ (x7_2 : Int) := of_decide_eq_true (by first | (with_reducible assumption) | assumption)
                      have q12 : x7_2 < (a1.size : Int) := of_decide_eq_true (by first | (with_reducible assumption) | assumption)
                      have hx12 := bt_at a1 x7_2
                      replace p12 := eq_true p12
                      replace q12 := eq_true q12
                      go_wp2
                      go_roundg k2
                      case measure => have := HJ3.out; have := HK2.out; omega
                      case rel => exact ⟨(wrap64 (x7_2 + 1)), (by first | rfl | (simp; done) | (simp [*]; done)), H', ⟨by have := HJ3.out; have := HK2.out; omega⟩, by repeat (first | exact Drawn0.refl _ | apply Drawn0.step)⟩
                    · rw [if_neg c13] at H
                      have c13b0 : ((bt a1 x7_2) == 111) = false := beq_eq_false_iff_ne.mpr c13
                      have c13b1 : ((bt a1 x7_2) != 111) = true := bne_iff_ne.mpr c13
                      by_cases c15 : (bt a1 x7_2) = 46
                      · rw [if_pos c15] at H
                        have c15b0 : ((bt a1 x7_2) == 46) = true := beq_iff_eq.mpr c15
                        have c15b1 : ((bt a1 x7_2) != 46) = false := bne_eq_false_iff_eq.mpr c15
                        clear c15
                        by_cases c16 : a2 = true
                        · subst c16
                          have H1 : (pomaderef04_Board.l0 k2 a1 true (wrap64 (x7_2 + 1))) = some r := by rw [if_pos rfl] at H; exact H
                          clear H
                          have H := H1
                          clear H1
                          have H' := Aside0.mk H
                          clear H
                          have p10 : 0 ≤ (x7_2 : Int) := of_decide_eq_true (by first | (with_reducible assumption) | assumption)
                          have q10 : x7_2 < (a1.size : Int) := of_decide_eq_true (by first | (with_reducible assumption) | assumption)
                          have hx10 := bt_at a1 x7_2
                          replace p10 := eq_true p10
                          replace q10 := eq_true q10
                          have p12 : 0 ≤ (x7_2 : Int) := of_decide_eq_true (by first | (with_reducible assumption) | assumption)
                          have q12 : x7_2 < (a1.size : Int) := of_decide_eq_true (by first | (with_reducible assumption) | assumption)
                          have hx12 := bt_at a1 x7_2
                          replace p12 := eq_true p12
                          replace q12 := eq_true q12
                          have p14 : 0 ≤ (x7_2 : Int) := of_decide_eq_true (by first | (with_reducible assumption) | assumption)
                          have q14 : x7_2 < (a1.size : Int) := of_decide_eq_true (by first | (with_reducible assumption) | assumption)
                          have hx14 := bt_at a1 x7_2
                          replace p14 := eq_true p14
                          replace q14 := eq_true q14
                          go_wp2
                          go_roundg k2
                          case measure => have := HJ3.out; have := HK2.out; omega
                          case rel => exact ⟨(wrap64 (x7_2 + 1)), (by first | rfl | (simp; done) | (simp [*]; done)), H', ⟨by have := HJ3.out; have := HK2.out; omega⟩, by repeat (first | exact Drawn0.refl _ | apply Drawn0.step)⟩
                        · replace c16 := Bool.eq_false_iff.mpr c16
                          subst c16
                          have H1 : (some 5) = some r := by rw [if_neg (show ¬ (false = true) by decide)] at H; exact H
                          clear H
                          have H := H1
                          clear H1
                          obtain rfl := Option.some.inj H
                          have p10 : 0 ≤ (x7_2 : Int) := of_decide_eq_true (by first | (with_reducible assumption) | assumption)
                          have q10 : x7_2 < (a1.size : Int) := of_decide_eq_true (by first | (with_reducible assumption) | assumption)
                          have hx10 := bt_at a1 x7_2
                          replace p10 := eq_true p10
                          replace q10 := eq_true q10
                          have p12 : 0 ≤ (x7_2 : Int) := of_decide_eq_true (by first | (with_reducible assumption) | assumption)
                          have q12 : x7_2 < (a1.size : Int) := of_decide_eq_true (by first | (with_reducible assumption) | assumption)
                          have hx12 := bt_at a1 x7_2
                          replace p12 := eq_true p12
                          replace q12 := eq_true q12
                          have p14 : 0 ≤ (x7_2 : Int) := of_decide_eq_true (by first | (with_reducible assumption) | assumption)
                          have q14 : x7_2 < (a1.size : Int) := of_decide_eq_true (by first | (with_reducible assumption) | assumption)
                          have hx14 := bt_at a1 x7_2
                          replace p14 := eq_true p14
                          replace q14 := eq_true q14
                          go_wp2
                          go_ret
                          exact ⟨by first | rfl | (simp; done) | (simp [*]; done), by repeat (first | exact Drawn0.refl _ | apply Drawn0.step)⟩
                      · rw [if_neg c15] at H
                        have c15b0 : ((bt a1 x7_2) == 46) = false := beq_eq_false_iff_ne.mpr c15
                        have c15b1 : ((bt a1 x7_2) != 46) = true := bne_iff_ne.mpr c15
                        obtain rfl := Option.some.inj H
                        have p10 : 0 ≤ (x7_2 : Int) := of_decide_eq_true (by first | (with_reducible assumption) | assumption)
                        have q10 : x7_2 < (a1.size : Int) := of_decide_eq_true (by first | (with_reducible assumption) | assumption)
                        have hx10 := bt_at a1 x7_2
                        replace p10 := eq_true p10
                        replace q10 := eq_true q10
                        have p12 : 0 ≤ (x7_2 : Int) := of_decide_eq_true (by first | (with_reducible assumption) | assumption)
                        have q12 : x7_2 < (a1.size : Int) := of_decide_eq_true (by first | (with_reducible assumption) | assumption)
                        have hx12 := bt_at a1 x7_2
                        replace p12 := eq_true p12
                        replace q12 := eq_true q12
                        have p14 : 0 ≤ (x7_2 : Int) := of_decide_eq_true (by first | (with_reducible assumption) | assumption)
                        have q14 : x7_2 < (a1.size : Int) := of_decide_eq_true (by first | (with_reducible assumption) | assumption)
                        have hx14 := bt_at a1 x7_2
                        replace p14 := eq_true p14
                        replace q14 := eq_true q14
                        go_wp2
                        go_ret
                        exact ⟨by first | rfl | (simp; done) | (simp [*]; done), by repeat (first | exact Drawn0.refl _ | apply Drawn0.step)⟩
                · rw [if_neg c9] at H
                  exact absurd H (by simp)
              · rw [if_neg c8] at H
                have c8b0 : decide (x7_2 < (a1.size : Int)) = false := decide_eq_false c8
                clear c8
                obtain rfl := Option.some.inj H
                go_wp2
                go_ret
                exact ⟨by first | rfl | (simp; done) | (simp [*]; done), by repeat (first | exact Drawn0.refl _ | apply Drawn0.step)⟩
        · rw [if_neg c7] at H
          have c7b0 : ((a1.size : Int) == (wrap64 (a0 * a0))) = false := beq_eq_false_iff_ne.mpr c7
          have c7b1 : ((a1.size : Int) != (wrap64 (a0 * a0))) = true := bne_iff_ne.mpr c7
          obtain rfl := Option.some.inj H
          go_wp2
          go_ret
          exact ⟨by first | rfl | (simp; done) | (simp [*]; done), by repeat (first | exact Drawn0.refl _ | apply Drawn0.step)⟩
def pomaderef04_Near.f (a0 : Int) (a1 : Int) (a2 : Int) : Option (Bool) := if a0 = 0 then (none) else (if (wrap64 ((wrap64 (Int.tdiv a2 a0)) - (wrap64 (Int.tdiv a1 a0)))) = 0 then (if (wrap64 ((Int.tmod a2 a0) - (Int.tmod a1 a0))) = 1 then (some true) else (if (wrap64 ((Int.tmod a2 a0) - (Int.tmod a1 a0))) = (-1) then (some true) else (if (wrap64 ((wrap64 (Int.tdiv a2 a0)) - (wrap64 (Int.tdiv a1 a0)))) = (-1) then (if (wrap64 ((Int.tmod a2 a0) - (Int.tmod a1 a0))) = 0 then (some true) else (if (wrap64 ((wrap64 (Int.tdiv a2 a0)) - (wrap64 (Int.tdiv a1 a0)))) = 1 then (some ((wrap64 ((Int.tmod a2 a0) - (Int.tmod a1 a0))) == 0)) else (some false))) else (if (wrap64 ((wrap64 (Int.tdiv a2 a0)) - (wrap64 (Int.tdiv a1 a0)))) = 1 then (some ((wrap64 ((Int.tmod a2 a0) - (Int.tmod a1 a0))) == 0)) else (some false))))) else (if (wrap64 ((wrap64 (Int.tdiv a2 a0)) - (wrap64 (Int.tdiv a1 a0)))) = (-1) then (if (wrap64 ((Int.tmod a2 a0) - (Int.tmod a1 a0))) = 0 then (some true) else (if (wrap64 ((Int.tmod a2 a0) - (Int.tmod a1 a0))) = 1 then (some true) else (if (wrap64 ((wrap64 (Int.tdiv a2 a0)) - (wrap64 (Int.tdiv a1 a0)))) = 1 then (if (wrap64 ((Int.tmod a2 a0) - (Int.tmod a1 a0))) = (-1) then (some true) else (some ((wrap64 ((Int.tmod a2 a0) - (Int.tmod a1 a0))) == 0))) else (some false)))) else (if (wrap64 ((wrap64 (Int.tdiv a2 a0)) - (wrap64 (Int.tdiv a1 a0)))) = 1 then (if (wrap64 ((Int.tmod a2 a0) - (Int.tmod a1 a0))) = (-1) then (some true) else (some ((wrap64 ((Int.tmod a2 a0) - (Int.tmod a1 a0))) == 0))) else (some false))))
set_option maxHeartbeats 8000000 in
set_option maxRecDepth 100000 in
theorem pomaderef04_Near.calls (a0 : Int) (a1 : Int) (a2 : Int) (r : Bool) (w : World) (h : pomaderef04_Near.f a0 a1 a2 = some r) :
    Calls Tryd.prog 68 #[.int .i64 a0, .int .i64 a1, .int .i64 a2] w fun e w' => e = .returned (.bool r) ∧ Drawn0 w w' := by
  have H : (if a0 = 0 then (none) else (if (wrap64 ((wrap64 (Int.tdiv a2 a0)) - (wrap64 (Int.tdiv a1 a0)))) = 0 then (if (wrap64 ((Int.tmod a2 a0) - (Int.tmod a1 a0))) = 1 then (some true) else (if (wrap64 ((Int.tmod a2 a0) - (Int.tmod a1 a0))) = (-1) then (some true) else (if (wrap64 ((wrap64 (Int.tdiv a2 a0)) - (wrap64 (Int.tdiv a1 a0)))) = (-1) then (if (wrap64 ((Int.tmod a2 a0) - (Int.tmod a1 a0))) = 0 then (some true) else (if (wrap64 ((wrap64 (Int.tdiv a2 a0)) - (wrap64 (Int.tdiv a1 a0)))) = 1 then (some ((wrap64 ((Int.tmod a2 a0) - (Int.tmod a1 a0))) == 0)) else (some false))) else (if (wrap64 ((wrap64 (Int.tdiv a2 a0)) - (wrap64 (Int.tdiv a1 a0)))) = 1 then (some ((wrap64 ((Int.tmod a2 a0) - (Int.tmod a1 a0))) == 0)) else (some false))))) else (if (wrap64 ((wrap64 (Int.tdiv a2 a0)) - (wrap64 (Int.tdiv a1 a0)))) = (-1) then (if (wrap64 ((Int.tmod a2 a0) - (Int.tmod a1 a0))) = 0 then (some true) else (if (wrap64 ((Int.tmod a2 a0) - (Int.tmod a1 a0))) = 1 then (some true) else (if (wrap64 ((wrap64 (Int.tdiv a2 a0)) - (wrap64 (Int.tdiv a1 a0)))) = 1 then (if (wrap64 ((Int.tmod a2 a0) - (Int.tmod a1 a0))) = (-1) then (some true) else (some ((wrap64 ((Int.tmod a2 a0) - (Int.tmod a1 a0))) == 0))) else (some false)))) else (if (wrap64 ((wrap64 (Int.tdiv a2 a0)) - (wrap64 (Int.tdiv a1 a0)))) = 1 then (if (wrap64 ((Int.tmod a2 a0) - (Int.tmod a1 a0))) = (-1) then (some true) else (some ((wrap64 ((Int.tmod a2 a0) - (Int.tmod a1 a0))) == 0))) else (some false))))) = some r := h
  clear h
  by_cases c4 : a0 = 0
  · rw [if_pos c4] at H
    exact absurd H (by simp)
  · rw [if_neg c4] at H
    have c4b0 : (a0 == 0) = false := beq_eq_false_iff_ne.mpr c4
    have c4b1 : (a0 != 0) = true := bne_iff_ne.mpr c4
    by_cases c5 : (wrap64 ((wrap64 (Int.tdiv a2 a0)) - (wrap64 (Int.tdiv a1 a0)))) = 0
    · rw [if_pos c5] at H
      have c5b0 : ((wrap64 ((wrap64 (Int.tdiv a2 a0)) - (wrap64 (Int.tdiv a1 a0)))) == 0) = true := beq_iff_eq.mpr c5
      have c5b1 : ((wrap64 ((wrap64 (Int.tdiv a2 a0)) - (wrap64 (Int.tdiv a1 a0)))) != 0) = false := bne_eq_false_iff_eq.mpr c5
      clear c5
      by_cases c6 : (wrap64 ((Int.tmod a2 a0) - (Int.tmod a1 a0))) = 1
      · rw [if_pos c6] at H
        have c6b0 : ((wrap64 ((Int.tmod a2 a0) - (Int.tmod a1 a0))) == 1) = true := beq_iff_eq.mpr c6
        have c6b1 : ((wrap64 ((Int.tmod a2 a0) - (Int.tmod a1 a0))) != 1) = false := bne_eq_false_iff_eq.mpr c6
        clear c6
        obtain rfl := Option.some.inj H
        go_enter Tryd.func68, Tryd.ntmps68
        go_wp2
        repeat (go_quiet (fail); try go_wp2)
        go_ret
        exact ⟨by first | rfl | (simp; done) | (simp [*]; done), by repeat (first | exact Drawn0.refl _ | apply Drawn0.step)⟩
      · rw [if_neg c6] at H
        have c6b0 : ((wrap64 ((Int.tmod a2 a0) - (Int.tmod a1 a0))) == 1) = false := beq_eq_false_iff_ne.mpr c6
        have c6b1 : ((wrap64 ((Int.tmod a2 a0) - (Int.tmod a1 a0))) != 1) = true := bne_iff_ne.mpr c6
        by_cases c7 : (wrap64 ((Int.tmod a2 a0) - (Int.tmod a1 a0))) = (-1)
        · rw [if_pos c7] at H
          have c7b0 : ((wrap64 ((Int.tmod a2 a0) - (Int.tmod a1 a0))) == (-1)) = true := beq_iff_eq.mpr c7
          have c7b1 : ((wrap64 ((Int.tmod a2 a0) - (Int.tmod a1 a0))) != (-1)) = false := bne_eq_false_iff_eq.mpr c7
          clear c7
          obtain rfl := Option.some.inj H
          go_enter Tryd.func68, Tryd.ntmps68
          go_wp2
          repeat (go_quiet (fail); try go_wp2)
          go_ret
          exact ⟨by first | rfl | (simp; done) | (simp [*]; done), by repeat (first | exact Drawn0.refl _ | apply Drawn0.step)⟩
        · rw [if_neg c7] at H
          have c7b0 : ((wrap64 ((Int.tmod a2 a0) - (Int.tmod a1 a0))) == (-1)) = false := beq_eq_false_iff_ne.mpr c7
          have c7b1 : ((wrap64 ((Int.tmod a2 a0) - (Int.tmod a1 a0))) != (-1)) = true := bne_iff_ne.mpr c7
          by_cases c8 : (wrap64 ((wrap64 (Int.tdiv a2 a0)) - (wrap64 (Int.tdiv a1 a0)))) = (-1)
          · rw [if_pos c8] at H
            have c8b0 : ((wrap64 ((wrap64 (Int.tdiv a2 a0)) - (wrap64 (Int.tdiv a1 a0)))) == (-1)) = true := beq_iff_eq.mpr c8
            have c8b1 : ((wrap64 ((wrap64 (Int.tdiv a2 a0)) - (wrap64 (Int.tdiv a1 a0)))) != (-1)) = false := bne_eq_false_iff_eq.mpr c8
            clear c8
            by_cases c9 : (wrap64 ((Int.tmod a2 a0) - (Int.tmod a1 a0))) = 0
            · rw [if_pos c9] at H
              have c9b0 : ((wrap64 ((Int.tmod a2 a0) - (Int.tmod a1 a0))) == 0) = true := beq_iff_eq.mpr c9
              have c9b1 : ((wrap64 ((Int.tmod a2 a0) - (Int.tmod a1 a0))) != 0) = false := bne_eq_false_iff_eq.mpr c9
              clear c9
              obtain rfl := Option.some.inj H
              go_enter Tryd.func68, Tryd.ntmps68
              go_wp2
              repeat (go_quiet (fail); try go_wp2)
              go_ret
              exact ⟨by first | rfl | (simp; done) | (simp [*]; done), by repeat (first | exact Drawn0.refl _ | apply Drawn0.step)⟩
            · rw [if_neg c9] at H
              have c9b0 : ((wrap64 ((Int.tmod a2 a0) - (Int.tmod a1 a0))) == 0) = false := beq_eq_false_iff_ne.mpr c9
              have c9b1 : ((wrap64 ((Int.tmod a2 a0) - (Int.tmod a1 a0))) != 0) = true := bne_iff_ne.mpr c9
              by_cases c10 : (wrap64 ((wrap64 (Int.tdiv a2 a0)) - (wrap64 (Int.tdiv a1 a0)))) = 1
              · rw [if_pos c10] at H
                have c10b0 : ((wrap64 ((wrap64 (Int.tdiv a2 a0)) - (wrap64 (Int.tdiv a1 a0)))) == 1) = true := beq_iff_eq.mpr c10
                have c10b1 : ((wrap64 ((wrap64 (Int.tdiv a2 a0)) - (wrap64 (Int.tdiv a1 a0)))) != 1) = false := bne_eq_false_iff_eq.mpr c10
                clear c10
                obtain rfl := Option.some.inj H
                go_enter Tryd.func68, Tryd.ntmps68
                go_wp2
                repeat (go_quiet (fail); try go_wp2)
                go_ret
                exact ⟨by first | rfl | (simp; done) | (simp [*]; done), by repeat (first | exact Drawn0.refl _ | apply Drawn0.step)⟩
              · rw [if_neg c10] at H
                have c10b0 : ((wrap64 ((wrap64 (Int.tdiv a2 a0)) - (wrap64 (Int.tdiv a1 a0)))) == 1) = false := beq_eq_false_iff_ne.mpr c10
                have c10b1 : ((wrap64 ((wrap64 (Int.tdiv a2 a0)) - (wrap64 (Int.tdiv a1 a0)))) != 1) = true := bne_iff_ne.mpr c10
                obtain rfl := Option.some.inj H
                go_enter Tryd.func68, Tryd.ntmps68
                go_wp2
                repeat (go_quiet (fail); try go_wp2)
                go_ret
                exact ⟨by first | rfl | (simp; done) | (simp [*]; done), by repeat (first | exact Drawn0.refl _ | apply Drawn0.step)⟩
          · rw [if_neg c8] at H
            have c8b0 : ((wrap64 ((wrap64 (Int.tdiv a2 a0)) - (wrap64 (Int.tdiv a1 a0)))) == (-1)) = false := beq_eq_false_iff_ne.mpr c8
            have c8b1 : ((wrap64 ((wrap64 (Int.tdiv a2 a0)) - (wrap64 (Int.tdiv a1 a0)))) != (-1)) = true := bne_iff_ne.mpr c8
            by_cases c11 : (wrap64 ((wrap64 (Int.tdiv a2 a0)) - (wrap64 (Int.tdiv a1 a0)))) = 1
            · rw [if_pos c11] at H
              have c11b0 : ((wrap64 ((wrap64 (Int.tdiv a2 a0)) - (wrap64 (Int.tdiv a1 a0)))) == 1) = true := beq_iff_eq.mpr c11
              have c11b1 : ((wrap64 ((wrap64 (Int.tdiv a2 a0)) - (wrap64 (Int.tdiv a1 a0)))) != 1) = false := bne_eq_false_iff_eq.mpr c11
              clear c11
              obtain rfl := Option.some.inj H
              go_enter Tryd.func68, Tryd.ntmps68
              go_wp2
              repeat (go_quiet (fail); try go_wp2)
              go_ret
              exact ⟨by first | rfl | (simp; done) | (simp [*]; done), by repeat (first | exact Drawn0.refl _ | apply Drawn0.step)⟩
            · rw [if_neg c11] at H
              have c11b0 : ((wrap64 ((wrap64 (Int.tdiv a2 a0)) - (wrap64 (Int.tdiv a1 a0)))) == 1) = false := beq_eq_false_iff_ne.mpr c11
              have c11b1 : ((wrap64 ((wrap64 (Int.tdiv a2 a0)) - (wrap64 (Int.tdiv a1 a0)))) != 1) = true := bne_iff_ne.mpr c11
              obtain rfl := Option.some.inj H
              go_enter Tryd.func68, Tryd.ntmps68
              go_wp2
              repeat (go_quiet (fail); try go_wp2)
              go_ret
              exact ⟨by first | rfl | (simp; done) | (simp [*]; done), by repeat (first | exact Drawn0.refl _ | apply Drawn0.step)⟩
    · rw [if_neg c5] at H
      have c5b0 : ((wrap64 ((wrap64 (Int.tdiv a2 a0)) - (wrap64 (Int.tdiv a1 a0)))) == 0) = false := beq_eq_false_iff_ne.mpr c5
      have c5b1 : ((wrap64 ((wrap64 (Int.tdiv a2 a0)) - (wrap64 (Int.tdiv a1 a0)))) != 0) = true := bne_iff_ne.mpr c5
      by_cases c12 : (wrap64 ((wrap64 (Int.tdiv a2 a0)) - (wrap64 (Int.tdiv a1 a0)))) = (-1)
      · rw [if_pos c12] at H
        have c12b0 : ((wrap64 ((wrap64 (Int.tdiv a2 a0)) - (wrap64 (Int.tdiv a1 a0)))) == (-1)) = true := beq_iff_eq.mpr c12
        have c12b1 : ((wrap64 ((wrap64 (Int.tdiv a2 a0)) - (wrap64 (Int.tdiv a1 a0)))) != (-1)) = false := bne_eq_false_iff_eq.mpr c12
        clear c12
        by_cases c13 : (wrap64 ((Int.tmod a2 a0) - (Int.tmod a1 a0))) = 0
        · rw [if_pos c13] at H
          have c13b0 : ((wrap64 ((Int.tmod a2 a0) - (Int.tmod a1 a0))) == 0) = true := beq_iff_eq.mpr c13
          have c13b1 : ((wrap64 ((Int.tmod a2 a0) - (Int.tmod a1 a0))) != 0) = false := bne_eq_false_iff_eq.mpr c13
          clear c13
          obtain rfl := Option.some.inj H
          go_enter Tryd.func68, Tryd.ntmps68
          go_wp2
          repeat (go_quiet (fail); try go_wp2)
          go_ret
          exact ⟨by first | rfl | (simp; done) | (simp [*]; done), by repeat (first | exact Drawn0.refl _ | apply Drawn0.step)⟩
        · rw [if_neg c13] at H
          have c13b0 : ((wrap64 ((Int.tmod a2 a0) - (Int.tmod a1 a0))) == 0) = false := beq_eq_false_iff_ne.mpr c13
          have c13b1 : ((wrap64 ((Int.tmod a2 a0) - (Int.tmod a1 a0))) != 0) = true := bne_iff_ne.mpr c13
          by_cases c14 : (wrap64 ((Int.tmod a2 a0) - (Int.tmod a1 a0))) = 1
          · rw [if_pos c14] at H
            have c14b0 : ((wrap64 ((Int.tmod a2 a0) - (Int.tmod a1 a0))) == 1) = true := beq_iff_eq.mpr c14
            have c14b1 : ((wrap64 ((Int.tmod a2 a0) - (Int.tmod a1 a0))) != 1) = false := bne_eq_false_iff_eq.mpr c14
            clear c14
            obtain rfl := Option.some.inj H
            go_enter Tryd.func68, Tryd.ntmps68
            go_wp2
            repeat (go_quiet (fail); try go_wp2)
            go_ret
            exact ⟨by first | rfl | (simp; done) | (simp [*]; done), by repeat (first | exact Drawn0.refl _ | apply Drawn0.step)⟩
          · rw [if_neg c14] at H
            have c14b0 : ((wrap64 ((Int.tmod a2 a0) - (Int.tmod a1 a0))) == 1) = false := beq_eq_false_iff_ne.mpr c14
            have c14b1 : ((wrap64 ((Int.tmod a2 a0) - (Int.tmod a1 a0))) != 1) = true := bne_iff_ne.mpr c14
            by_cases c15 : (wrap64 ((wrap64 (Int.tdiv a2 a0)) - (wrap64 (Int.tdiv a1 a0)))) = 1
            · rw [if_pos c15] at H
              have c15b0 : ((wrap64 ((wrap64 (Int.tdiv a2 a0)) - (wrap64 (Int.tdiv a1 a0)))) == 1) = true := beq_iff_eq.mpr c15
              have c15b1 : ((wrap64 ((wrap64 (Int.tdiv a2 a0)) - (wrap64 (Int.tdiv a1 a0)))) != 1) = false := bne_eq_false_iff_eq.mpr c15
              clear c15
              by_cases c16 : (wrap64 ((Int.tmod a2 a0) - (Int.tmod a1 a0))) = (-1)
              · rw [if_pos c16] at H
                have c16b0 : ((wrap64 ((Int.tmod a2 a0) - (Int.tmod a1 a0))) == (-1)) = true := beq_iff_eq.mpr c16
                have c16b1 : ((wrap64 ((Int.tmod a2 a0) - (Int.tmod a1 a0))) != (-1)) = false := bne_eq_false_iff_eq.mpr c16
                clear c16
                obtain rfl := Option.some.inj H
                go_enter Tryd.func68, Tryd.ntmps68
                go_wp2
                repeat (go_quiet (fail); try go_wp2)
                go_ret
                exact ⟨by first | rfl | (simp; done) | (simp [*]; done), by repeat (first | exact Drawn0.refl _ | apply Drawn0.step)⟩
              · rw [if_neg c16] at H
                have c16b0 : ((wrap64 ((Int.tmod a2 a0) - (Int.tmod a1 a0))) == (-1)) = false := beq_eq_false_iff_ne.mpr c16
                have c16b1 : ((wrap64 ((Int.tmod a2 a0) - (Int.tmod a1 a0))) != (-1)) = true := bne_iff_ne.mpr c16
                obtain rfl := Option.some.inj H
                go_enter Tryd.func68, Tryd.ntmps68
                go_wp2
                repeat (go_quiet (fail); try go_wp2)
                go_ret
                exact ⟨by first | rfl | (simp; done) | (simp [*]; done), by repeat (first | exact Drawn0.refl _ | apply Drawn0.step)⟩
            · rw [if_neg c15] at H
              have c15b0 : ((wrap64 ((wrap64 (Int.tdiv a2 a0)) - (wrap64 (Int.tdiv a1 a0)))) == 1) = false := beq_eq_false_iff_ne.mpr c15
              have c15b1 : ((wrap64 ((wrap64 (Int.tdiv a2 a0)) - (wrap64 (Int.tdiv a1 a0)))) != 1) = true := bne_iff_ne.mpr c15
              obtain rfl := Option.some.inj H
              go_enter Tryd.func68, Tryd.ntmps68
              go_wp2
              repeat (go_quiet (fail); try go_wp2)
              go_ret
              exact ⟨by first | rfl | (simp; done) | (simp [*]; done), by repeat (first | exact Drawn0.refl _ | apply Drawn0.step)⟩
      · rw [if_neg c12] at H
        have c12b0 : ((wrap64 ((wrap64 (Int.tdiv a2 a0)) - (wrap64 (Int.tdiv a1 a0)))) == (-1)) = false := beq_eq_false_iff_ne.mpr c12
        have c12b1 : ((wrap64 ((wrap64 (Int.tdiv a2 a0)) - (wrap64 (Int.tdiv a1 a0)))) != (-1)) = true := bne_iff_ne.mpr c12
        by_cases c17 : (wrap64 ((wrap64 (Int.tdiv a2 a0)) - (wrap64 (Int.tdiv a1 a0)))) = 1
        · rw [if_pos c17] at H
          have c17b0 : ((wrap64 ((wrap64 (Int.tdiv a2 a0)) - (wrap64 (Int.tdiv a1 a0)))) == 1) = true := beq_iff_eq.mpr c17
          have c17b1 : ((wrap64 ((wrap64 (Int.tdiv a2 a0)) - (wrap64 (Int.tdiv a1 a0)))) != 1) = false := bne_eq_false_iff_eq.mpr c17
          clear c17
          by_cases c18 : (wrap64 ((Int.tmod a2 a0) - (Int.tmod a1 a0))) = (-1)
          · rw [if_pos c18] at H
            have c18b0 : ((wrap64 ((Int.tmod a2 a0) - (Int.tmod a1 a0))) == (-1)) = true := beq_iff_eq.mpr c18
            have c18b1 : ((wrap64 ((Int.tmod a2 a0) - (Int.tmod a1 a0))) != (-1)) = false := bne_eq_false_iff_eq.mpr c18
            clear c18
            obtain rfl := Option.some.inj H
            go_enter Tryd.func68, Tryd.ntmps68
            go_wp2
            repeat (go_quiet (fail); try go_wp2)
            go_ret
            exact ⟨by first | rfl | (simp; done) | (simp [*]; done), by repeat (first | exact Drawn0.refl _ | apply Drawn0.step)⟩
          · rw [if_neg c18] at H
            have c18b0 : ((wrap64 ((Int.tmod a2 a0) - (Int.tmod a1 a0))) == (-1)) = false := beq_eq_false_iff_ne.mpr c18
            have c18b1 : ((wrap64 ((Int.tmod a2 a0) - (Int.tmod a1 a0))) != (-1)) = true := bne_iff_ne.mpr c18
            obtain rfl := Option.some.inj H
            go_enter Tryd.func68, Tryd.ntmps68
            go_wp2
            repeat (go_quiet (fail); try go_wp2)
            go_ret
            exact ⟨by first | rfl | (simp; done) | (simp [*]; done), by repeat (first | exact Drawn0.refl _ | apply Drawn0.step)⟩
        · rw [if_neg c17] at H
          have c17b0 : ((wrap64 ((wrap64 (Int.tdiv a2 a0)) - (wrap64 (Int.tdiv a1 a0)))) == 1) = false := beq_eq_false_iff_ne.mpr c17
          have c17b1 : ((wrap64 ((wrap64 (Int.tdiv a2 a0)) - (wrap64 (Int.tdiv a1 a0)))) != 1) = true := bne_iff_ne.mpr c17
          obtain rfl := Option.some.inj H
          go_enter Tryd.func68, Tryd.ntmps68
          go_wp2
          repeat (go_quiet (fail); try go_wp2)
          go_ret
          exact ⟨by first | rfl | (simp; done) | (simp [*]; done), by repeat (first | exact Drawn0.refl _ | apply Drawn0.step)⟩
def pomaderef04_begins.f (a0 : Int) (a1 : Int) (a2 : Int) : Option (Bool) := if a1 = 120 then (some (decide (a2 < a0))) else (if a0 = 0 then (none) else (some ((Int.tmod a2 a0) == 0)))
set_option maxHeartbeats 8000000 in
set_option maxRecDepth 100000 in
theorem pomaderef04_begins.calls (a0 : Int) (a1 : Int) (a2 : Int) (r : Bool) (w : World) (h : pomaderef04_begins.f a0 a1 a2 = some r) :
    Calls Tryd.prog 50 #[.int .i64 a0, .int .u8 a1, .int .i64 a2] w fun e w' => e = .returned (.bool r) ∧ Drawn0 w w' := by
  have H : (if a1 = 120 then (some (decide (a2 < a0))) else (if a0 = 0 then (none) else (some ((Int.tmod a2 a0) == 0)))) = some r := h
  clear h
  by_cases c4 : a1 = 120
  · rw [if_pos c4] at H
    have c4b0 : (a1 == 120) = true := beq_iff_eq.mpr c4
    have c4b1 : (a1 != 120) = false := bne_eq_false_iff_eq.mpr c4
    clear c4
    obtain rfl := Option.some.inj H
    go_enter Tryd.func50, Tryd.ntmps50
    go_wp2
    go_ret
    exact ⟨by first | rfl | (simp; done) | (simp [*]; done), by repeat (first | exact Drawn0.refl _ | apply Drawn0.step)⟩
  · rw [if_neg c4] at H
    have c4b0 : (a1 == 120) = false := beq_eq_false_iff_ne.mpr c4
    have c4b1 : (a1 != 120) = true := bne_iff_ne.mpr c4
    by_cases c5 : a0 = 0
    · rw [if_pos c5] at H
      exact absurd H (by simp)
    · rw [if_neg c5] at H
      have c5b0 : (a0 == 0) = false := beq_eq_false_iff_ne.mpr c5
      have c5b1 : (a0 != 0) = true := bne_iff_ne.mpr c5
      obtain rfl := Option.some.inj H
      go_enter Tryd.func50, Tryd.ntmps50
      go_wp2
      go_ret
      exact ⟨by first | rfl | (simp; done) | (simp [*]; done), by repeat (first | exact Drawn0.refl _ | apply Drawn0.step)⟩
def pomaderef04_ends.f (a0 : Int) (a1 : Int) (a2 : Int) : Option (Bool) := if a1 = 120 then (some (decide (a2 ≥ (wrap64 (a0 * (wrap64 (a0 - 1))))))) else (if a0 = 0 then (none) else (some ((Int.tmod a2 a0) == (wrap64 (a0 - 1)))))
set_option maxHeartbeats 8000000 in
set_option maxRecDepth 100000 in
theorem pomaderef04_ends.calls (a0 : Int) (a1 : Int) (a2 : Int) (r : Bool) (w : World) (h : pomaderef04_ends.f a0 a1 a2 = some r) :
    Calls Tryd.prog 69 #[.int .i64 a0, .int .u8 a1, .int .i64 a2] w fun e w' => e = .returned (.bool r) ∧ Drawn0 w w' := by
  have H : (if a1 = 120 then (some (decide (a2 ≥ (wrap64 (a0 * (wrap64 (a0 - 1))))))) else (if a0 = 0 then (none) else (some ((Int.tmod a2 a0) == (wrap64 (a0 - 1)))))) = some r := h
  clear h
  by_cases c4 : a1 = 120
  · rw [if_pos c4] at H
    have c4b0 : (a1 == 120) = true := beq_iff_eq.mpr c4
    have c4b1 : (a1 != 120) = false := bne_eq_false_iff_eq.mpr c4
    clear c4
    obtain rfl := Option.some.inj H
    go_enter Tryd.func69, Tryd.ntmps69
    go_wp2
    go_ret
    exact ⟨by first | rfl | (simp; done) | (simp [*]; done), by repeat (first | exact Drawn0.refl _ | apply Drawn0.step)⟩
  · rw [if_neg c4] at H
    have c4b0 : (a1 == 120) = false := beq_eq_false_iff_ne.mpr c4
    have c4b1 : (a1 != 120) = true := bne_iff_ne.mpr c4
    by_cases c5 : a0 = 0
    · rw [if_pos c5] at H
      exact absurd H (by simp)
    · rw [if_neg c5] at H
      have c5b0 : (a0 == 0) = false := beq_eq_false_iff_ne.mpr c5
      have c5b1 : (a0 != 0) = true := bne_iff_ne.mpr c5
      obtain rfl := Option.some.inj H
      go_enter Tryd.func69, Tryd.ntmps69
      go_wp2
      go_ret
      exact ⟨by first | rfl | (simp; done) | (simp [*]; done), by repeat (first | exact Drawn0.refl _ | apply Drawn0.step)⟩
end Go.Proofs.YtlmgkmmdaecpdaaDoor.Im

