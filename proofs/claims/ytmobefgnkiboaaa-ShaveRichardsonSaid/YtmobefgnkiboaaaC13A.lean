/- The kinds of the seat's values (first written by print.sh). Words for the town: a block that is known whole, a town as the cells of a block. Plain facts on sets of people as bits of an int. Functions of the specification and of the statements, each with its calls (first written by print.sh): pomadelaw02_few, shave_members, pomadelaw02_same, pomadelaw02_ring, pomaderef02_Town. A region that draws its order, taken by hand: small laws. Worlds that have grown, one block apart; visitors of sets. A region that draws its order, taken by hand: the slots written out. The members of a set. One more number behind a list, in new memory. The tests of a town: who is independent, who is absorbed; all people. All tests of all people; the kernel. The kernel. Each set of some people. A town is read. The first set with some property: first, and Kernel's test. Kernel and Kernels. Kernels; a list as a set; Is. A list as a set; Is. slices.Contains at ints. The search for an odd cycle. Odd. Numbers that can belong to a ranking. The first numbers of a ranking: possible, ranked. The search for a ranking. Ranks. Functions of the specification and of the statements, each with its calls (first written by print.sh): pomadelaw02_valid, pomaderef02_Round, pomaderef02_mex, pomaderef02_IsRanks, pomaderef02_Set. Functions of the specification and of the statements, each with its calls (first written by print.sh): pomaderef02_independent, pomaderef02_kernel, pomaderef02_Is, pomaderef01_Less, pomaderef01_Members. Functions of the specification and of the statements, each with its calls (first written by print.sh): pomaderef02_kernels, pomaderef02_Kernels, pomaderef02_Within, pomadelaw02_renumbered, pomaderef02_semi. Functions of the specification and of the statements, each with its calls (first written by print.sh): pomaderef02_IsSemi, pomaderef02_size, pomaderef02_quasi, pomaderef02_IsQuasi, pomaderef02_HasQuasi. Functions of the specification and of the statements, each with its calls (first written by print.sh): pomaderef02_may, pomaderef02_Arc. What the specification's small functions compute: Members, size, Town. What the specification's 'may' computes. The specification's 'may' is the program's judgement. The specification's search for a ranking. Rankings: what the specification judges, and that the search finds the least one. The least ranking. Ascending lists as sets; the people with the number 0 are a kernel. Kernels: what the specification judges and counts. The first set by its list of members: the program's search and the specification's choice agree. strings.Join at this program: the shelf's contract, laid in plain declarations (lay-plain.mjs). Sentences. What every right program knows: 'alive' is true. Words for the laws: equal lists are the same; the guards. The law ShaveRanks. The law ShaveRanked. The list of kernels, the first of them, their number. Kernel: the program and the specification answer alike. Semikernels: what the specification judges. The program's judgement of a semikernel is the specification's. Semi: the specification's walk. Semi: the program's test of a semikernel. The town along one or two arcs; the town within some people. Quasi-kernels: the program's judgement and search. Quasi-kernels: what the specification judges. The arcs of a town as bits; Chvatal and Lovasz: a town without loops has a quasi-kernel; a kernel is a quasi-kernel. Walks in a town, and the first odd cycle: plain. Neumann-Lara and Richardson, about lists of people and arcs; plain. Perfect: the program's walk. Perfect: the program returns the least set without a kernel. Perfect: plain: what the program finds is the specification's choice. The distances of a town, as the specification's rows of two numbers hold them. The specification's distances: its walk. Odd: the program and the specification answer alike. What the law ShaveRichardson needs of kernels, cycles and sets without a kernel; plain. The law ShaveSemi. The law ShaveRichardson. Arguments of the laws, opened: a list of arcs. -/
import Derived.Test.YtmobefgnkiboaaaProg
import Derived.Below
import Derived.Deep.Draws
import Derived.Deep.AppendLies
import Derived.Maps.AppendAt
import Derived.OwnWalk
import Derived.Laws.BytesArg
import Derived.Laws.MakeOwn
import Derived.Laws.OwnMore
import Derived.Deep.OwnRows
import Derived.Tactics
import Derived.Lib.ConvBytes
import Derived.Laws.Slices
import Derived.WalkKit
import Derived.KernelRfl
import Derived.RowKit3
import Derived.Deep.LoopGhost
import Derived.Deep.QuietTactic
import Derived.BigQuiet
import Derived.WideLaws
import Derived.Deep.DeepCutAuto
import Derived.Deep.CutBlock
import Derived.Deep.RegionHeld3
import Derived.Laws.Rows
import Derived.Lib.AppendStr
import Derived.ArgAppend
import Derived.Laws.IdiomCopy
import Derived.OrdersHeld
import Derived.Laws.BitsLemmas
import Derived.RowKit
import Derived.Test.YtmobefgnkiboaaaWWords
import Derived.Test.YtmobefgnkiboaaaWLast
import Derived.Test.YtmobefgnkiboaaaWTab
import Derived.Test.YtmobefgnkiboaaaWFour
import Derived.Test.YtmobefgnkiboaaaWQPut
import Derived.Test.YtmobefgnkiboaaaWApart
import Derived.Test.YtmobefgnkiboaaaWArr
import Derived.Test.YtmobefgnkiboaaaWZeros
import Derived.Test.YtmobefgnkiboaaaWFoot
import Derived.Test.YtmobefgnkiboaaaWKept
import Derived.Test.YtmobefgnkiboaaaWShare
import Derived.Test.YtmobefgnkiboaaaWN
import Derived.Test.YtmobefgnkiboaaaWFootNe
import Derived.Test.YtmobefgnkiboaaaWAt
import Derived.Test.YtmobefgnkiboaaaWEqStruct
import Derived.Test.YtmobefgnkiboaaaWRepsOne
import Derived.Test.YtmobefgnkiboaaaWInv
import Derived.Test.YtmobefgnkiboaaaWInvWords
import Derived.Test.YtmobefgnkiboaaaWGuard
import Derived.Test.YtmobefgnkiboaaaWNEv
import Derived.Test.YtmobefgnkiboaaaWMore
import Derived.Outline
import Derived.StillTailTactics
import Derived.Deep.WholeRow
import Derived.WalkSpells
import Derived.Shelf.Strings.Builder1
import Derived.Shelf.Strings.Builder2
import Derived.Shelf.Strings.OnBuilder
import Derived.ChangeKeysEq
import Derived.Deep.SlicePairs
namespace Go.Proofs.Ytmobefgnkiboaaa.Im
open Go.RowKit Go.Proofs.YtmobefgnkiboaaaW.PrintWords Go.Proofs.YtmobefgnkiboaaaW.PrintLast Go.Proofs.YtmobefgnkiboaaaW.PrintMore
attribute [local go_sem] max2_int min2_int max_two min_two max_three min_three max_four min_four
set_option linter.unusedVariables false
set_option linter.unusedSimpArgs false
def errW : Option Int → Value
  | none => .nilIface
  | some c => .iface 0 (.int .i64 c)
theorem errW_none : errW none = .nilIface := rfl
theorem errW_some (c : Int) : errW (some c) = .iface 0 (.int .i64 c) := rfl
theorem info3 : (Try.prog.info? 3).map (fun i => (i.zero, i.size, i.bytes)) = some (some (.int .i64 0), 1, 8) := by kernel_rfl
theorem info43 : (Try.prog.info? 43).map (fun i => (i.zero, i.size, i.bytes)) = some (some (.agg #[(.int .i64 0), (.int .i64 0)]), 2, 16) := by kernel_rfl
theorem info9 : (Try.prog.info? 9).map (fun i => (i.zero, i.size, i.bytes)) = some (some (.string ⟨#[]⟩), 1, 16) := by kernel_rfl
structure S43 where
  f0 : Int
  f1 : Int
def z43 : S43 := ⟨(0 : Int), (0 : Int)⟩
def k43 : Kd S43 := Kd.iso (Kd.pair (Kd.int .i64) (Kd.int .i64)) (fun x : S43 => (x.f0, x.f1))
theorem k43_open {w : World} {x : S43} {cs : List Value} (h : k43.K w x cs) : cs = [.int .i64 x.f0, .int .i64 x.f1] := by
  obtain ⟨_, _, rfl, rfl, rfl⟩ := h
  exact rfl
theorem k43_mk (w : World) (x : S43)  : k43.K w x [.int .i64 x.f0, .int .i64 x.f1] := ⟨[.int .i64 x.f0], [.int .i64 x.f1], rfl, rfl, rfl⟩
theorem k43_mkM (w : World) (base : Nat) (ok : Nat → Prop) (x : S43)  : k43.M w base ok x [.int .i64 x.f0, .int .i64 x.f1] := ⟨[.int .i64 x.f0], [.int .i64 x.f1], rfl, rfl, rfl⟩
def rd_T43 (xs : List S43) (i : Int) : S43 := xs.getD i.toNat z43
theorem at_T43 {w : World} {A : Option Addr} {n : Nat} {xs : List S43} (h : Kd.C k43 w A n xs) (i : Int) (h0 : 0 ≤ i) (h1 : i < n) : ∃ ad , A = some ad ∧ w.cell? (ad.add (i.toNat * 2)) = some (.int .i64 (rd_T43 xs i).f0) ∧ w.cell? ⟨(ad.add (i.toNat * 2)).block, (ad.add (i.toNat * 2)).off + 1, none⟩ = some (.int .i64 (rd_T43 xs i).f1) := by
  obtain ⟨ad, c, e, _, hK, hc0⟩ := Kd.C_get h z43 i h0 h1
  have hc : ∀ j u, c[j]? = some u → w.cell? (ad.add (i.toNat * 2 + j)) = some u := hc0
  obtain rfl := k43_open hK
  exact ⟨ad, e, hc 0 _ rfl, by rw [← add_field _ _ 1 (by omega)]; exact hc 1 _ rfl⟩
end Go.Proofs.Ytmobefgnkiboaaa.Im
namespace Go.Proofs.Ytmobefgnkiboaaa.Im
open Go.RowKit Go.Proofs.YtmobefgnkiboaaaW.PrintWords Go.Proofs.YtmobefgnkiboaaaW.PrintLast Go.Proofs.YtmobefgnkiboaaaW.PrintMore
def Blk (w : World) (g : Nat) (t : TypeId) (cs : Array Value) : Prop := w.heap[g]? = some (.cells cs t (0, 0))
section
variable {w w' : World} {g : Nat} {t : TypeId} {cs : Array Value}
theorem Blk.lt (h : Blk w g t cs) : g < w.heap.size := by
  rcases Nat.lt_or_ge g w.heap.size with hlt | hge
  · exact hlt
  · unfold Blk at h; rw [Array.getElem?_eq_none hge] at h; cases h
theorem Blk.cell (h : Blk w g t cs) (i : Nat) : w.cell? ⟨g, i, none⟩ = cs[i]? := cell_of_row w g i cs t (0, 0) h
theorem Blk.frozen (h : Blk w g t cs) (i : Nat) : w.frozen? ⟨g, i, none⟩ = false := by
  unfold Blk at h
  simp [World.frozen?, h]
theorem Blk.new (w : World) (t : TypeId) (cs : Array Value) : Blk (w.alloc (.cells cs t)) w.heap.size t cs := heap_alloc_new w _
theorem Blk.drew (h : Blk w g t cs) : Blk w.drew g t cs := h
theorem Blk.drewN (h : Blk w g t cs) (n : Nat) : Blk (w.drewN n) g t cs := h
theorem Blk.alloc (h : Blk w g t cs) (o : Obj) : Blk (w.alloc o) g t cs := (Below.heap_alloc w o g h.lt).trans h
theorem Blk.set_ (h : Blk w g t cs) (i : Nat) (u : Value) : Blk (w.setCell ⟨g, i, none⟩ u) g t (cs.setIfInBounds i u) := by
  unfold Blk at h ⊢
  simp [World.setCell, Array.getElem?_modify, h]
theorem Blk.far (h : Blk w g t cs) {p : Addr} (hp : g ≠ p.block) (u : Value) : Blk (w.setCell p u) g t cs := (Below.heap_setCell w p u g hp).trans h
theorem Blk.below {B : Nat} (h : Blk w g t cs) (hb : Below B w w') (hg : g < B) : Blk w' g t cs := (hb.block g hg).trans h
theorem Blk.later (h : Blk w g t cs) (hb : Below w.heap.size w w') : Blk w' g t cs := h.below hb h.lt
end
/-- The cells of a town: its number of people, and the twelve sets. -/
def tnA (n : Int) (o : List Int) : Array Value := (Value.int .i64 n :: o.map (Value.int .i64)).toArray
theorem tnA_zero (n : Int) (o : List Int) : (tnA n o)[0]? = some (.int .i64 n) := rfl
theorem tnA_succ (n : Int) (o : List Int) (i : Nat) (h : i < o.length) : (tnA n o)[i + 1]? = some (.int .i64 (o.getD i 0)) := by
  simp [tnA, h]
theorem tnA_size (n : Int) (o : List Int) : (tnA n o).size = o.length + 1 := by simp [tnA]
theorem tnA_set (n : Int) (o : List Int) (i : Nat) (v : Int) : (tnA n o).setIfInBounds (i + 1) (.int .i64 v) = tnA n (o.set i v) := by
  simp [tnA, List.map_set]
def Tn (w : World) (g : Nat) (n : Int) (o : List Int) : Prop := Blk w g 50 (tnA n o)
theorem Tn.cell0 {w : World} {g : Nat} {n : Int} {o : List Int} (h : Tn w g n o) : w.cell? ⟨g, 0, none⟩ = some (.int .i64 n) := by rw [Blk.cell h]; rfl
theorem Tn.cellS {w : World} {g : Nat} {n : Int} {o : List Int} (h : Tn w g n o) (i : Int) (h0 : 0 ≤ i) (h1 : i < o.length) : w.cell? ⟨g, i.toNat + 1, none⟩ = some (.int .i64 (rd o i)) := by
  rw [Blk.cell h, tnA_succ _ _ _ (by omega)]; rfl
end Go.Proofs.Ytmobefgnkiboaaa.Im
namespace Go.Proofs.Ytmobefgnkiboaaa.Im
open Go.RowKit Go.Proofs.YtmobefgnkiboaaaW.PrintWords Go.Proofs.YtmobefgnkiboaaaW.PrintLast Go.Proofs.YtmobefgnkiboaaaW.PrintMore
theorem wr62 (n : Int) (h0 : 0 ≤ n) (h1 : n < 2 ^ 62) : IntKind.i64.wrap n = n := by rw [IntKind.wrap_i64]; omega
theorem wr62' (n : Nat) (h1 : n < 2 ^ 62) : wrap64 n = n := by unfold wrap64; omega
theorem b_and (a b : Nat) (ha : a < 2 ^ 62) (hb : b < 2 ^ 62) : bits .and .i64 a b = ((a &&& b : Nat) : Int) :=
  (bits_nat .i64 62 (by decide) wr62 a b ha hb).1
theorem b_or (a b : Nat) (ha : a < 2 ^ 62) (hb : b < 2 ^ 62) : bits .or .i64 a b = ((a ||| b : Nat) : Int) :=
  (bits_nat .i64 62 (by decide) wr62 a b ha hb).2
/-- The members of a that are not members of b. -/
def andN (a b : Nat) : Nat := a ^^^ (a &&& b)
theorem andN_bit (a b i : Nat) : (andN a b).testBit i = (a.testBit i && !b.testBit i) := by
  unfold andN
  rw [Nat.testBit_xor, Nat.testBit_and]
  cases a.testBit i <;> cases b.testBit i <;> rfl
theorem andN_lt (a b k : Nat) (ha : a < 2 ^ k) : andN a b < 2 ^ k := Nat.xor_lt_two_pow ha (Nat.lt_of_le_of_lt Nat.and_le_left ha)
theorem b_andN (a b : Nat) (ha : a < 2 ^ 62) (_hb : b < 2 ^ 62) : bits .andNot .i64 a b = ((andN a b : Nat) : Int) := by
  have key : (BitVec.ofNat 64 a &&& ~~~ BitVec.ofNat 64 b).toNat = andN a b := by
    apply Nat.eq_of_testBit_eq
    intro i
    rw [andN_bit, BitVec.testBit_toNat, BitVec.getLsbD_and, BitVec.getLsbD_not, BitVec.getLsbD_ofNat, BitVec.getLsbD_ofNat]
    by_cases h : i < 64
    · simp [h]
    · have : a.testBit i = false := Nat.testBit_lt_two_pow (Nat.lt_of_lt_of_le ha (Nat.pow_le_pow_right (by decide) (by omega)))
      simp [h, this]
  have hl : andN a b < 2 ^ 62 := andN_lt a b 62 ha
  have : bits .andNot .i64 a b = IntKind.i64.wrap ((BitVec.ofInt 64 (a : Int) &&& ~~~ BitVec.ofInt 64 (b : Int)).toNat : Int) := rfl
  rw [this, BitVec.ofInt_natCast, BitVec.ofInt_natCast, key]
  exact wr62 _ (Int.natCast_nonneg _) (by exact_mod_cast hl)
theorem shr_nat (s i : Nat) : ((s : Int) / 2 ^ i) = ((s >>> i : Nat) : Int) := by
  rw [Nat.shiftRight_eq_div_pow]; simp
theorem shr_lt (s i : Nat) (h : s < 2 ^ 62) : s >>> i < 2 ^ 62 := by
  rw [Nat.shiftRight_eq_div_pow]
  exact Nat.lt_of_le_of_lt (Nat.div_le_self _ _) h
theorem bit_one (s i : Nat) : (s >>> i) &&& 1 = if s.testBit i then 1 else 0 := by
  rw [Nat.and_comm, Nat.one_and_eq_mod_two, Nat.testBit, Nat.one_and_eq_mod_two]
  rcases Nat.mod_two_eq_zero_or_one (s >>> i) with h | h <;> simp [h]
theorem b_bit (s i : Nat) (h : s < 2 ^ 62) : bits .and .i64 ((s : Int) / 2 ^ i) 1 = if s.testBit i then 1 else 0 := by
  rw [shr_nat, show (1 : Int) = ((1 : Nat) : Int) from rfl, b_and _ _ (shr_lt s i h) (by decide), bit_one]
  split <;> rfl
theorem b_bit0 (s i : Nat) (h : s < 2 ^ 62) : (bits .and .i64 ((s : Int) / 2 ^ i) 1 == 0) = !s.testBit i := by
  rw [b_bit s i h]; cases s.testBit i <;> rfl
theorem b_bit1 (s i : Nat) (h : s < 2 ^ 62) : (bits .and .i64 ((s : Int) / 2 ^ i) 1 == 1) = s.testBit i := by
  rw [b_bit s i h]; cases s.testBit i <;> rfl
theorem two_pow_nat (i : Nat) : ((2 : Int) ^ i) = ((2 ^ i : Nat) : Int) := by simp
theorem wr_pow (i : Nat) (h : i < 62) : wrap64 ((2 : Int) ^ i) = ((2 ^ i : Nat) : Int) := by
  rw [two_pow_nat]; exact wr62' _ (Nat.pow_lt_pow_right (by decide) h)
theorem b_and0 (a b : Nat) (ha : a < 2 ^ 62) (hb : b < 2 ^ 62) : (bits .and .i64 a b == 0) = (a &&& b == 0) := by
  rw [b_and a b ha hb]
  by_cases h : a &&& b = 0
  · simp [h]
  · rw [beq_eq_false_iff_ne.2 h, beq_eq_false_iff_ne.2 (by omega)]
theorem rd_map (o : List Nat) (i : Nat) : rd (o.map fun x : Nat => (x : Int)) i = ((o.getD i 0 : Nat) : Int) := by
  unfold rd
  rw [Int.toNat_natCast]
  simp only [List.getD_eq_getElem?_getD, List.getElem?_map]
  cases o[i]? <;> rfl
/-- The cells of a town whose sets are plain numbers. -/
def ints (o : List Nat) : List Int := o.map fun x : Nat => (x : Int)
theorem ints_length (o : List Nat) : (ints o).length = o.length := by simp [ints]
theorem rd_ints (o : List Nat) (i : Nat) : rd (ints o) i = ((o.getD i 0 : Nat) : Int) := rd_map o i
def TnN (w : World) (g n : Nat) (o : List Nat) : Prop := Tn w g n (ints o)
def tnN (n : Nat) (o : List Nat) : Array Value := tnA n (ints o)
theorem TnN.cell0 {w : World} {g : Nat} {n : Nat} {o : List Nat} (h : TnN w g n o) : w.cell? ⟨g, 0, none⟩ = some (.int .i64 n) := Tn.cell0 h
theorem TnN.cellS {w : World} {g : Nat} {n : Nat} {o : List Nat} (h : TnN w g n o) (i : Nat) (h1 : i < o.length) : w.cell? ⟨g, i + 1, none⟩ = some (.int .i64 (o.getD i 0 : Nat)) := by
  have := Tn.cellS h (i : Int) (by omega) (by rw [ints_length]; omega)
  rw [rd_ints] at this
  exact this
/-- A town: its people, each with the set of those to whom an arc leads. -/
structure Okt (n : Nat) (o : List Nat) : Prop where
  n1 : 1 ≤ n
  n12 : n ≤ 12
  len : o.length = 12
  lt : ∀ i, o.getD i 0 < 2 ^ n
theorem Okt.lt62 {n : Nat} {o : List Nat} (h : Okt n o) (i : Nat) : o.getD i 0 < 2 ^ 62 :=
  Nat.lt_of_lt_of_le (h.lt i) (Nat.pow_le_pow_right (by decide) (by have := h.n12; omega))
theorem lt62_of {n s : Nat} (hn : n ≤ 12) (h : s < 2 ^ n) : s < 2 ^ 62 := Nat.lt_of_lt_of_le h (Nat.pow_le_pow_right (by decide) (by omega))
end Go.Proofs.Ytmobefgnkiboaaa.Im

namespace Go.Proofs.Ytmobefgnkiboaaa.Im
open Go.RowKit Go.Proofs.YtmobefgnkiboaaaW.PrintWords Go.Proofs.YtmobefgnkiboaaaW.PrintLast Go.Proofs.YtmobefgnkiboaaaW.PrintMore
attribute [local go_sem] max2_int min2_int max_two min_two max_three min_three max_four min_four
set_option linter.unusedVariables false
set_option linter.unusedSimpArgs false
def pomadelaw02_few.f (l0 : List (S43)) (l1 : List Int) : Option (Bool) := if (l0.length : Int) ≤ 150 then (some (decide ((l1.length : Int) ≤ 50))) else (some false)
set_option maxHeartbeats 8000000 in
set_option maxRecDepth 100000 in
theorem pomadelaw02_few.calls (A0 : Option Addr) (c0 : Nat) (l0 : List (S43)) (A1 : Option Addr) (c1 : Nat) (l1 : List Int) (r : Bool) (w : World) (hr0 : Kd.C k43 w A0 l0.length l0) (hc0 : l0.length ≤ c0) (hr1 : Kd.C (Kd.int .i64) w A1 l1.length l1) (hc1 : l1.length ≤ c1) (h : pomadelaw02_few.f l0 l1 = some r) :
    Calls Try.prog 14 #[.slice A0 l0.length c0, .slice A1 l1.length c1] w fun e w' => e = .returned (.bool r) ∧ Drawn0 w w' := by
  have HR0 := Aside0.mk hr0
  have HC0 := Aside0.mk hc0
  clear hr0 hc0
  have HR1 := Aside0.mk hr1
  have HC1 := Aside0.mk hc1
  clear hr1 hc1
  have H : (if (l0.length : Int) ≤ 150 then (some (decide ((l1.length : Int) ≤ 50))) else (some false)) = some r := h
  clear h
  by_cases c3 : (l0.length : Int) ≤ 150
  · rw [if_pos c3] at H
    have c3b0 : decide ((l0.length : Int) ≤ 150) = true := decide_eq_true c3
    have c3b1 : decide (l0.length ≤ 150) = true := decide_eq_true (by omega)
    clear c3
    obtain rfl := Option.some.inj H
    go_enter Try.func14, Try.ntmps14
    go_wp2
    go_ret
    exact ⟨by first | rfl | (simp; done) | (simp [*]; done), by repeat (first | exact Drawn0.refl _ | apply Drawn0.step)⟩
  · rw [if_neg c3] at H
    have c3b0 : decide ((l0.length : Int) ≤ 150) = false := decide_eq_false c3
    have c3b1 : decide (l0.length ≤ 150) = false := decide_eq_false (by omega)
    clear c3
    obtain rfl := Option.some.inj H
    go_enter Try.func14, Try.ntmps14
    go_wp2
    go_ret
    exact ⟨by first | rfl | (simp; done) | (simp [*]; done), by repeat (first | exact Drawn0.refl _ | apply Drawn0.step)⟩
def shave_members.l0 : Nat → Int → List Int → Int → Option (List Int)
  | 0, _, _, _ => none
  | k + 1, x0, x3, x4 => if 0 ≤ x4 then (if (shr .i64 x0 x4) > 0 then (if (Go.bits .and .i64 (shr .i64 x0 x4) 1) = 1 then (if x3.length < 17592186044416 then (shave_members.l0 k x0 (x3 ++ [x4]) (wrap64 (x4 + 1))) else (none)) else (shave_members.l0 k x0 x3 (wrap64 (x4 + 1)))) else (some x3)) else (none)
def shave_members.f (k : Nat) (a0 : Int) : Option (List Int) := shave_members.l0 k a0 ([] : List Int) 0
theorem shave_members.mono_l : ∀ k, (∀ y0 y1 y2, LeO (shave_members.l0 k y0 y1 y2) (shave_members.l0 (k + 1) y0 y1 y2))
  | 0 => fun _ _ _ r h => by simp [shave_members.l0] at h
  | k + 1 => by
    have ih0 := shave_members.mono_l k
    · intro y0 y1 y2
      unfold shave_members.l0
      repeat' first
      | (with_reducible exact ih0 _ _ _)
      | (with_reducible exact LeO.refl _)
      | (with_reducible exact LeO.none _)
      | (with_reducible refine LeO.ite ?_ ?_)
      | (with_reducible refine LeO.bind ?_ (fun _ => ?_))
      | exact ih0 _ _ _
      | exact LeO.none _
      | refine LeO.ite ?_ ?_
      | refine LeO.bind ?_ (fun _ => ?_)
theorem shave_members.mono : ∀ a0 k, LeO (shave_members.f k a0) (shave_members.f (k + 1) a0) := by
  intro a0 k
  have ih0 := shave_members.mono_l k
  unfold shave_members.f
  repeat' first
      | (with_reducible exact ih0 _ _ _)
      | (with_reducible exact LeO.refl _)
      | (with_reducible exact LeO.none _)
      | (with_reducible refine LeO.ite ?_ ?_)
      | (with_reducible refine LeO.bind ?_ (fun _ => ?_))
      | exact ih0 _ _ _
      | exact LeO.none _
      | refine LeO.ite ?_ ?_
      | refine LeO.bind ?_ (fun _ => ?_)
set_option maxHeartbeats 8000000 in
set_option maxRecDepth 100000 in
theorem shave_members.calls (k : Nat) (a0 : Int) (r : List Int) (w : World) (h : shave_members.f k a0 = some r) :
    Calls Try.prog 46 #[.int .i64 a0] w fun e w' => ∃ v0_ : Value, e = .returned (v0_) ∧ Kd.R (Kd.int .i64) 3 w' w.heap.size (fun _ => True) v0_ r ∧ Below w.heap.size w w' := by
  have HB := Aside0.mk (Below.refl w.heap.size w)
  have H : (shave_members.l0 k a0 ([] : List Int) 0) = some r := h
  clear h
  have H' := Aside0.mk H
  clear H
  go_enter Try.func46, Try.ntmps46
  go_wp2
  go_loopg [3, 4] k (fun kq v3 v4 w' => ∃ (x3_1 : List Int) (x4_1 : Int), v4 = .int .i64 x4_1 ∧ Aside0 (shave_members.l0 kq a0 x3_1 x4_1 = some r) ∧ Aside0 (kq ≤ k) ∧ Aside0 (Kd.R (Kd.int .i64) 3 w' w.heap.size (fun _ => True) v3 x3_1) ∧ Aside0 (Below w.heap.size w w'))
  case atStart => exact ⟨(([] : List Int)), (0), (by first | rfl | (simp; done) | (simp [*]; done)), H', ⟨Nat.le_refl _⟩, ⟨by first | exact Kd.R_nil _ _ _ _ _ | exact Kd.N_nil _ _ _ _ _ | exact Kd.V_nil _ _ _ _ _ | exact Kd.Q_nil _ _ _ _ _ | exact Kd.S_nil _ _ _ _ _⟩, ⟨by repeat (first | (with_reducible first | exact HB.out | apply below_alloc | apply pw_below_drewN | apply below_drew1) | exact HB.out)⟩⟩
  case round =>
    clear H'
    obtain ⟨x3_1, x4_1, rfl, HA, HK1, HO_3, HB⟩ := hrel
    cases gk with
    | zero => exact absurd HA.out (by simp [shave_members.l0])
    | succ k1 =>
      have H := HA.out
      clear HA
      simp only [shave_members.l0] at H
      by_cases c2 : 0 ≤ x4_1
      · rw [if_pos c2] at H
        have c2b0 := eq_true c2
        have c2b1 : decide (0 ≤ x4_1) = true := decide_eq_true c2
        clear c2
        obtain ⟨ji3, hji3⟩ : ∃ j_ : Int, (shr .i64 a0 x4_1) = j_ := ⟨_, rfl⟩
        replace H : (if (ji3) > 0 then (if (Go.bits .and .i64 (ji3) 1) = 1 then (if x3_1.length < 17592186044416 then (shave_members.l0 k1 a0 (x3_1 ++ [x4_1]) (wrap64 (x4_1 + 1))) else (none)) else (shave_members.l0 k1 a0 x3_1 (wrap64 (x4_1 + 1)))) else (some x3_1)) = some r := by first | (rw [hji3] at H; exact H) | (simp only [hji3] at H ⊢; exact H)
        have hji3_ : (a0 / 2 ^ min x4_1.toNat 64) = ji3 := hji3
        have hji3z : x4_1 ≤ 64 → (a0 / 2 ^ x4_1.toNat) = ji3 := shr_small hji3
        by_cases c4 : (ji3) > 0
        · rw [if_pos c4] at H
          have c4b0 : decide (0 < (ji3)) = true := decide_eq_true c4
          clear c4
          have c5b0 := eq_true (of_decide_eq_true (by first | (with_reducible assumption) | assumption) : 0 ≤ x4_1)
          by_cases c7 : (Go.bits .and .i64 (ji3) 1) = 1
          · rw [if_pos c7] at H
            have c7b0 : ((Go.bits .and .i64 (ji3) 1) == 1) = true := beq_iff_eq.mpr c7
            have c7b1 : ((Go.bits .and .i64 (ji3) 1) != 1) = false := bne_eq_false_iff_eq.mpr c7
            clear c7
            by_cases c8 : x3_1.length < 17592186044416
            · rw [if_pos c8] at H
              have LMc8 := Aside0.mk c8
              clear c8
              obtain ⟨y101, hy101⟩ : ∃ y_ : List Int, y_ = (x3_1 ++ [x4_1]) := ⟨_, rfl⟩
              replace H : (shave_members.l0 k1 a0 y101 (wrap64 (x4_1 + 1))) = some r := by first | (rw [hy101]; with_reducible exact H) | (have H2_ := (Option.bind_some _ _).symm.trans H; rw [hy101]; with_reducible exact H2_) | (have H2_ := (Option.bind_some _ _).symm.trans H; with_reducible exact H2_) | with_reducible exact H | (rw [hy101]; exact H) | exact H
              have Ny101 := Aside0.mk hy101
              clear hy101
              have H' := Aside0.mk H
              clear H
              go_wp2_with (first | ((with_reducible refine gate_builtin (b := .append) (xs := #[.tmp 16, .tmp 18]) rfl ?_); at_builtin; refine Kd.R_append (Kd.int .i64) (w0 := w) w.heap.size rfl (.tmp 16) (.tmp 18) 25 3 (.int .i64 0) 8 rfl Try.underlying25 info3 rfl (by decide) (by omega) u3 x3_1 x4_1 [.int .i64 x4_1] (fun _ => True) (fun _ => False) rfl rfl ?aP (fun _ hk => hk.elim) ?aF ?aO ?aB ?aS ?aL ?_; (case aP => exact rfl); (case aB => exact (by repeat (first | (with_reducible first | exact HB.out | apply below_alloc | apply pw_below_drewN | apply below_drew1) | exact HB.out))); (case aF => exact (fun _ _ => trivial)); (case aO => exact (by (with_reducible repeat (first | apply Kd.R_alloc | apply Kd.R_drewN | apply Kd.R_drew)); exact HO_3.out)); (case aS => exact (below_size (by repeat (first | (with_reducible first | exact HB.out | apply below_alloc | apply pw_below_drewN | apply below_drew1) | exact HB.out)))); (case aL => have := LMc8.out; omega); intro v102 w9 ho hb hg hat; rw [← Ny101.out] at ho; have n0_ := Aside0.mk (hb); have n1_ := Aside0.mk (ho); clear HB; clear HO_3; have HB := n0_; have HO103 := n1_; clear n0_ n1_; clear ho hb hg hat))
              go_roundg k1
              case measure => have := HK1.out; omega
              case rel => exact ⟨(y101), (wrap64 (x4_1 + 1)), (by first | rfl | (simp; done) | (simp [*]; done)), H', ⟨by have := HK1.out; omega⟩, ⟨by (with_reducible repeat (first | apply Kd.R_alloc | apply Kd.R_drewN | apply Kd.R_drew)); exact HO103.out⟩, ⟨by repeat (first | (with_reducible first | exact HB.out | apply below_alloc | apply pw_below_drewN | apply below_drew1) | exact HB.out)⟩⟩
            · rw [if_neg c8] at H
              exact absurd H (by simp)
          · rw [if_neg c7] at H
            have c7b0 : ((Go.bits .and .i64 (ji3) 1) == 1) = false := beq_eq_false_iff_ne.mpr c7
            have c7b1 : ((Go.bits .and .i64 (ji3) 1) != 1) = true := bne_iff_ne.mpr c7
            have H' := Aside0.mk H
            clear H
            go_wp2
            go_roundg k1
            case measure => have := HK1.out; omega
            case rel => exact ⟨(x3_1), (wrap64 (x4_1 + 1)), (by first | rfl | (simp; done) | (simp [*]; done)), H', ⟨by have := HK1.out; omega⟩, ⟨by (with_reducible repeat (first | apply Kd.R_alloc | apply Kd.R_drewN | apply Kd.R_drew)); exact HO_3.out⟩, ⟨by repeat (first | (with_reducible first | exact HB.out | apply below_alloc | apply pw_below_drewN | apply below_drew1) | exact HB.out)⟩⟩
        · rw [if_neg c4] at H
          have c4b0 : decide (0 < (ji3)) = false := decide_eq_false c4
          clear c4
          obtain rfl := Option.some.inj H
          go_wp2
          go_ret
          exact ⟨_, by first | rfl | (simp [errW_none, errW_some] <;> rfl) | (simp only [← hji3]; first | rfl | (simp [errW_none, errW_some] <;> rfl)) | (simp [*, errW_none, errW_some] <;> rfl), by (with_reducible repeat (first | apply Kd.R_alloc | apply Kd.R_drewN | apply Kd.R_drew)); exact HO_3.out, by repeat (first | (with_reducible first | exact HB.out | apply below_alloc | apply pw_below_drewN | apply below_drew1) | exact HB.out)⟩
      · rw [if_neg c2] at H
        exact absurd H (by simp)
def pomadelaw02_same.l0 : Nat → List Int → List Int → Int → Option (Bool)
  | 0, _, _, _ => none
  | k + 1, x0, x1, x5 => if x5 < (x0.length : Int) then (if 0 ≤ x5 then (if x5 < (x1.length : Int) then (if (rd x0 x5) = (rd x1 x5) then (pomadelaw02_same.l0 k x0 x1 (wrap64 (x5 + 1))) else (some false)) else (none)) else (none)) else (some true)
def pomadelaw02_same.f (k : Nat) (l0 : List Int) (l1 : List Int) : Option (Bool) := if (l0.length : Int) = (l1.length : Int) then (pomadelaw02_same.l0 k l0 l1 0) else (some false)
theorem pomadelaw02_same.mono_l : ∀ k, (∀ y0 y1 y2, LeO (pomadelaw02_same.l0 k y0 y1 y2) (pomadelaw02_same.l0 (k + 1) y0 y1 y2))
  | 0 => fun _ _ _ r h => by simp [pomadelaw02_same.l0] at h
  | k + 1 => by
    have ih0 := pomadelaw02_same.mono_l k
    · intro y0 y1 y2
      unfold pomadelaw02_same.l0
      repeat' first
      | (with_reducible exact ih0 _ _ _)
      | (with_reducible exact LeO.refl _)
      | (with_reducible exact LeO.none _)
      | (with_reducible refine LeO.ite ?_ ?_)
      | (with_reducible refine LeO.bind ?_ (fun _ => ?_))
      | exact ih0 _ _ _
      | exact LeO.none _
      | refine LeO.ite ?_ ?_
      | refine LeO.bind ?_ (fun _ => ?_)
theorem pomadelaw02_same.mono : ∀ a0 a1 k, LeO (pomadelaw02_same.f k a0 a1) (pomadelaw02_same.f (k + 1) a0 a1) := by
  intro a0 a1 k
  have ih0 := pomadelaw02_same.mono_l k
  unfold pomadelaw02_same.f
  repeat' first
      | (with_reducible exact ih0 _ _ _)
      | (with_reducible exact LeO.refl _)
      | (with_reducible exact LeO.none _)
      | (with_reducible refine LeO.ite ?_ ?_)
      | (with_reducible refine LeO.bind ?_ (fun _ => ?_))
      | exact ih0 _ _ _
      | exact LeO.none _
      | refine LeO.ite ?_ ?_
      | refine LeO.bind ?_ (fun _ => ?_)
set_option maxHeartbeats 8000000 in
set_option maxRecDepth 100000 in
theorem pomadelaw02_same.calls (k : Nat) (A0 : Option Addr) (c0 : Nat) (l0 : List Int) (A1 : Option Addr) (c1 : Nat) (l1 : List Int) (r : Bool) (w : World) (hr0 : Kd.C (Kd.int .i64) w A0 l0.length l0) (hc0 : l0.length ≤ c0) (hr1 : Kd.C (Kd.int .i64) w A1 l1.length l1) (hc1 : l1.length ≤ c1) (h : pomadelaw02_same.f k l0 l1 = some r) :
    Calls Try.prog 18 #[.slice A0 l0.length c0, .slice A1 l1.length c1] w fun e w' => e = .returned (.bool r) ∧ Drawn0 w w' := by
  have HR0 := Aside0.mk hr0
  have HC0 := Aside0.mk hc0
  clear hr0 hc0
  have HR1 := Aside0.mk hr1
  have HC1 := Aside0.mk hc1
  clear hr1 hc1
  have H : (if (l0.length : Int) = (l1.length : Int) then (pomadelaw02_same.l0 k l0 l1 0) else (some false)) = some r := h
  clear h
  by_cases c3 : (l0.length : Int) = (l1.length : Int)
  · rw [if_pos c3] at H
    have c3b0 : ((l0.length : Int) == (l1.length : Int)) = true := beq_iff_eq.mpr c3
    have c3b1 : ((l0.length : Int) != (l1.length : Int)) = false := bne_eq_false_iff_eq.mpr c3
    have c3b2 : (l0.length == l1.length) = true := by first | simpa using c3 | (simp at c3 ⊢; omega)
    clear c3
    have H' := Aside0.mk H
    clear H
    go_enter Try.func18, Try.ntmps18
    go_wp2
    repeat (go_quiet (fail); try go_wp2)
    go_loopg [5] k (fun kq v5 w' => ∃ (x5_1 : Int), v5 = .int .i64 x5_1 ∧ Aside0 (pomadelaw02_same.l0 kq l0 l1 x5_1 = some r) ∧ Aside0 (kq ≤ k) ∧ Drawn0 w w')
    case atStart => exact ⟨(0), (by first | rfl | (simp; done) | (simp [*]; done)), H', ⟨Nat.le_refl _⟩, by repeat (first | exact Drawn0.refl _ | apply Drawn0.step)⟩
    case round =>
      clear H'
      try clear c1
      try clear p2
      try clear c3
      try clear c3b0
      try clear c3b1
      try clear c3b2
      obtain ⟨x5_1, rfl, HA, HK1, ⟨m1, rfl⟩⟩ := hrel
      cases gk with
      | zero => exact absurd HA.out (by simp [pomadelaw02_same.l0])
      | succ k1 =>
        have H := HA.out
        clear HA
        simp only [pomadelaw02_same.l0] at H
        by_cases c4 : x5_1 < (l0.length : Int)
        · rw [if_pos c4] at H
          have c4b0 : decide (x5_1 < (l0.length : Int)) = true := decide_eq_true c4
          clear c4
          by_cases c5 : 0 ≤ x5_1
          · rw [if_pos c5] at H
            have c5b0 : decide (0 ≤ x5_1) = true := decide_eq_true c5
            clear c5
            by_cases c6 : x5_1 < (l1.length : Int)
            · rw [if_pos c6] at H
              have c6b0 : decide (x5_1 < (l1.length : Int)) = true := decide_eq_true c6
              clear c6
              by_cases c7 : (rd l0 x5_1) = (rd l1 x5_1)
              · rw [if_pos c7] at H
                have c7b0 : ((rd l0 x5_1) == (rd l1 x5_1)) = true := beq_iff_eq.mpr c7
                have c7b1 : ((rd l0 x5_1) != (rd l1 x5_1)) = false := bne_eq_false_iff_eq.mpr c7
                clear c7
                have H' := Aside0.mk H
                clear H
                have p104 : 0 ≤ (x5_1 : Int) := of_decide_eq_true (by first | (with_reducible assumption) | assumption)
                have q104 : x5_1 < (l0.length : Int) := of_decide_eq_true (by first | (with_reducible assumption) | assumption)
                obtain ⟨ad104, e104, hx104_0⟩ := Kd.at_int HR0.out x5_1 p104 q104
                cases e104
                replace p104 := eq_true p104
                replace q104 := eq_true q104
                have p105 : 0 ≤ (x5_1 : Int) := of_decide_eq_true (by first | (with_reducible assumption) | assumption)
                have q105 : x5_1 < (l1.length : Int) := of_decide_eq_true (by first | (with_reducible assumption) | assumption)
                obtain ⟨ad105, e105, hx105_0⟩ := Kd.at_int HR1.out x5_1 p105 q105
                cases e105
                replace p105 := eq_true p105
                replace q105 := eq_true q105
                go_wp2
                repeat (go_quiet (fail); try go_wp2)
                go_roundg k1
                case measure => have := HK1.out; omega
                case rel => exact ⟨(wrap64 (x5_1 + 1)), (by first | rfl | (simp; done) | (simp [*]; done)), H', ⟨by have := HK1.out; omega⟩, by repeat (first | exact Drawn0.refl _ | apply Drawn0.step)⟩
              · rw [if_neg c7] at H
                have c7b0 : ((rd l0 x5_1) == (rd l1 x5_1)) = false := beq_eq_false_iff_ne.mpr c7
                have c7b1 : ((rd l0 x5_1) != (rd l1 x5_1)) = true := bne_iff_ne.mpr c7
                obtain rfl := Option.some.inj H
                have p104 : 0 ≤ (x5_1 : Int) := of_decide_eq_true (by first | (with_reducible assumption) | assumption)
                have q104 : x5_1 < (l0.length : Int) := of_decide_eq_true (by first | (with_reducible assumption) | assumption)
                obtain ⟨ad104, e104, hx104_0⟩ := Kd.at_int HR0.out x5_1 p104 q104
                cases e104
                replace p104 := eq_true p104
                replace q104 := eq_true q104
                have p105 : 0 ≤ (x5_1 : Int) := of_decide_eq_true (by first | (with_reducible assumption) | assumption)
                have q105 : x5_1 < (l1.length : Int) := of_decide_eq_true (by first | (with_reducible assumption) | assumption)
                obtain ⟨ad105, e105, hx105_0⟩ := Kd.at_int HR1.out x5_1 p105 q105
                cases e105
                replace p105 := eq_true p105
                replace q105 := eq_true q105
                go_wp2
                repeat (go_quiet (fail); try go_wp2)
                go_ret
                exact ⟨by first | rfl | (simp; done) | (simp [*]; done), by repeat (first | exact Drawn0.refl _ | apply Drawn0.step)⟩
            · rw [if_neg c6] at H
              exact absurd H (by simp)
          · rw [if_neg c5] at H
            exact absurd H (by simp)
        · rw [if_neg c4] at H
          have c4b0 : decide (x5_1 < (l0.length : Int)) = false := decide_eq_false c4
          clear c4
          obtain rfl := Option.some.inj H
          go_wp2
          repeat (go_quiet (fail); try go_wp2)
          go_ret
          exact ⟨by first | rfl | (simp; done) | (simp [*]; done), by repeat (first | exact Drawn0.refl _ | apply Drawn0.step)⟩
  · rw [if_neg c3] at H
    have c3b0 : ((l0.length : Int) == (l1.length : Int)) = false := beq_eq_false_iff_ne.mpr c3
    have c3b1 : ((l0.length : Int) != (l1.length : Int)) = true := bne_iff_ne.mpr c3
    have c3b2 : (l0.length == l1.length) = false := by first | simpa using c3 | (simp at c3 ⊢; omega)
    obtain rfl := Option.some.inj H
    go_enter Try.func18, Try.ntmps18
    go_wp2
    repeat (go_quiet (fail); try go_wp2)
    go_ret
    exact ⟨by first | rfl | (simp; done) | (simp [*]; done), by repeat (first | exact Drawn0.refl _ | apply Drawn0.step)⟩
def pomadelaw02_ring.l0 : Nat → Int → List (S43) → Int → Option ((List (S43)))
  | 0, _, _, _ => none
  | k + 1, x0, x3, x4 => if x4 < x0 then (if x0 = 0 then (none) else (if x3.length < 8796093022208 then (pomadelaw02_ring.l0 k x0 (x3 ++ [(⟨x4, Int.tmod (wrap64 (x4 + 1)) x0⟩ : S43)]) (wrap64 (x4 + 1))) else (none))) else (some x3)
def pomadelaw02_ring.f (k : Nat) (a0 : Int) : Option ((List (S43))) := pomadelaw02_ring.l0 k a0 ([] : List (S43)) 0
theorem pomadelaw02_ring.mono_l : ∀ k, (∀ y0 y1 y2, LeO (pomadelaw02_ring.l0 k y0 y1 y2) (pomadelaw02_ring.l0 (k + 1) y0 y1 y2))
  | 0 => fun _ _ _ r h => by simp [pomadelaw02_ring.l0] at h
  | k + 1 => by
    have ih0 := pomadelaw02_ring.mono_l k
    · intro y0 y1 y2
      unfold pomadelaw02_ring.l0
      repeat' first
      | (with_reducible exact ih0 _ _ _)
      | (with_reducible exact LeO.refl _)
      | (with_reducible exact LeO.none _)
      | (with_reducible refine LeO.ite ?_ ?_)
      | (with_reducible refine LeO.bind ?_ (fun _ => ?_))
      | exact ih0 _ _ _
      | exact LeO.none _
      | refine LeO.ite ?_ ?_
      | refine LeO.bind ?_ (fun _ => ?_)
theorem pomadelaw02_ring.mono : ∀ a0 k, LeO (pomadelaw02_ring.f k a0) (pomadelaw02_ring.f (k + 1) a0) := by
  intro a0 k
  have ih0 := pomadelaw02_ring.mono_l k
  unfold pomadelaw02_ring.f
  repeat' first
      | (with_reducible exact ih0 _ _ _)
      | (with_reducible exact LeO.refl _)
      | (with_reducible exact LeO.none _)
      | (with_reducible refine LeO.ite ?_ ?_)
      | (with_reducible refine LeO.bind ?_ (fun _ => ?_))
      | exact ih0 _ _ _
      | exact LeO.none _
      | refine LeO.ite ?_ ?_
      | refine LeO.bind ?_ (fun _ => ?_)
set_option maxHeartbeats 8000000 in
set_option maxRecDepth 100000 in
theorem pomadelaw02_ring.calls (k : Nat) (a0 : Int) (r : List (S43)) (w : World) (h : pomadelaw02_ring.f k a0 = some r) :
    Calls Try.prog 44 #[.int .i64 a0] w fun e w' => ∃ v0_ : Value, e = .returned (v0_) ∧ Kd.R k43 43 w' w.heap.size (fun _ => True) v0_ r ∧ Below w.heap.size w w' := by
  have hu43 := Try.underlying43
  have HB := Aside0.mk (Below.refl w.heap.size w)
  have H : (pomadelaw02_ring.l0 k a0 ([] : List (S43)) 0) = some r := h
  clear h
  have H' := Aside0.mk H
  clear H
  go_enter Try.func44, Try.ntmps44
  go_wp2
  go_loopg [3, 4] k (fun kq v3 v4 w' => ∃ (x3_1 : List (S43)) (x4_1 : Int), v4 = .int .i64 x4_1 ∧ Aside0 (pomadelaw02_ring.l0 kq a0 x3_1 x4_1 = some r) ∧ Aside0 (kq ≤ k) ∧ Aside0 (Kd.R k43 43 w' w.heap.size (fun _ => True) v3 x3_1) ∧ Aside0 (Below w.heap.size w w'))
  case atStart => exact ⟨(([] : List (S43))), (0), (by first | rfl | (simp; done) | (simp [*]; done)), H', ⟨Nat.le_refl _⟩, ⟨by first | exact Kd.R_nil _ _ _ _ _ | exact Kd.N_nil _ _ _ _ _ | exact Kd.V_nil _ _ _ _ _ | exact Kd.Q_nil _ _ _ _ _ | exact Kd.S_nil _ _ _ _ _⟩, ⟨by repeat (first | (with_reducible first | exact HB.out | apply below_alloc | apply pw_below_drewN | apply below_drew1) | exact HB.out)⟩⟩
  case round =>
    clear H'
    obtain ⟨x3_1, x4_1, rfl, HA, HK1, HO_3, HB⟩ := hrel
    cases gk with
    | zero => exact absurd HA.out (by simp [pomadelaw02_ring.l0])
    | succ k1 =>
      have H := HA.out
      clear HA
      simp only [pomadelaw02_ring.l0] at H
      by_cases c2 : x4_1 < a0
      · rw [if_pos c2] at H
        have c2b0 : decide (x4_1 < a0) = true := decide_eq_true c2
        clear c2
        by_cases c3 : a0 = 0
        · rw [if_pos c3] at H
          exact absurd H (by simp)
        · rw [if_neg c3] at H
          have c3b0 : (a0 == 0) = false := beq_eq_false_iff_ne.mpr c3
          have c3b1 : (a0 != 0) = true := bne_iff_ne.mpr c3
          by_cases c4 : x3_1.length < 8796093022208
          · rw [if_pos c4] at H
            have LMc4 := Aside0.mk c4
            clear c4
            obtain ⟨y107, hy107⟩ : ∃ y_ : List (S43), y_ = (x3_1 ++ [(⟨x4_1, Int.tmod (wrap64 (x4_1 + 1)) a0⟩ : S43)]) := ⟨_, rfl⟩
            replace H : (pomadelaw02_ring.l0 k1 a0 y107 (wrap64 (x4_1 + 1))) = some r := by first | (rw [hy107]; with_reducible exact H) | (have H2_ := (Option.bind_some _ _).symm.trans H; rw [hy107]; with_reducible exact H2_) | (have H2_ := (Option.bind_some _ _).symm.trans H; with_reducible exact H2_) | with_reducible exact H | (rw [hy107]; exact H) | exact H
            have Ny107 := Aside0.mk hy107
            clear hy107
            have H' := Aside0.mk H
            clear H
            go_wp2_with (first | ((with_reducible refine gate_builtin (b := .append) (xs := #[.tmp 10, .tmp 17]) rfl ?_); at_builtin; refine Kd.R_append k43 (w0 := w) w.heap.size rfl (.tmp 10) (.tmp 17) 22 43 (.agg #[(.int .i64 0), (.int .i64 0)]) 16 rfl Try.underlying22 info43 rfl (by decide) (by omega) u3 x3_1 (⟨x4_1, Int.tmod (wrap64 (x4_1 + 1)) a0⟩ : S43) [.int .i64 x4_1, .int .i64 (Int.tmod (wrap64 (x4_1 + 1)) a0)] (fun _ => True) (fun _ => False) rfl rfl ?aP (fun _ hk => hk.elim) ?aF ?aO ?aB ?aS ?aL ?_; (case aP => exact k43_mkM _ _ _ (⟨x4_1, Int.tmod (wrap64 (x4_1 + 1)) a0⟩ : S43)); (case aB => exact (by repeat (first | (with_reducible first | exact HB.out | apply below_alloc | apply pw_below_drewN | apply below_drew1) | exact HB.out))); (case aF => exact (fun _ _ => trivial)); (case aO => exact (by (with_reducible repeat (first | apply Kd.R_alloc | apply Kd.R_drewN | apply Kd.R_drew)); exact HO_3.out)); (case aS => exact (below_size (by repeat (first | (with_reducible first | exact HB.out | apply below_alloc | apply pw_below_drewN | apply below_drew1) | exact HB.out)))); (case aL => have := LMc4.out; omega); intro v108 w5 ho hb hg hat; rw [← Ny107.out] at ho; have n0_ := Aside0.mk (hb); have n1_ := Aside0.mk (ho); clear HB; clear HO_3; have HB := n0_; have HO109 := n1_; clear n0_ n1_; clear ho hb hg hat))
            go_roundg k1
            case measure => have := HK1.out; omega
            case rel => exact ⟨(y107), (wrap64 (x4_1 + 1)), (by first | rfl | (simp; done) | (simp [*]; done)), H', ⟨by have := HK1.out; omega⟩, ⟨by (with_reducible repeat (first | apply Kd.R_alloc | apply Kd.R_drewN | apply Kd.R_drew)); exact HO109.out⟩, ⟨by repeat (first | (with_reducible first | exact HB.out | apply below_alloc | apply pw_below_drewN | apply below_drew1) | exact HB.out)⟩⟩
          · rw [if_neg c4] at H
            exact absurd H (by simp)
      · rw [if_neg c2] at H
        have c2b0 : decide (x4_1 < a0) = false := decide_eq_false c2
        clear c2
        obtain rfl := Option.some.inj H
        go_wp2
        go_ret
        exact ⟨_, by first | rfl | (simp [errW_none, errW_some] <;> rfl) | (simp [*, errW_none, errW_some] <;> rfl), by (with_reducible repeat (first | apply Kd.R_alloc | apply Kd.R_drewN | apply Kd.R_drew)); exact HO_3.out, by repeat (first | (with_reducible first | exact HB.out | apply below_alloc | apply pw_below_drewN | apply below_drew1) | exact HB.out)⟩
mutual
def pomaderef02_Town.j0 : Nat → Int → List (S43) → Bool → Option (List Int × Int)
  | 0, _, _, _ => none
  | k + 1, x0, x1, x13 => if x13 = true then (some (([] : List Int), 2)) else (if (x1.length : Int) > 80 then (some (([] : List Int), 3)) else (if 0 ≤ x0 then (if (x0 : Int).toNat ≤ 35184372088832 then (pomaderef02_Town.l0 k x0 x1 (List.replicate (x0 : Int).toNat 0) 0) else (none)) else (none)))
def pomaderef02_Town.l0 : Nat → Int → List (S43) → List Int → Int → Option (List Int × Int)
  | 0, _, _, _, _ => none
  | k + 1, x0, x1, x6, x7 => if x7 < (x1.length : Int) then (if 0 ≤ x7 then (if ((rd_T43 x1 x7).f0) < 0 then (some (([] : List Int), 2)) else (if ((rd_T43 x1 x7).f0) ≥ x0 then (some (([] : List Int), 2)) else (if ((rd_T43 x1 x7).f1) < 0 then (some (([] : List Int), 2)) else (if ((rd_T43 x1 x7).f1) ≥ x0 then (some (([] : List Int), 2)) else (if 0 ≤ ((rd_T43 x1 x7).f0) then (if ((rd_T43 x1 x7).f0) < (x6.length : Int) then (if 0 ≤ ((rd_T43 x1 x7).f1) then (pomaderef02_Town.l0 k x0 x1 (x6.set (((rd_T43 x1 x7).f0) : Int).toNat (Go.bits .or .i64 (rd x6 ((rd_T43 x1 x7).f0)) (shl .i64 1 ((rd_T43 x1 x7).f1)))) (wrap64 (x7 + 1))) else (none)) else (none)) else (none)))))) else (none)) else (some (x6, 0))
end
def pomaderef02_Town.f (k : Nat) (a0 : Int) (l1 : List (S43)) : Option (List Int × Int) := if a0 < 1 then (pomaderef02_Town.j0 k a0 l1 true) else (pomaderef02_Town.j0 k a0 l1 (decide (a0 > 12)))
theorem pomaderef02_Town.mono_l : ∀ k, (∀ y0 y1 y2, LeO (pomaderef02_Town.j0 k y0 y1 y2) (pomaderef02_Town.j0 (k + 1) y0 y1 y2)) ∧ (∀ y0 y1 y2 y3, LeO (pomaderef02_Town.l0 k y0 y1 y2 y3) (pomaderef02_Town.l0 (k + 1) y0 y1 y2 y3))
  | 0 => ⟨fun _ _ _ r h => by simp [pomaderef02_Town.j0] at h, fun _ _ _ _ r h => by simp [pomaderef02_Town.l0] at h⟩
  | k + 1 => by
    obtain ⟨ih0, ih1⟩ := pomaderef02_Town.mono_l k
    refine ⟨?_, ?_⟩
    · intro y0 y1 y2
      unfold pomaderef02_Town.j0
      repeat' first
      | (with_reducible exact ih0 _ _ _)
      | (with_reducible exact ih1 _ _ _ _)
      | (with_reducible exact LeO.refl _)
      | (with_reducible exact LeO.none _)
      | (with_reducible refine LeO.ite ?_ ?_)
      | (with_reducible refine LeO.bind ?_ (fun _ => ?_))
      | exact ih0 _ _ _
      | exact ih1 _ _ _ _
      | exact LeO.none _
      | refine LeO.ite ?_ ?_
      | refine LeO.bind ?_ (fun _ => ?_)
    · intro y0 y1 y2 y3
      unfold pomaderef02_Town.l0
      repeat' first
      | (with_reducible exact ih0 _ _ _)
      | (with_reducible exact ih1 _ _ _ _)
      | (with_reducible exact LeO.refl _)
      | (with_reducible exact LeO.none _)
      | (with_reducible refine LeO.ite ?_ ?_)
      | (with_reducible refine LeO.bind ?_ (fun _ => ?_))
      | exact ih0 _ _ _
      | exact ih1 _ _ _ _
      | exact LeO.none _
      | refine LeO.ite ?_ ?_
      | refine LeO.bind ?_ (fun _ => ?_)
theorem pomaderef02_Town.mono : ∀ a0 a1 k, LeO (pomaderef02_Town.f k a0 a1) (pomaderef02_Town.f (k + 1) a0 a1) := by
  intro a0 a1 k
  obtain ⟨ih0, ih1⟩ := pomaderef02_Town.mono_l k
  unfold pomaderef02_Town.f
  repeat' first
      | (with_reducible exact ih0 _ _ _)
      | (with_reducible exact ih1 _ _ _ _)
      | (with_reducible exact LeO.refl _)
      | (with_reducible exact LeO.none _)
      | (with_reducible refine LeO.ite ?_ ?_)
      | (with_reducible refine LeO.bind ?_ (fun _ => ?_))
      | exact ih0 _ _ _
      | exact ih1 _ _ _ _
      | exact LeO.none _
      | refine LeO.ite ?_ ?_
      | refine LeO.bind ?_ (fun _ => ?_)
def pomaderef02_Town.T11 : Bool × List (List Nat × List Nat) := (true, [([], []), ([], []), ([], []), ([1, 2], [1, 2]), ([3], [3]), ([4], [4]), ([], []), ([], []), ([], []), ([7, 8], [7, 8]), ([9], [9]), ([10], [10]), ([6, 11], [6, 11]), ([12], [12]), ([], []), ([], []), ([14, 15], [14, 15]), ([16], [16]), ([17], [17]), ([18], [18]), ([13, 19], [13, 19]), ([0, 5, 0, 1, 2, 3, 4, 5, 6, 7, 8, 9, 10, 11, 12, 13, 14, 15, 16, 17, 18, 19, 20], [0, 5]), ([21, 20, 0, 1, 2, 3, 4, 5, 6, 7, 8, 9, 10, 11, 12, 13, 14, 15, 16, 17, 18, 19, 20], [20, 21])])
def pomaderef02_Town.B11 : List Nat := [0, 0, 0, 6, 14, 30, 0, 0, 0, 384, 896, 1920, 4032, 8128, 0, 0, 49152, 114688, 245760, 507904, 1048512, 2097151, 4194303]
theorem pomaderef02_Town.tab11 : rtab .any (opsOf Try.f50 11) = pomaderef02_Town.T11 := by kernel_rfl
theorem pomaderef02_Town.bits11 : waitsOk pomaderef02_Town.T11.2 pomaderef02_Town.B11 = true := by kernel_rfl
set_option maxHeartbeats 8000000 in
set_option maxRecDepth 100000 in
theorem pomaderef02_Town.calls (k : Nat) (a0 : Int) (A1 : Option Addr) (c1 : Nat) (l1 : List (S43)) (r1 : List Int) (r2 : Int) (w : World) (hr1 : Kd.C k43 w A1 l1.length l1) (hc1 : l1.length ≤ c1) (h : pomaderef02_Town.f k a0 l1 = some (r1, r2)) :
    Calls Try.prog 50 #[.int .i64 a0, .slice A1 l1.length c1] w fun e w' => ∃ v0_ : Value, e = .returned (.tuple #[v0_, .int .i64 r2]) ∧ Kd.R (Kd.int .i64) 3 w' w.heap.size (fun _ => True) v0_ r1 ∧ Below w.heap.size w w' := by
  have HR1 := Aside0.mk hr1
  have HC1 := Aside0.mk hc1
  clear hr1 hc1
  have HB := Aside0.mk (Below.refl w.heap.size w)
  have H : (if a0 < 1 then (pomaderef02_Town.j0 k a0 l1 true) else (pomaderef02_Town.j0 k a0 l1 (decide (a0 > 12)))) = some (r1, r2) := h
  clear h
  have HC3 := Aside0.mk H
  clear H
  go_enter Try.func50, Try.ntmps50
  go_upto_region 1 with (fail)
  go_cut [13] (fun v13 wc => ∃ (kq : Nat) (x13_2 : Bool), v13 = .bool x13_2 ∧ Aside0 (pomaderef02_Town.j0 kq a0 l1 x13_2 = some (r1, r2)) ∧ Aside0 (kq ≤ k) ∧ Aside0 (Below w.heap.size w wc))
  case first =>
    have H := HC3.out
    clear HC3
    by_cases c4 : a0 < 1
    · rw [if_pos c4] at H
      have c4b0 : decide (a0 < 1) = true := decide_eq_true c4
      clear c4
      (first | rw [c4b0] | (simp only [i64_w, i32_w]; rw [c4b0]) | skip)
      have H' := Aside0.mk H
      clear H
      go_wp2
      go_meet
      case rel => exact ⟨_, (true), (by first | rfl | (simp; done) | (simp [*]; done)), H', ⟨by first | omega | exact Nat.le_refl _⟩, ⟨by repeat (first | (with_reducible first | exact HB.out | apply below_alloc | apply pw_below_drewN | apply below_drew1) | exact HB.out)⟩⟩
    · rw [if_neg c4] at H
      have c4b0 : decide (a0 < 1) = false := decide_eq_false c4
      clear c4
      (first | rw [c4b0] | (simp only [i64_w, i32_w]; rw [c4b0]) | skip)
      have H' := Aside0.mk H
      clear H
      go_wp2
      go_meet
      case rel => exact ⟨_, (decide (a0 > 12)), (by first | rfl | (simp; done) | (simp [*]; done)), H', ⟨by first | omega | exact Nat.le_refl _⟩, ⟨by repeat (first | (with_reducible first | exact HB.out | apply below_alloc | apply pw_below_drewN | apply below_drew1) | exact HB.out)⟩⟩
  case rest =>
    clear HC3
    try clear c1
    try clear p2
    try clear c4
    try clear c4b0
    obtain ⟨kq, x13_2, rfl, HA, HJ2, HB⟩ := hcut
    cases kq with
    | zero => exact absurd HA.out (by simp [pomaderef02_Town.j0])
    | succ kj2 =>
      have H := HA.out
      clear HA
      simp only [pomaderef02_Town.j0] at H
      by_cases c5 : x13_2 = true
      · subst c5
        have H1 : (some (([] : List Int), 2)) = some (r1, r2) := by rw [if_pos rfl] at H; exact H
        clear H
        have H := H1
        clear H1
        simp only [Option.some.injEq, Prod.mk.injEq] at H
        obtain ⟨rfl, rfl⟩ := H
        go_wp2
        go_ret2
        exact ⟨_, by first | rfl | (simp [errW_none, errW_some] <;> rfl) | (simp [*, errW_none, errW_some] <;> rfl), by first | exact Kd.R_nil _ _ _ _ _ | exact Kd.N_nil _ _ _ _ _ | exact Kd.V_nil _ _ _ _ _ | exact Kd.Q_nil _ _ _ _ _ | exact Kd.S_nil _ _ _ _ _, by repeat (first | (with_reducible first | exact HB.out | apply below_alloc | apply pw_below_drewN | apply below_drew1) | exact HB.out)⟩
      · replace c5 := Bool.eq_false_iff.mpr c5
        subst c5
        have H1 : (if (l1.length : Int) > 80 then (some (([] : List Int), 3)) else (if 0 ≤ a0 then (if (a0 : Int).toNat ≤ 35184372088832 then (pomaderef02_Town.l0 kj2 a0 l1 (List.replicate (a0 : Int).toNat 0) 0) else (none)) else (none))) = some (r1, r2) := by rw [if_neg (show ¬ (false = true) by decide)] at H; exact H
        clear H
        have H := H1
        clear H1
        by_cases c6 : (l1.length : Int) > 80
        · rw [if_pos c6] at H
          have c6b0 : decide (80 < (l1.length : Int)) = true := decide_eq_true c6
          have c6b1 : decide (80 < l1.length) = true := decide_eq_true (by omega)
          clear c6
          simp only [Option.some.injEq, Prod.mk.injEq] at H
          obtain ⟨rfl, rfl⟩ := H
          go_wp2
          go_ret2
          exact ⟨_, by first | rfl | (simp [errW_none, errW_some] <;> rfl) | (simp [*, errW_none, errW_some] <;> rfl), by first | exact Kd.R_nil _ _ _ _ _ | exact Kd.N_nil _ _ _ _ _ | exact Kd.V_nil _ _ _ _ _ | exact Kd.Q_nil _ _ _ _ _ | exact Kd.S_nil _ _ _ _ _, by repeat (first | (with_reducible first | exact HB.out | apply below_alloc | apply pw_below_drewN | apply below_drew1) | exact HB.out)⟩
        · rw [if_neg c6] at H
          have c6b0 : decide (80 < (l1.length : Int)) = false := decide_eq_false c6
          have c6b1 : decide (80 < l1.length) = false := decide_eq_false (by omega)
          clear c6
          by_cases c7 : 0 ≤ a0
          · rw [if_pos c7] at H
            have c7b0 := eq_true c7
            have c7b1 : decide (0 ≤ a0) = true := decide_eq_true c7
            clear c7
            by_cases c8 : (a0 : Int).toNat ≤ 35184372088832
            · rw [if_pos c8] at H
              have c8b0 := eq_true c8
              have c8b1 : decide ((a0 : Int).toNat ≤ 35184372088832) = true := decide_eq_true c8
              clear c8
              obtain ⟨y113, hy113⟩ : ∃ y_ : List Int, y_ = (List.replicate (a0 : Int).toNat 0) := ⟨_, rfl⟩
              replace H : (pomaderef02_Town.l0 kj2 a0 l1 y113 0) = some (r1, r2) := by first | (rw [hy113]; with_reducible exact H) | (have H2_ := (Option.bind_some _ _).symm.trans H; rw [hy113]; with_reducible exact H2_) | (have H2_ := (Option.bind_some _ _).symm.trans H; with_reducible exact H2_) | with_reducible exact H | (rw [hy113]; exact H) | exact H
              have Ny113 := Aside0.mk hy113
              clear hy113
              have H' := Aside0.mk H
              clear H
              go_wp2_with (first | ((with_reducible refine gate_dst (N := 18) rfl ?_); refine Kd.R_make (Kd.int .i64) _ 3 rfl (N := 18) rfl 25 _ _ rfl a0 rfl rfl Try.underlying25 (.int .i64 0) 8 info3 rfl (by decide) (by omega) 0 (ok := fun _ => True) (okp := fun _ => True) rfl (fun _ hk => hk) trivial (of_decide_eq_true (by first | (with_reducible assumption) | assumption)) (Nat.le_trans (Nat.mul_le_mul_right _ (of_decide_eq_true (by first | (with_reducible assumption) | assumption) : a0.toNat ≤ 35184372088832)) (by omega)) (Below.refl _ _) (Nat.le_refl _) ?_; intro v114 w9 ho10 hb hg_ hnew_; clear hg_ hnew_; (first | rw [← Ny113.out] at ho10 | (simp only [Int.reduceToNat] at ho10; rw [← Ny113.out] at ho10)); have n0_ := Aside0.mk (Kd.R_lower ho10 (below_size (by repeat (first | (with_reducible first | exact HB.out | apply below_alloc | apply pw_below_drewN | apply below_drew1) | exact HB.out)))); have n1_ := Aside0.mk (below_step (by repeat (first | (with_reducible first | exact HB.out | apply below_alloc | apply pw_below_drewN | apply below_drew1) | exact HB.out)) hb); clear HB; have HO115 := n0_; have HB := n1_; clear n0_ n1_; clear hb ho10))
              go_loopg [7] kj2 (fun kq v7 w' => ∃ (x6_2 : List Int) (x7_2 : Int), v7 = .int .i64 x7_2 ∧ Aside0 (pomaderef02_Town.l0 kq a0 l1 x6_2 x7_2 = some (r1, r2)) ∧ Aside0 (kq ≤ kj2) ∧ Aside0 (Kd.R (Kd.int .i64) 3 w' w.heap.size (fun _ => True) v114 x6_2) ∧ Aside0 (Below w.heap.size w w'))
              case atStart => exact ⟨(y113), (0), (by first | rfl | (simp; done) | (simp [*]; done)), H', ⟨Nat.le_refl _⟩, ⟨by (with_reducible repeat (first | apply Kd.R_alloc | apply Kd.R_drewN | apply Kd.R_drew)); exact HO115.out⟩, ⟨by repeat (first | (with_reducible first | exact HB.out | apply below_alloc | apply pw_below_drewN | apply below_drew1) | exact HB.out)⟩⟩
              case round =>
                clear H'
                try clear c1
                try clear p2
                try clear c4
                try clear c4b0
                try clear c5
                try clear c6
                try clear c6b0
                try clear c6b1
                try clear c7
                try clear c7b0
                try clear c7b1
                try clear c8
                try clear c8b0
                try clear c8b1
                try clear p2
                obtain ⟨x6_2, x7_2, rfl, HA, HK2, HO_6, HB⟩ := hrel
                cases gk with
                | zero => exact absurd HA.out (by simp [pomaderef02_Town.l0])
                | succ k2 =>
                  have H := HA.out
                  clear HA
                  simp only [pomaderef02_Town.l0] at H
                  by_cases c11 : x7_2 < (l1.length : Int)
                  · rw [if_pos c11] at H
                    have c11b0 : decide (x7_2 < (l1.length : Int)) = true := decide_eq_true c11
                    clear c11
                    by_cases c12 : 0 ≤ x7_2
                    · rw [if_pos c12] at H
                      have c12b0 : decide (0 ≤ x7_2) = true := decide_eq_true c12
                      clear c12
                      by_cases c13 : ((rd_T43 l1 x7_2).f0) < 0
                      · rw [if_pos c13] at H
                        have c13b0 : decide (((rd_T43 l1 x7_2).f0) < 0) = true := decide_eq_true c13
                        clear c13
                        simp only [Option.some.injEq, Prod.mk.injEq] at H
                        obtain ⟨rfl, rfl⟩ := H
                        have p116 : 0 ≤ (x7_2 : Int) := of_decide_eq_true (by first | (with_reducible assumption) | assumption)
                        have q116 : x7_2 < (l1.length : Int) := of_decide_eq_true (by first | (with_reducible assumption) | assumption)
                        obtain ⟨ad116, e116, hx116_0, hx116_1⟩ := at_T43 HR1.out x7_2 p116 q116
                        cases e116
                        replace hx116_0 := (HB.out.cell (World.block_lt_of_cell? w _ hx116_0)).trans hx116_0
                        replace hx116_1 := (HB.out.cell (World.block_lt_of_cell? w _ hx116_1)).trans hx116_1
                        replace p116 := eq_true p116
                        replace q116 := eq_true q116
                        go_wp2
                        go_ret2
                        exact ⟨_, by first | rfl | (simp [errW_none, errW_some] <;> rfl) | (simp [*, errW_none, errW_some] <;> rfl), by first | exact Kd.R_nil _ _ _ _ _ | exact Kd.N_nil _ _ _ _ _ | exact Kd.V_nil _ _ _ _ _ | exact Kd.Q_nil _ _ _ _ _ | exact Kd.S_nil _ _ _ _ _, by repeat (first | (with_reducible first | exact HB.out | apply below_alloc | apply pw_below_drewN | apply below_drew1) | exact HB.out)⟩
                      · rw [if_neg c13] at H
                        have c13b0 : decide (((rd_T43 l1 x7_2).f0) < 0) = false := decide_eq_false c13
                        clear c13
                        by_cases c14 : ((rd_T43 l1 x7_2).f0) ≥ a0
                        · rw [if_pos c14] at H
                          have c14b0 : decide (a0 ≤ ((rd_T43 l1 x7_2).f0)) = true := decide_eq_true c14
                          clear c14
                          simp only [Option.some.injEq, Prod.mk.injEq] at H
                          obtain ⟨rfl, rfl⟩ := H
                          have p116 : 0 ≤ (x7_2 : Int) := of_decide_eq_true (by first | (with_reducible assumption) | assumption)
                          have q116 : x7_2 < (l1.length : Int) := of_decide_eq_true (by first | (with_reducible assumption) | assumption)
                          obtain ⟨ad116, e116, hx116_0, hx116_1⟩ := at_T43 HR1.out x7_2 p116 q116
                          cases e116
                          replace hx116_0 := (HB.out.cell (World.block_lt_of_cell? w _ hx116_0)).trans hx116_0
                          replace hx116_1 := (HB.out.cell (World.block_lt_of_cell? w _ hx116_1)).trans hx116_1
                          replace p116 := eq_true p116
                          replace q116 := eq_true q116
                          have p117 : 0 ≤ (x7_2 : Int) := of_decide_eq_true (by first | (with_reducible assumption) | assumption)
                          have q117 : x7_2 < (l1.length : Int) := of_decide_eq_true (by first | (with_reducible assumption) | assumption)
                          obtain ⟨ad117, e117, hx117_0, hx117_1⟩ := at_T43 HR1.out x7_2 p117 q117
                          obtain rfl : ad116 = ad117 := (by injection e117)
                          replace hx117_0 := (HB.out.cell (World.block_lt_of_cell? w _ hx117_0)).trans hx117_0
                          replace hx117_1 := (HB.out.cell (World.block_lt_of_cell? w _ hx117_1)).trans hx117_1
                          replace p117 := eq_true p117
                          replace q117 := eq_true q117
                          go_wp2
                          go_ret2
                          exact ⟨_, by first | rfl | (simp [errW_none, errW_some] <;> rfl) | (simp [*, errW_none, errW_some] <;> rfl), by first | exact Kd.R_nil _ _ _ _ _ | exact Kd.N_nil _ _ _ _ _ | exact Kd.V_nil _ _ _ _ _ | exact Kd.Q_nil _ _ _ _ _ | exact Kd.S_nil _ _ _ _ _, by repeat (first | (with_reducible first | exact HB.out | apply below_alloc | apply pw_below_drewN | apply below_drew1) | exact HB.out)⟩
                        · rw [if_neg c14] at H
                          have c14b0 : decide (a0 ≤ ((rd_T43 l1 x7_2).f0)) = false := decide_eq_false c14
                          clear c14
                          by_cases c15 : ((rd_T43 l1 x7_2).f1) < 0
                          · rw [if_pos c15] at H
                            have c15b0 : decide (((rd_T43 l1 x7_2).f1) < 0) = true := decide_eq_true c15
                            clear c15
                            simp only [Option.some.injEq, Prod.mk.injEq] at H
                            obtain ⟨rfl, rfl⟩ := H
                            have p116 : 0 ≤ (x7_2 : Int) := of_decide_eq_true (by first | (with_reducible assumption) | assumption)
                            have q116 : x7_2 < (l1.length : Int) := of_decide_eq_true (by first | (with_reducible assumption) | assumption)
                            obtain ⟨ad116, e116, hx116_0, hx116_1⟩ := at_T43 HR1.out x7_2 p116 q116
                            cases e116
                            replace hx116_0 := (HB.out.cell (World.block_lt_of_cell? w _ hx116_0)).trans hx116_0
                            replace hx116_1 := (HB.out.cell (World.block_lt_of_cell? w _ hx116_1)).trans hx116_1
                            replace p116 := eq_true p116
                            replace q116 := eq_true q116
                            have p117 : 0 ≤ (x7_2 : Int) := of_decide_eq_true (by first | (with_reducible assumption) | assumption)
                            have q117 : x7_2 < (l1.length : Int) := of_decide_eq_true (by first | (with_reducible assumption) | assumption)
                            obtain ⟨ad117, e117, hx117_0, hx117_1⟩ := at_T43 HR1.out x7_2 p117 q117
                            obtain rfl : ad116 = ad117 := (by injection e117)
                            replace hx117_0 := (HB.out.cell (World.block_lt_of_cell? w _ hx117_0)).trans hx117_0
                            replace hx117_1 := (HB.out.cell (World.block_lt_of_cell? w _ hx117_1)).trans hx117_1
                            replace p117 := eq_true p117
                            replace q117 := eq_true q117
                            have p118 : 0 ≤ (x7_2 : Int) := of_decide_eq_true (by first | (with_reducible assumption) | assumption)
                            have q118 : x7_2 < (l1.length : Int) := of_decide_eq_true (by first | (with_reducible assumption) | assumption)
                            obtain ⟨ad118, e118, hx118_0, hx118_1⟩ := at_T43 HR1.out x7_2 p118 q118
                            obtain rfl : ad116 = ad118 := (by injection e118)
                            replace hx118_0 := (HB.out.cell (World.block_lt_of_cell? w _ hx118_0)).trans hx118_0
                            replace hx118_1 := (HB.out.cell (World.block_lt_of_cell? w _ hx118_1)).trans hx118_1
                            replace p118 := eq_true p118
                            replace q118 := eq_true q118
                            go_wp2
                            go_ret2
                            exact ⟨_, by first | rfl | (simp [errW_none, errW_some] <;> rfl) | (simp [*, errW_none, errW_some] <;> rfl), by first | exact Kd.R_nil _ _ _ _ _ | exact Kd.N_nil _ _ _ _ _ | exact Kd.V_nil _ _ _ _ _ | exact Kd.Q_nil _ _ _ _ _ | exact Kd.S_nil _ _ _ _ _, by repeat (first | (with_reducible first | exact HB.out | apply below_alloc | apply pw_below_drewN | apply below_drew1) | exact HB.out)⟩
                          · rw [if_neg c15] at H
                            have c15b0 : decide (((rd_T43 l1 x7_2).f1) < 0) = false := decide_eq_false c15
                            clear c15
                            by_cases c16 : ((rd_T43 l1 x7_2).f1) ≥ a0
                            · rw [if_pos c16] at H
                              have c16b0 : decide (a0 ≤ ((rd_T43 l1 x7_2).f1)) = true := decide_eq_true c16
                              clear c16
                              simp only [Option.some.injEq, Prod.mk.injEq] at H
                              obtain ⟨rfl, rfl⟩ := H
                              have p116 : 0 ≤ (x7_2 : Int) := of_decide_eq_true (by first | (with_reducible assumption) | assumption)
                              have q116 : x7_2 < (l1.length : Int) := of_decide_eq_true (by first | (with_reducible assumption) | assumption)
                              obtain ⟨ad116, e116, hx116_0, hx116_1⟩ := at_T43 HR1.out x7_2 p116 q116
                              cases e116
                              replace hx116_0 := (HB.out.cell (World.block_lt_of_cell? w _ hx116_0)).trans hx116_0
                              replace hx116_1 := (HB.out.cell (World.block_lt_of_cell? w _ hx116_1)).trans hx116_1
                              replace p116 := eq_true p116
                              replace q116 := eq_true q116
                              have p117 : 0 ≤ (x7_2 : Int) := of_decide_eq_true (by first | (with_reducible assumption) | assumption)
                              have q117 : x7_2 < (l1.length : Int) := of_decide_eq_true (by first | (with_reducible assumption) | assumption)
                              obtain ⟨ad117, e117, hx117_0, hx117_1⟩ := at_T43 HR1.out x7_2 p117 q117
                              obtain rfl : ad116 = ad117 := (by injection e117)
                              replace hx117_0 := (HB.out.cell (World.block_lt_of_cell? w _ hx117_0)).trans hx117_0
                              replace hx117_1 := (HB.out.cell (World.block_lt_of_cell? w _ hx117_1)).trans hx117_1
                              replace p117 := eq_true p117
                              replace q117 := eq_true q117
                              have p118 : 0 ≤ (x7_2 : Int) := of_decide_eq_true (by first | (with_reducible assumption) | assumption)
                              have q118 : x7_2 < (l1.length : Int) := of_decide_eq_true (by first | (with_reducible assumption) | assumption)
                              obtain ⟨ad118, e118, hx118_0, hx118_1⟩ := at_T43 HR1.out x7_2 p118 q118
                              obtain rfl : ad116 = ad118 := (by injection e118)
                              replace hx118_0 := (HB.out.cell (World.block_lt_of_cell? w _ hx118_0)).trans hx118_0
                              replace hx118_1 := (HB.out.cell (World.block_lt_of_cell? w _ hx118_1)).trans hx118_1
                              replace p118 := eq_true p118
                              replace q118 := eq_true q118
                              have p119 : 0 ≤ (x7_2 : Int) := of_decide_eq_true (by first | (with_reducible assumption) | assumption)
                              have q119 : x7_2 < (l1.length : Int) := of_decide_eq_true (by first | (with_reducible assumption) | assumption)
                              obtain ⟨ad119, e119, hx119_0, hx119_1⟩ := at_T43 HR1.out x7_2 p119 q119
                              obtain rfl : ad116 = ad119 := (by injection e119)
                              replace hx119_0 := (HB.out.cell (World.block_lt_of_cell? w _ hx119_0)).trans hx119_0
                              replace hx119_1 := (HB.out.cell (World.block_lt_of_cell? w _ hx119_1)).trans hx119_1
                              replace p119 := eq_true p119
                              replace q119 := eq_true q119
                              go_wp2
                              go_ret2
                              exact ⟨_, by first | rfl | (simp [errW_none, errW_some] <;> rfl) | (simp [*, errW_none, errW_some] <;> rfl), by first | exact Kd.R_nil _ _ _ _ _ | exact Kd.N_nil _ _ _ _ _ | exact Kd.V_nil _ _ _ _ _ | exact Kd.Q_nil _ _ _ _ _ | exact Kd.S_nil _ _ _ _ _, by repeat (first | (with_reducible first | exact HB.out | apply below_alloc | apply pw_below_drewN | apply below_drew1) | exact HB.out)⟩
                            · rw [if_neg c16] at H
                              have c16b0 : decide (a0 ≤ ((rd_T43 l1 x7_2).f1)) = false := decide_eq_false c16
                              clear c16
                              by_cases c17 : 0 ≤ ((rd_T43 l1 x7_2).f0)
                              · rw [if_pos c17] at H
                                have c17b0 : decide (0 ≤ ((rd_T43 l1 x7_2).f0)) = true := decide_eq_true c17
                                clear c17
                                by_cases c18 : ((rd_T43 l1 x7_2).f0) < (x6_2.length : Int)
                                · rw [if_pos c18] at H
                                  have c18b0 : decide (((rd_T43 l1 x7_2).f0) < (x6_2.length : Int)) = true := decide_eq_true c18
                                  clear c18
                                  by_cases c19 : 0 ≤ ((rd_T43 l1 x7_2).f1)
                                  · rw [if_pos c19] at H
                                    have c19b0 := eq_true c19
                                    have c19b1 : decide (0 ≤ ((rd_T43 l1 x7_2).f1)) = true := decide_eq_true c19
                                    clear c19
                                    obtain ⟨ji20, hji20⟩ : ∃ j_ : Int, (shl .i64 1 ((rd_T43 l1 x7_2).f1)) = j_ := ⟨_, rfl⟩
                                    replace H : (pomaderef02_Town.l0 k2 a0 l1 (x6_2.set (((rd_T43 l1 x7_2).f0) : Int).toNat (Go.bits .or .i64 (rd x6_2 ((rd_T43 l1 x7_2).f0)) (ji20))) (wrap64 (x7_2 + 1))) = some (r1, r2) := by first | (rw [hji20] at H; exact H) | (simp only [hji20] at H ⊢; exact H)
                                    have hji20_ : (IntKind.i64.wrap (1 * 2 ^ min ((rd_T43 l1 x7_2).f1).toNat 64)) = ji20 := hji20
                                    have hji20z : ((rd_T43 l1 x7_2).f1) ≤ 64 → (IntKind.i64.wrap (1 * 2 ^ ((rd_T43 l1 x7_2).f1).toNat)) = ji20 := shl_small hji20
                                    have hji20u : (IntKind.i64.wrap (2 ^ min ((rd_T43 l1 x7_2).f1).toNat 64)) = ji20 := by have h_ := hji20_; rw [Int.one_mul] at h_; exact h_
                                    have hji20v : ((rd_T43 l1 x7_2).f1) ≤ 64 → (IntKind.i64.wrap (2 ^ ((rd_T43 l1 x7_2).f1).toNat)) = ji20 := fun hle_ => by have h_ := hji20z hle_; rw [Int.one_mul] at h_; exact h_
                                    have hji20y : (wrap64 (1 * 2 ^ min ((rd_T43 l1 x7_2).f1).toNat 64)) = ji20 := (i64_w _).symm.trans hji20_
                                    have hji20x : ((rd_T43 l1 x7_2).f1) ≤ 64 → (wrap64 (1 * 2 ^ ((rd_T43 l1 x7_2).f1).toNat)) = ji20 := fun h_ => (i64_w _).symm.trans (hji20z h_)
                                    obtain ⟨y124, hy124⟩ : ∃ y_ : List Int, y_ = (x6_2.set (((rd_T43 l1 x7_2).f0) : Int).toNat (Go.bits .or .i64 (rd x6_2 ((rd_T43 l1 x7_2).f0)) (ji20))) := ⟨_, rfl⟩
                                    replace H : (pomaderef02_Town.l0 k2 a0 l1 y124 (wrap64 (x7_2 + 1))) = some (r1, r2) := by first | (rw [hy124]; with_reducible exact H) | (have H2_ := (Option.bind_some _ _).symm.trans H; rw [hy124]; with_reducible exact H2_) | (have H2_ := (Option.bind_some _ _).symm.trans H; with_reducible exact H2_) | with_reducible exact H | (rw [hy124]; exact H) | exact H
                                    have Ny124 := Aside0.mk hy124
                                    clear hy124
                                    have H' := Aside0.mk H
                                    clear H
                                    have p116 : 0 ≤ (x7_2 : Int) := of_decide_eq_true (by first | (with_reducible assumption) | assumption)
                                    have q116 : x7_2 < (l1.length : Int) := of_decide_eq_true (by first | (with_reducible assumption) | assumption)
                                    obtain ⟨ad116, e116, hx116_0, hx116_1⟩ := at_T43 HR1.out x7_2 p116 q116
                                    cases e116
                                    replace hx116_0 := (HB.out.cell (World.block_lt_of_cell? w _ hx116_0)).trans hx116_0
                                    replace hx116_1 := (HB.out.cell (World.block_lt_of_cell? w _ hx116_1)).trans hx116_1
                                    replace p116 := eq_true p116
                                    replace q116 := eq_true q116
                                    have p117 : 0 ≤ (x7_2 : Int) := of_decide_eq_true (by first | (with_reducible assumption) | assumption)
                                    have q117 : x7_2 < (l1.length : Int) := of_decide_eq_true (by first | (with_reducible assumption) | assumption)
                                    obtain ⟨ad117, e117, hx117_0, hx117_1⟩ := at_T43 HR1.out x7_2 p117 q117
                                    obtain rfl : ad116 = ad117 := (by injection e117)
                                    replace hx117_0 := (HB.out.cell (World.block_lt_of_cell? w _ hx117_0)).trans hx117_0
                                    replace hx117_1 := (HB.out.cell (World.block_lt_of_cell? w _ hx117_1)).trans hx117_1
                                    replace p117 := eq_true p117
                                    replace q117 := eq_true q117
                                    have p118 : 0 ≤ (x7_2 : Int) := of_decide_eq_true (by first | (with_reducible assumption) | assumption)
                                    have q118 : x7_2 < (l1.length : Int) := of_decide_eq_true (by first | (with_reducible assumption) | assumption)
                                    obtain ⟨ad118, e118, hx118_0, hx118_1⟩ := at_T43 HR1.out x7_2 p118 q118
                                    obtain rfl : ad116 = ad118 := (by injection e118)
                                    replace hx118_0 := (HB.out.cell (World.block_lt_of_cell? w _ hx118_0)).trans hx118_0
                                    replace hx118_1 := (HB.out.cell (World.block_lt_of_cell? w _ hx118_1)).trans hx118_1
                                    replace p118 := eq_true p118
                                    replace q118 := eq_true q118
                                    have p119 : 0 ≤ (x7_2 : Int) := of_decide_eq_true (by first | (with_reducible assumption) | assumption)
                                    have q119 : x7_2 < (l1.length : Int) := of_decide_eq_true (by first | (with_reducible assumption) | assumption)
                                    obtain ⟨ad119, e119, hx119_0, hx119_1⟩ := at_T43 HR1.out x7_2 p119 q119
                                    obtain rfl : ad116 = ad119 := (by injection e119)
                                    replace hx119_0 := (HB.out.cell (World.block_lt_of_cell? w _ hx119_0)).trans hx119_0
                                    replace hx119_1 := (HB.out.cell (World.block_lt_of_cell? w _ hx119_1)).trans hx119_1
                                    replace p119 := eq_true p119
                                    replace q119 := eq_true q119
                                    try go_wp2
                                    have n0_ := Aside0.mk (Kd.R_drew HO_6.out)
                                    have n1_ := Aside0.mk (below_drew1 HB.out)
                                    clear HO_6
                                    clear HB
                                    have HO_6 := n0_
                                    have HB := n1_
                                    clear n0_ n1_
                                    have p120 : 0 ≤ (x7_2 : Int) := of_decide_eq_true (by first | (with_reducible assumption) | assumption)
                                    have q120 : x7_2 < (l1.length : Int) := of_decide_eq_true (by first | (with_reducible assumption) | assumption)
                                    obtain ⟨ad120, e120, hx120_0, hx120_1⟩ := at_T43 HR1.out x7_2 p120 q120
                                    have hw120_1 := hx120_1
                                    have hw120_0 := hx120_0
                                    obtain rfl : ad116 = ad120 := (by injection e120)
                                    replace hx120_0 := (HB.out.cell (World.block_lt_of_cell? w _ hx120_0)).trans hx120_0
                                    replace hx120_1 := (HB.out.cell (World.block_lt_of_cell? w _ hx120_1)).trans hx120_1
                                    replace p120 := eq_true p120
                                    replace q120 := eq_true q120
                                    have p121 : 0 ≤ (x7_2 : Int) := of_decide_eq_true (by first | (with_reducible assumption) | assumption)
                                    have q121 : x7_2 < (l1.length : Int) := of_decide_eq_true (by first | (with_reducible assumption) | assumption)
                                    obtain ⟨ad121, e121, hx121_0, hx121_1⟩ := at_T43 HR1.out x7_2 p121 q121
                                    have hw121_1 := hx121_1
                                    have hw121_0 := hx121_0
                                    obtain rfl : ad116 = ad121 := (by injection e121)
                                    replace hx121_0 := (HB.out.cell (World.block_lt_of_cell? w _ hx121_0)).trans hx121_0
                                    replace hx121_1 := (HB.out.cell (World.block_lt_of_cell? w _ hx121_1)).trans hx121_1
                                    replace p121 := eq_true p121
                                    replace q121 := eq_true q121
                                    obtain ⟨Ao23, co23, eo23⟩ := Kd.R_slice HO_6.out
                                    (first | subst eo23 | (injection eo23 with f1_ f2_ f3_; have f4_ := f1_.symm; have f5_ := f3_.symm; clear f1_ f2_ f3_; subst f4_; subst f5_))
                                    have p122 : 0 ≤ (((rd_T43 l1 x7_2).f0) : Int) := of_decide_eq_true (by first | (with_reducible assumption) | assumption)
                                    have q122 : ((rd_T43 l1 x7_2).f0) < (x6_2.length : Int) := of_decide_eq_true (by first | (with_reducible assumption) | assumption)
                                    obtain ⟨ad122, e122, hx122_0⟩ := Kd.at_int (Kd.R_reads' HO_6.out).2.2 ((rd_T43 l1 x7_2).f0) p122 q122
                                    cases e122
                                    replace p122 := eq_true p122
                                    replace q122 := eq_true q122
                                    have p123 : 0 ≤ (x7_2 : Int) := of_decide_eq_true (by first | (with_reducible assumption) | assumption)
                                    have q123 : x7_2 < (l1.length : Int) := of_decide_eq_true (by first | (with_reducible assumption) | assumption)
                                    obtain ⟨ad123, e123, hx123_0, hx123_1⟩ := at_T43 HR1.out x7_2 p123 q123
                                    have hw123_1 := hx123_1
                                    have hw123_0 := hx123_0
                                    obtain rfl : ad116 = ad123 := (by injection e123)
                                    replace hx123_0 := (HB.out.cell (World.block_lt_of_cell? w _ hx123_0)).trans hx123_0
                                    replace hx123_1 := (HB.out.cell (World.block_lt_of_cell? w _ hx123_1)).trans hx123_1
                                    replace p123 := eq_true p123
                                    replace q123 := eq_true q123
                                    have p21 : 0 ≤ (((rd_T43 l1 x7_2).f0) : Int) := of_decide_eq_true (by first | (with_reducible assumption) | assumption)
                                    have q21 : (((rd_T43 l1 x7_2).f0) : Int) < ((x6_2.length : Int) : Int) := of_decide_eq_true (by first | (with_reducible assumption) | assumption)
                                    obtain ⟨go21, co21, eo21, gb21, gl21, cl21, HG21⟩ := Kd.R_form HO_6.out (by omega)
                                    (first | cases eo21 | (injection eo21 with ea_ en_ ec_; (first | subst ea_ | (injection ea_ with ea_; subst ea_)); subst ec_; clear en_))
                                    have GB21 := Aside0.mk gb21
                                    have GG21 := Aside0.mk HG21
                                    clear gb21 gl21 HG21
                                    (first | simp only [add_plain] at hx122_0 | skip)
                                    obtain ⟨hx21_0, hf21_0⟩ := Kd.R_celln 0 HO_6.out (((rd_T43 l1 x7_2).f0) : Int) p21 q21
                                    replace p21 := eq_true p21
                                    replace q21 := eq_true q21
                                    have HP24 := Kd.R_putn HO_6.out (((rd_T43 l1 x7_2).f0) : Int) (Go.bits .or .i64 (rd x6_2 ((rd_T43 l1 x7_2).f0)) (ji20))
                                    rw [← Ny124.out] at HP24
                                    have HQ24 := Aside0.mk HP24
                                    clear HP24
                                    refine start_ (n := 23) (S := fun w' => w'.cell? (ad116.add ((x7_2).toNat * 2)) = some (.int .i64 ((rd_T43 l1 x7_2).f0)) ∧ w'.cell? ⟨(ad116.add ((x7_2).toNat * 2)).block, (ad116.add ((x7_2).toNat * 2)).off + 1, none⟩ = some (.int .i64 ((rd_T43 l1 x7_2).f1)) ∧ w'.cell? (ad116.add ((x7_2).toNat * 2)) = some (.int .i64 ((rd_T43 l1 x7_2).f0)) ∧ w'.cell? ⟨(ad116.add ((x7_2).toNat * 2)).block, (ad116.add ((x7_2).toNat * 2)).off + 1, none⟩ = some (.int .i64 ((rd_T43 l1 x7_2).f1)) ∧ w'.cell? ⟨go21, (((rd_T43 l1 x7_2).f0)).toNat, none⟩ = some (.int .i64 (rd x6_2 ((rd_T43 l1 x7_2).f0))) ∧ w'.cell? (ad116.add ((x7_2).toNat * 2)) = some (.int .i64 ((rd_T43 l1 x7_2).f0)) ∧ w'.cell? ⟨(ad116.add ((x7_2).toNat * 2)).block, (ad116.add ((x7_2).toNat * 2)).off + 1, none⟩ = some (.int .i64 ((rd_T43 l1 x7_2).f1))) (ds := [22]) #[false, false, false, false, false, false, false, false, false, false, false, false, false, false, false, false, false, false, false, false, false, false, false] (by kernel_rfl) rfl rfl ⟨((HB.out.cell (World.block_lt_of_cell? w _ hw120_0)).trans hw120_0), ((HB.out.cell (World.block_lt_of_cell? w _ hw120_1)).trans hw120_1), ((HB.out.cell (World.block_lt_of_cell? w _ hw121_0)).trans hw121_0), ((HB.out.cell (World.block_lt_of_cell? w _ hw121_1)).trans hw121_1), hx122_0, ((HB.out.cell (World.block_lt_of_cell? w _ hw123_0)).trans hw123_0), ((HB.out.cell (World.block_lt_of_cell? w _ hw123_1)).trans hw123_1)⟩ (fun hHeld => ?_); refine with_tabW pomaderef02_Town.tab11 pomaderef02_Town.bits11 (fun HT_ HW_ => ?_)
                                    generalize wr.drew = w22 at HO_6 HB GG21 HQ24 hf21_0 hx120_0 hx120_1 hx121_0 hx121_1 hx122_0 hx123_0 hx123_1 hx21_0 hHeld ⊢
                                    refine pure_ (i := 0) (N := some 57) (v := ?_) (a' := ?_) #[true, false, false, false, false, false, false, false, false, false, false, false, false, false, false, false, false, false, false, false, false, false, false] rfl rfl (any_of HT_.out (by kernel_rfl)) (fun _ _ _ h => h) (Or.inl ⟨by rfl, ?_⟩) ?_ ?_
                                    rotate_left
                                    · intro w'
                                      go_simp
                                      with_reducible rfl
                                    rotate_left
                                    · simp only [Act.put, List.setIfInBounds_toArray, List.set_cons_zero, List.set_cons_succ, i64_w, i32_w]
                                      rfl
                                    refine pure_ (i := 1) (N := some 58) (v := ?_) (a' := ?_) #[true, true, false, false, false, false, false, false, false, false, false, false, false, false, false, false, false, false, false, false, false, false, false] rfl rfl (any_of HT_.out (by kernel_rfl)) (fun _ _ _ h => h) (Or.inl ⟨by rfl, ?_⟩) ?_ ?_
                                    rotate_left
                                    · intro w'
                                      go_simp
                                      with_reducible rfl
                                    rotate_left
                                    · simp only [Act.put, List.setIfInBounds_toArray, List.set_cons_zero, List.set_cons_succ, i64_w, i32_w]
                                      rfl
                                    refine pure_ (i := 2) (N := some 59) (v := ?_) (a' := ?_) #[true, true, true, false, false, false, false, false, false, false, false, false, false, false, false, false, false, false, false, false, false, false, false] rfl rfl (any_of HT_.out (by kernel_rfl)) (fun _ _ _ h => h) (Or.inl ⟨by rfl, ?_⟩) ?_ ?_
                                    rotate_left
                                    · intro w'
                                      go_simp
                                      with_reducible rfl
                                    rotate_left
                                    · simp only [Act.put, List.setIfInBounds_toArray, List.set_cons_zero, List.set_cons_succ, i64_w, i32_w]
                                      rfl
                                    refine pure_ (i := 3) (N := some 60) (v := ?_) (a' := ?_) #[true, true, true, true, false, false, false, false, false, false, false, false, false, false, false, false, false, false, false, false, false, false, false] rfl rfl (any_of HT_.out (by kernel_rfl)) (fun _ _ _ h => h) (Or.inl ⟨by rfl, ?_⟩) ?_ ?_
                                    rotate_left
                                    · intro w'
                                      go_simp
                                      with_reducible rfl
                                    rotate_left
                                    · simp only [Act.put, List.setIfInBounds_toArray, List.set_cons_zero, List.set_cons_succ, i64_w, i32_w]
                                      rfl
                                    refine pure_ (i := 4) (N := some 61) (v := ?_) (a' := ?_) #[true, true, true, true, true, false, false, false, false, false, false, false, false, false, false, false, false, false, false, false, false, false, false] rfl rfl (any_of HT_.out (by kernel_rfl)) (fun _ _ _ h => h) (Or.inl ⟨by rfl, ?_⟩) ?_ ?_
                                    rotate_left
                                    · intro w'
                                      go_simp
                                      with_reducible rfl
                                    rotate_left
                                    · simp only [Act.put, List.setIfInBounds_toArray, List.set_cons_zero, List.set_cons_succ, i64_w, i32_w]
                                      rfl
                                    refine pure_ (i := 6) (N := some 63) (v := ?_) (a' := ?_) #[true, true, true, true, true, false, true, false, false, false, false, false, false, false, false, false, false, false, false, false, false, false, false] rfl rfl (any_of HT_.out (by kernel_rfl)) (fun _ _ _ h => h) (Or.inl ⟨by rfl, ?_⟩) ?_ ?_
                                    rotate_left
                                    · intro w'
                                      go_simp
                                      with_reducible rfl
                                    rotate_left
                                    · simp only [Act.put, List.setIfInBounds_toArray, List.set_cons_zero, List.set_cons_succ, i64_w, i32_w]
                                      rfl
                                    refine pure_ (i := 7) (N := some 64) (v := ?_) (a' := ?_) #[true, true, true, true, true, false, true, true, false, false, false, false, false, false, false, false, false, false, false, false, false, false, false] rfl rfl (any_of HT_.out (by kernel_rfl)) (fun _ _ _ h => h) (Or.inl ⟨by rfl, ?_⟩) ?_ ?_
                                    rotate_left
                                    · intro w'
                                      go_simp
                                      with_reducible rfl
                                    rotate_left
                                    · simp only [Act.put, List.setIfInBounds_toArray, List.set_cons_zero, List.set_cons_succ, i64_w, i32_w]
                                      rfl
                                    refine pure_ (i := 8) (N := some 65) (v := ?_) (a' := ?_) #[true, true, true, true, true, false, true, true, true, false, false, false, false, false, false, false, false, false, false, false, false, false, false] rfl rfl (any_of HT_.out (by kernel_rfl)) (fun _ _ _ h => h) (Or.inl ⟨by rfl, ?_⟩) ?_ ?_
                                    rotate_left
                                    · intro w'
                                      go_simp
                                      with_reducible rfl
                                    rotate_left
                                    · simp only [Act.put, List.setIfInBounds_toArray, List.set_cons_zero, List.set_cons_succ, i64_w, i32_w]
                                      rfl
                                    refine pure_ (i := 9) (N := some 66) (v := ?_) (a' := ?_) #[true, true, true, true, true, false, true, true, true, true, false, false, false, false, false, false, false, false, false, false, false, false, false] rfl rfl (any_of HT_.out (by kernel_rfl)) (fun _ _ _ h => h) (Or.inl ⟨by rfl, ?_⟩) ?_ ?_
                                    rotate_left
                                    · intro w'
                                      go_simp
                                      with_reducible rfl
                                    rotate_left
                                    · simp only [Act.put, List.setIfInBounds_toArray, List.set_cons_zero, List.set_cons_succ, i64_w, i32_w]
                                      rfl
                                    refine pure_ (i := 10) (N := some 67) (v := ?_) (a' := ?_) #[true, true, true, true, true, false, true, true, true, true, true, false, false, false, false, false, false, false, false, false, false, false, false] rfl rfl (any_of HT_.out (by kernel_rfl)) (fun _ _ _ h => h) (Or.inl ⟨by rfl, ?_⟩) ?_ ?_
                                    rotate_left
                                    · intro w'
                                      go_simp
                                      with_reducible rfl
                                    rotate_left
                                    · simp only [Act.put, List.setIfInBounds_toArray, List.set_cons_zero, List.set_cons_succ, i64_w, i32_w]
                                      rfl
                                    refine pure_ (i := 14) (N := some 71) (v := ?_) (a' := ?_) #[true, true, true, true, true, false, true, true, true, true, true, false, false, false, true, false, false, false, false, false, false, false, false] rfl rfl (any_of HT_.out (by kernel_rfl)) (fun _ _ _ h => h) (Or.inl ⟨by rfl, ?_⟩) ?_ ?_
                                    rotate_left
                                    · intro w'
                                      go_simp
                                      with_reducible rfl
                                    rotate_left
                                    · simp only [Act.put, List.setIfInBounds_toArray, List.set_cons_zero, List.set_cons_succ, i64_w, i32_w]
                                      rfl
                                    refine pure_ (i := 15) (N := some 72) (v := ?_) (a' := ?_) #[true, true, true, true, true, false, true, true, true, true, true, false, false, false, true, true, false, false, false, false, false, false, false] rfl rfl (any_of HT_.out (by kernel_rfl)) (fun _ _ _ h => h) (Or.inl ⟨by rfl, ?_⟩) ?_ ?_
                                    rotate_left
                                    · intro w'
                                      go_simp
                                      with_reducible rfl
                                    rotate_left
                                    · simp only [Act.put, List.setIfInBounds_toArray, List.set_cons_zero, List.set_cons_succ, i64_w, i32_w]
                                      rfl
                                    refine pure_ (i := 16) (N := some 73) (v := ?_) (a' := ?_) #[true, true, true, true, true, false, true, true, true, true, true, false, false, false, true, true, true, false, false, false, false, false, false] rfl rfl (any_of HT_.out (by kernel_rfl)) (fun _ _ _ h => h) (Or.inl ⟨by rfl, ?_⟩) ?_ ?_
                                    rotate_left
                                    · intro w'
                                      go_simp
                                      with_reducible rfl
                                    rotate_left
                                    · simp only [Act.put, List.setIfInBounds_toArray, List.set_cons_zero, List.set_cons_succ, i64_w, i32_w]
                                      rfl
                                    refine pure_ (i := 17) (N := some 74) (v := ?_) (a' := ?_) #[true, true, true, true, true, false, true, true, true, true, true, false, false, false, true, true, true, true, false, false, false, false, false] rfl rfl (any_of HT_.out (by kernel_rfl)) (fun _ _ _ h => h) (Or.inl ⟨by rfl, ?_⟩) ?_ ?_
                                    rotate_left
                                    · intro w'
                                      go_simp
                                      with_reducible rfl
                                    rotate_left
                                    · simp only [Act.put, List.setIfInBounds_toArray, List.set_cons_zero, List.set_cons_succ, i64_w, i32_w]
                                      rfl
                                    refine take_ (i := 5) (N := some 62) (v := ?_) (a' := ?_) #[true, true, true, true, true, true, true, true, true, true, true, false, false, false, true, true, true, true, false, false, false, false, false] rfl rfl (take_ofW HT_.out HW_.out (by kernel_rfl)) (fun _ _ _ h => h) (Or.inl ⟨by rfl, ?_⟩) hHeld ?_ ?_
                                    rotate_left
                                    · rintro w' ⟨s0, s1, s2, s3, s4, s5, s6⟩
                                      go_simp
                                      with_reducible rfl
                                    rotate_left
                                    · simp only [Act.put, List.setIfInBounds_toArray, List.set_cons_zero, List.set_cons_succ, i64_w, i32_w]
                                      rfl
                                    refine take_ (i := 11) (N := some 68) (v := ?_) (a' := ?_) #[true, true, true, true, true, true, true, true, true, true, true, true, false, false, true, true, true, true, false, false, false, false, false] rfl rfl (take_ofW HT_.out HW_.out (by kernel_rfl)) (fun _ _ _ h => h) (Or.inl ⟨by rfl, ?_⟩) hHeld ?_ ?_
                                    rotate_left
                                    · rintro w' ⟨s0, s1, s2, s3, s4, s5, s6⟩
                                      go_simp
                                      with_reducible rfl
                                    rotate_left
                                    · simp only [Act.put, List.setIfInBounds_toArray, List.set_cons_zero, List.set_cons_succ, i64_w, i32_w]
                                      rfl
                                    refine pure_ (i := 12) (N := some 69) (v := ?_) (a' := ?_) #[true, true, true, true, true, true, true, true, true, true, true, true, true, false, true, true, true, true, false, false, false, false, false] rfl rfl (any_of HT_.out (by kernel_rfl)) (fun _ _ _ h => h) (Or.inl ⟨by rfl, ?_⟩) ?_ ?_
                                    rotate_left
                                    · intro w'
                                      go_simp
                                      with_reducible rfl
                                    rotate_left
                                    · simp only [Act.put, List.setIfInBounds_toArray, List.set_cons_zero, List.set_cons_succ, i64_w, i32_w]
                                      rfl
                                    refine take_ (i := 13) (N := some 70) (v := ?_) (a' := ?_) #[true, true, true, true, true, true, true, true, true, true, true, true, true, true, true, true, true, true, false, false, false, false, false] rfl rfl (take_ofW HT_.out HW_.out (by kernel_rfl)) (fun _ _ _ h => h) (Or.inl ⟨by rfl, ?_⟩) hHeld ?_ ?_
                                    rotate_left
                                    · rintro w' ⟨s0, s1, s2, s3, s4, s5, s6⟩
                                      go_simp
                                      with_reducible rfl
                                    rotate_left
                                    · simp only [Act.put, List.setIfInBounds_toArray, List.set_cons_zero, List.set_cons_succ, i64_w, i32_w]
                                      rfl
                                    refine take_ (i := 18) (N := some 75) (v := ?_) (a' := ?_) #[true, true, true, true, true, true, true, true, true, true, true, true, true, true, true, true, true, true, true, false, false, false, false] rfl rfl (take_ofW HT_.out HW_.out (by kernel_rfl)) (fun _ _ _ h => h) (Or.inl ⟨by rfl, ?_⟩) hHeld ?_ ?_
                                    rotate_left
                                    · rintro w' ⟨s0, s1, s2, s3, s4, s5, s6⟩
                                      go_simp
                                      with_reducible rfl
                                    rotate_left
                                    · simp only [Act.put, List.setIfInBounds_toArray, List.set_cons_zero, List.set_cons_succ, i64_w, i32_w]
                                      rfl
                                    refine pure_ (i := 19) (N := some 76) (v := ?_) (a' := ?_) #[true, true, true, true, true, true, true, true, true, true, true, true, true, true, true, true, true, true, true, true, false, false, false] rfl rfl (any_of HT_.out (by kernel_rfl)) (fun _ _ _ h => h) (Or.inl ⟨by rfl, ?_⟩) ?_ ?_
                                    rotate_left
                                    · intro w'
                                      go_simp
                                      with_reducible rfl
                                    rotate_left
                                    · simp only [Act.put, List.setIfInBounds_toArray, List.set_cons_zero, List.set_cons_succ, i64_w, i32_w]
                                      rfl
                                    refine pure_ (i := 20) (N := some 77) (v := ?_) (a' := ?_) #[true, true, true, true, true, true, true, true, true, true, true, true, true, true, true, true, true, true, true, true, true, false, false] rfl rfl (any_of HT_.out (by kernel_rfl)) (fun _ _ _ h => h) (Or.inl ⟨by rfl, ?_⟩) ?_ ?_
                                    rotate_left
                                    · intro w'
                                      go_simp
                                      with_reducible rfl
                                    rotate_left
                                    · simp only [Act.put, List.setIfInBounds_toArray, List.set_cons_zero, List.set_cons_succ, i64_w, i32_w]
                                      rfl
                                    refine pure_ (i := 21) (N := some 78) (v := ?_) (a' := ?_) #[true, true, true, true, true, true, true, true, true, true, true, true, true, true, true, true, true, true, true, true, true, true, false] rfl rfl (any_of HT_.out (by kernel_rfl)) (fun _ _ _ h => h) (Or.inl ⟨by rfl, ?_⟩) ?_ ?_
                                    rotate_left
                                    · intro w'
                                      go_simp
                                      with_reducible rfl
                                    rotate_left
                                    · simp only [Act.put, List.setIfInBounds_toArray, List.set_cons_zero, List.set_cons_succ, i64_w, i32_w]
                                      rfl
                                    refine last_ (i := 22) (N := none) #[true, true, true, true, true, true, true, true, true, true, true, true, true, true, true, true, true, true, true, true, true, true, true] rfl rfl (one_of HT_.out (by kernel_rfl)) (by decide) (fun K hK => ?_)
                                    refine skip_ (w1 := ?_) (by rfl) rfl ?_ ?_
                                    rotate_left
                                    · go_simp
                                      rfl
                                    refine hK.out _ _ ?_
                                    clear hK K
                                    refine done_ (done_of HT_.out (by kernel_rfl)) ?_
                                    try go_wp2
                                    go_roundg k2
                                    case measure => have := HJ2.out; have := HK2.out; omega
                                    case rel => exact ⟨(y124), (wrap64 (x7_2 + 1)), (by first | rfl | (simp; done) | (simp [*]; done)), H', ⟨by have := HJ2.out; have := HK2.out; omega⟩, ⟨by (with_reducible repeat (first | apply Kd.R_alloc | apply Kd.R_drewN | apply Kd.R_drew)); exact HQ24.out⟩, ⟨by repeat (first | (with_reducible first | exact HB.out | apply below_alloc | apply pw_below_drewN | apply below_drew1 | refine below_set ?_ GB21.out) | exact HB.out)⟩⟩
                                  · rw [if_neg c19] at H
                                    exact absurd H (by simp)
                                · rw [if_neg c18] at H
                                  exact absurd H (by simp)
                              · rw [if_neg c17] at H
                                exact absurd H (by simp)
                    · rw [if_neg c12] at H
                      exact absurd H (by simp)
                  · rw [if_neg c11] at H
                    have c11b0 : decide (x7_2 < (l1.length : Int)) = false := decide_eq_false c11
                    clear c11
                    simp only [Option.some.injEq, Prod.mk.injEq] at H
                    obtain ⟨rfl, rfl⟩ := H
                    go_wp2
                    go_ret2
                    exact ⟨_, by first | rfl | (simp [errW_none, errW_some] <;> rfl) | (simp [*, errW_none, errW_some] <;> rfl), by (with_reducible repeat (first | apply Kd.R_alloc | apply Kd.R_drewN | apply Kd.R_drew)); exact HO_6.out, by repeat (first | (with_reducible first | exact HB.out | apply below_alloc | apply pw_below_drewN | apply below_drew1) | exact HB.out)⟩
            · rw [if_neg c8] at H
              exact absurd H (by simp)
          · rw [if_neg c7] at H
            exact absurd H (by simp)
end Go.Proofs.Ytmobefgnkiboaaa.Im

namespace Go.Proofs.Ytmobefgnkiboaaa.Im
open Go.RowKit Go.Proofs.YtmobefgnkiboaaaW.PrintWords Go.Proofs.YtmobefgnkiboaaaW.PrintLast Go.Proofs.YtmobefgnkiboaaaW.PrintMore
section
variable {P : Program} {ops : Array Oper} {Q : Exit → Act → World → Prop} {md : Region.Mode} {S : World → Prop}
theorem ro_call {i : Nat} {o : Oper} {f : FuncId} {args : Array Value} {a : Act} {w : World} {K : Act → World → Prop} (hi : ops[i]? = some o)
    (hw : Region.wanted o (yielded ops a.tmps) = true) (hr : (execOp a.eval o).run P w = .ok (.enter f args) w)
    (hc : Calls P f args w fun e w' => ∃ v, e = .returned v ∧ K (a.put o.dst v) w') : wpOp P ops Q i K a w := by
  unfold wpOp
  simp only [hi, hw, if_true]
  refine .inl ?_
  unfold Oper.wp
  rw [hr]
  refine hc.mono ?_
  rintro e w' ⟨v, rfl, h⟩
  exact h
theorem ro_val {i : Nat} {o : Oper} {v : Value} {a : Act} {w w' : World} {K : Act → World → Prop} (hi : ops[i]? = some o)
    (hw : Region.wanted o (yielded ops a.tmps) = true) (hr : (execOp a.eval o).run P w = .ok (.value v) w')
    (hc : K (a.put o.dst v) w') : wpOp P ops Q i K a w := by
  unfold wpOp
  simp only [hi, hw, if_true]
  refine .inl ?_
  unfold Oper.wp
  rw [hr]
  exact hc
theorem ro_skip {i : Nat} {o : Oper} {a : Act} {w w' : World} {K : Act → World → Prop} (hi : ops[i]? = some o)
    (hw : Region.wanted o (yielded ops a.tmps) = true) (hr : (execOp a.eval o).run P w = .ok .skip w')
    (hc : K (a.put o.dst undef) w') : wpOp P ops Q i K a w := by
  unfold wpOp
  simp only [hi, hw, if_true]
  refine .inl ?_
  unfold Oper.wp
  rw [hr]
  exact hc
theorem ro_one {i : Nat} {fuel : Nat} {listed : Array Bool} {a : Act} {w : World} (hr : Region.ready md ops listed = [i])
    (h : wpOp P ops Q i (fun a' w' => S w' ∧ wpAnyH P md ops Q S fuel (listed.setIfInBounds i true) a' w') a w) : wpAnyH P md ops Q S (fuel + 1) listed a w :=
  wpAnyH_all hr (by simp) fun j hj => by
    obtain rfl : j = i := by simpa using hj
    exact h
/-- What yields in every world. -/
theorem yi_any {o : Oper} {v : Value} {a : Act} (hw : Region.wanted o (yielded ops a.tmps) = true) (h : ∀ w, (execOp a.eval o).run P w = .ok (.value v) w) : YieldsIf P ops S o v a := .inl ⟨hw, fun w _ => h w⟩
theorem yi_at {o : Oper} {v : Value} {a : Act} (hw : Region.wanted o (yielded ops a.tmps) = true) (h : ∀ w, S w → (execOp a.eval o).run P w = .ok (.value v) w) : YieldsIf P ops S o v a := .inl ⟨hw, h⟩
end
/-- The whole town is read. -/
theorem info50 : (Try.prog.info? 50).map (·.size) = some 13 := by kernel_rfl
theorem ex_load_tn {ev : Operand → Value} {o : Oper} {x : Operand} (ho : o.op = .load 50 x) (w : World) (g n : Nat) (l : List Nat) (hx : ev x = .pointer (some ⟨g, 0, none⟩)) (h : TnN w g n l) (hl : l.length = 12) :
    (execOp ev o).run Try.prog w = .ok (.value (.agg (tnN n l))) w := by
  have := run_loadVar_row (P := Try.prog) w g 50 50 (tnN n l) (0, 0) _ h Try.underlying50 rfl (by rw [info50, tnN, tnA_size, ints_length, hl])
  unfold execOp
  simp only [ho, hx, Instr.loadAt, Instr.sureAddr, Sem.run_bind, Sem.run_pure, Result.andThen_ok, this]
end Go.Proofs.Ytmobefgnkiboaaa.Im
namespace Go.Proofs.Ytmobefgnkiboaaa.Im
open Go.RowKit Go.Proofs.YtmobefgnkiboaaaW.PrintWords Go.Proofs.YtmobefgnkiboaaaW.PrintLast Go.Proofs.YtmobefgnkiboaaaW.PrintMore
theorem tn_size (m : Nat) (o : List Nat) (h : o.length = 12) : (tnN m o).size = 13 := by rw [tnN, tnA_size, ints_length, h]
theorem tn_one (m : Nat) (o : List Nat) : (tnN m o).all (·.oneCell') = true := by
  rw [Array.all_eq_true_iff_forall_mem]
  intro x hx
  simp only [tnN, tnA, List.mem_toArray, List.mem_cons, List.mem_map] at hx
  rcases hx with rfl | ⟨y, _, rfl⟩ <;> rfl
theorem tn_info (m : Nat) (o : List Nat) (h : o.length = 12) : (Try.prog.info? 50).map (·.size) = some (tnN m o).size := by rw [info50, tn_size m o h]
theorem tn_old (m m' : Nat) (o o' : List Nat) (h : o.length = 12) (h' : o'.length = 12) : (tnN m o).size = (tnN m' o').size := by rw [tn_size m o h, tn_size m' o' h']
theorem wp_still_tail {P : Program} {id : Nat} {Q : Exit → Act → World → Prop} {a : Act} {w : World} {l : List Oper} (n : Nat) (hm : P.follows .mixedOrders = true) (hB : Region.lexTailB .any l.toArray n = true)
    (h : wpStill P l.toArray w.drew (fun a' => wpList P l.toArray Q (l.drop n) a' w.drew) (l.take n) a) : (Code.region id l.toArray true).wp P Q a w := wp_region_still_tail n hm hB h
theorem Blk.new' {w : World} {g : Nat} {t : TypeId} {cs : Array Value} (h : g = w.heap.size) : Blk (w.alloc (.cells cs t)) g t cs := h ▸ Blk.new w t cs
theorem gb_trans {w w1 w2 : World} {row : Option Nat} (h : w.grownBy w1 row) (k : w1.grownBy w2 row) : w.grownBy w2 row :=
  ⟨k.os.trans h.os, k.tape.trans h.tape, k.output.trans h.output, Nat.le_trans h.size k.size, fun i hi hne => (k.block i (Nat.lt_of_lt_of_le hi h.size) hne).trans (h.block i hi hne)⟩
theorem gb_none {w w1 : World} {row : Option Nat} (h : w.grownBy w1 none) : w.grownBy w1 row := ⟨h.os, h.tape, h.output, h.size, fun i hi _ => h.block i hi (by simp)⟩
theorem gb_below {w w1 : World} {row : Option Nat} (h : Below w.heap.size w w1) : w.grownBy w1 row := ⟨h.os, h.tape, h.output, h.size, fun i hi _ => h.block i hi⟩
theorem below_gb {w w1 : World} (h : w.grownBy w1 none) : Below w.heap.size w w1 := ⟨h.os, h.tape, h.output, h.size, fun i hi => h.block i hi (by simp)⟩
theorem gb_drew (w : World) (row : Option Nat) : w.grownBy w.drew row := gb_below (below_drew (Below.refl _ _))
theorem gb_drewN (w : World) (n : Nat) (row : Option Nat) : w.grownBy (w.drewN n) row := gb_below (pw_below_drewN (Below.refl _ _) n)
theorem gb_alloc (w : World) (o : Obj) (row : Option Nat) : w.grownBy (w.alloc o) row := gb_below (below_alloc (Below.refl _ _) o)
theorem gb_set (w : World) (p : Addr) (v : Value) : w.grownBy (w.setCell p v) (some p.block) :=
  ⟨rfl, rfl, rfl, by simp [World.setCell], fun i hi hne => Below.heap_setCell w p v i (fun e => hne (by rw [e]))⟩
theorem Blk.gb {w w' : World} {g : Nat} {t : TypeId} {cs : Array Value} {row : Option Nat} (h : Blk w g t cs) (hb : w.grownBy w' row) (hg : some g ≠ row) : Blk w' g t cs := (hb.block g h.lt hg).trans h
theorem Blk.row {w : World} {g : Nat} {t : TypeId} {old : Array Value} (h : Blk w g t old) (cs : Array Value) : Blk (w.setRow g cs) g t cs := setRow_heap w g old cs t (0, 0) h
theorem gb_row (w : World) (g : Nat) (cs : Array Value) : w.grownBy (w.setRow g cs) (some g) :=
  ⟨rfl, rfl, rfl, by simp [World.setRow], fun i _ hne => setRow_other w g i cs (fun e => hne (by rw [e]))⟩
theorem gb_below_new {w w1 w2 : World} {row : Option Nat} (h : Below w.heap.size w w1) (k : w1.grownBy w2 row) (hr : ∀ g, row = some g → w.heap.size ≤ g) : Below w.heap.size w w2 := h.grown k h.size hr
/-- A function value that is called with sets; 'vis' says what it answers and what state it leaves. -/
structure Visit {σ : Type} (I : σ → World → Prop) (row : Option Nat) (f : FuncId) (cap : Array Value) (vis : σ → Nat → Bool × σ) : Prop where
  enter : ∀ (args : Array Value) (w : World), (callFunc f args).run Try.prog w = .ok (.enter f args) w
  keep : ∀ st w w', I st w → w.grownBy w' none → I st w'
  calls : ∀ st s w, s < 4096 → I st w → Calls Try.prog f (#[.int .i64 (s : Nat)] ++ cap) w (fun e w' => e = .returned (.bool (vis st s).1) ∧ I (vis st s).2 w' ∧ w.grownBy w' row)
/-- All sets that contain a set and some of the people of a list, in their order, until one is answered true. -/
def lpL {σ : Type} (vis : σ → Nat → Bool × σ) : List Nat → Nat → σ → Bool × σ
  | [], _, st => (false, st)
  | i :: rest, s, st =>
    let r := vis st (s ||| 2 ^ i)
    if r.1 then (true, r.2) else
    let q := lpL vis rest (s ||| 2 ^ i) r.2
    if q.1 then (true, q.2) else lpL vis rest s q.2
def onL {σ : Type} (vis : σ → Nat → Bool × σ) (l : List Nat) (s : Nat) (st : σ) : Bool × σ :=
  let r := vis st s
  if r.1 then (true, r.2) else lpL vis l s r.2
theorem lpL_cons {σ : Type} (vis : σ → Nat → Bool × σ) (i : Nat) (rest : List Nat) (s : Nat) (st : σ) :
    lpL vis (i :: rest) s st = if (onL vis rest (s ||| 2 ^ i) st).1 then (true, (onL vis rest (s ||| 2 ^ i) st).2) else lpL vis rest s (onL vis rest (s ||| 2 ^ i) st).2 := by
  simp only [lpL, onL]
  by_cases h : (vis st (s ||| 2 ^ i)).1 = true <;> simp [h]
/-- The members of a set from a number on. -/
def memF (p : Nat) : Nat → Nat → List Nat
  | 0, _ => []
  | d + 1, i => if p.testBit i then i :: memF p d (i + 1) else memF p d (i + 1)
def mem12 (p i : Nat) : List Nat := memF p (12 - i) i
theorem mem12_step (p i : Nat) (h : i < 12) : mem12 p i = if p.testBit i then i :: mem12 p (i + 1) else mem12 p (i + 1) := by
  unfold mem12
  rw [show 12 - i = (12 - (i + 1)) + 1 by omega]
  rfl
theorem memF_none (p : Nat) : ∀ d i, p >>> i = 0 → memF p d i = []
  | 0, _, _ => rfl
  | d + 1, i, h => by
    have ht : p.testBit i = false := by simp [Nat.testBit, h]
    have hn : p >>> (i + 1) = 0 := by rw [Nat.shiftRight_add, h]; rfl
    rw [memF, ht, memF_none p d (i + 1) hn]
    rfl
theorem mem12_none (p i : Nat) (h : p >>> i = 0) : mem12 p i = [] := memF_none p _ i h
theorem shr12 (p i : Nat) (hp : p < 4096) (h : p >>> i ≠ 0) : i < 12 := by
  rcases Nat.lt_or_ge i 12 with h' | h'
  · exact h'
  · exfalso
    apply h
    rw [Nat.shiftRight_eq_div_pow]
    apply Nat.div_eq_of_lt
    exact Nat.lt_of_lt_of_le hp (Nat.pow_le_pow_right (by decide) h' : 2 ^ 12 ≤ 2 ^ i)
theorem or_lt12 (s i : Nat) (hs : s < 4096) (hi : i < 12) : s ||| 2 ^ i < 4096 :=
  Nat.or_lt_two_pow (n := 12) hs (Nat.pow_lt_pow_right (by decide) hi)
end Go.Proofs.Ytmobefgnkiboaaa.Im
namespace Go.Proofs.Ytmobefgnkiboaaa.Im
open Go.RowKit
section
variable {P : Program} {ops : Array Oper} {Q : Exit → Act → World → Prop} {md : Region.Mode} {S : World → Prop}
/-- A slot is written. -/
def pt (a : Act) (d : Nat) (v : Value) : Act := ⟨a.tmps.setIfInBounds d v, a.defers⟩
theorem pt_lit (l : List Value) (ds : List Deferred) (d : Nat) (v : Value) : pt ⟨l.toArray, ds⟩ d v = ⟨(l.set d v).toArray, ds⟩ := by simp [pt]
theorem pt_put {a : Act} {o : Oper} {d : Nat} {v : Value} (h : o.dst = some d) : a.put o.dst v = pt a d v := by rw [h]; rfl
theorem tk {i : Nat} (d : Nat) {oi : Oper} {v : Value} {fuel : Nat} {listed : Array Bool} {a : Act} {w : World} (hi : ops[i]? = some oi) (hd : oi.dst = some d)
    (hs : Region.noSelect ops = true) (hf : Region.free md ops listed i = true) (hr : (Region.ready md ops listed).contains i = true)
    (hQ : ∀ c a w, Q (.panic c) (a.put oi.dst v) w → Q (.panic c) a w) (hw : Region.wanted oi (yielded ops a.tmps) = true) (hy : ∀ w, S w → (execOp a.eval oi).run P w = .ok (.value v) w) (hS : S w)
    (h : wpAnyH P md ops Q S fuel (listed.setIfInBounds i true) (pt a d v) w) : wpAnyH P md ops Q S (fuel + 1) listed a w :=
  wpAnyH_take hi hs hf hr hQ (.inl ⟨hw, hy⟩) hS (by rw [pt_put hd]; exact h)
theorem rc {i : Nat} (d : Nat) {o : Oper} {fuel : Nat} {listed : Array Bool} {f : FuncId} {args : Array Value} {a : Act} {w : World} (hr : Region.ready md ops listed = [i]) (hi : ops[i]? = some o) (hd : o.dst = some d)
    (hw : Region.wanted o (yielded ops a.tmps) = true) (hx : (execOp a.eval o).run P w = .ok (.enter f args) w)
    (hc : Calls P f args w fun e w' => ∃ v, e = .returned v ∧ S w' ∧ wpAnyH P md ops Q S fuel (listed.setIfInBounds i true) (pt a d v) w') : wpAnyH P md ops Q S (fuel + 1) listed a w :=
  ro_one hr (ro_call hi hw hx (hc.mono fun _ _ ⟨v, h1, h2, h3⟩ => ⟨v, h1, h2, by rw [pt_put hd]; exact h3⟩))
theorem rv {i : Nat} (d : Nat) {o : Oper} {fuel : Nat} {listed : Array Bool} {v : Value} {a : Act} {w w' : World} (hr : Region.ready md ops listed = [i]) (hi : ops[i]? = some o) (hd : o.dst = some d)
    (hw : Region.wanted o (yielded ops a.tmps) = true) (hx : (execOp a.eval o).run P w = .ok (.value v) w')
    (hS : S w') (h : wpAnyH P md ops Q S fuel (listed.setIfInBounds i true) (pt a d v) w') : wpAnyH P md ops Q S (fuel + 1) listed a w :=
  ro_one hr (ro_val hi hw hx ⟨hS, by rw [pt_put hd]; exact h⟩)
end
/-- A load of a town, the program's own reading. -/
theorem ld_tn {a : Act} {o : Oper} (x : Operand) (ho : o.op = .load 50 x) {S : World → Prop} (g n : Nat) (l : List Nat) (hx : a.eval x = .pointer (some ⟨g, 0, none⟩)) (hl : l.length = 12) (hS : ∀ w, S w → TnN w g n l) :
    ∀ w, S w → (execOp a.eval o).run Try.prog w = .ok (.value (.agg (tnN n l))) w := fun w h => ex_load_tn ho w g n l hx (hS w h) hl
end Go.Proofs.Ytmobefgnkiboaaa.Im
namespace Go.Proofs.Ytmobefgnkiboaaa.Im
open Go.RowKit Go.Proofs.YtmobefgnkiboaaaW.PrintWords Go.Proofs.YtmobefgnkiboaaaW.PrintLast Go.Proofs.YtmobefgnkiboaaaW.PrintMore
theorem shr_i64 (s i : Nat) (h : i ≤ 62) : shr .i64 (s : Int) (i : Int) = ((s >>> i : Nat) : Int) := by
  unfold shr
  rw [Int.toNat_natCast, Nat.min_eq_left (by show i ≤ 64; omega), shr_nat]
theorem b_bitshr (s i : Nat) (h : s < 2 ^ 62) : bits .and .i64 ((s >>> i : Nat) : Int) 1 = if s.testBit i then 1 else 0 := by
  rw [← shr_nat]; exact b_bit s i h
theorem wr_succ (i : Nat) (h : i < 1000000) : wrap64 ((i : Int) + 1) = ((i + 1 : Nat) : Int) := by unfold wrap64; omega
theorem members_loop (s : Nat) (hs : s < 4096) : ∀ (d i k : Nat) (acc : List Int), 12 - i = d → i ≤ 12 → acc.length ≤ i → d < k → shave_members.l0 k s acc i = some (acc ++ ints (mem12 s i)) := by
  intro d
  induction d with
  | zero =>
    intro i k acc hd hi ha hk
    obtain ⟨k, rfl⟩ : ∃ m, k = m + 1 := ⟨k - 1, by omega⟩
    have hz : s >>> i = 0 := by
      rcases Nat.eq_zero_or_pos (s >>> i) with h | h
      · exact h
      · have := shr12 s i hs (by omega); omega
    simp only [shave_members.l0]
    rw [if_pos (by omega), shr_i64 s i (by omega), hz, if_neg (by simp), mem12_none s i hz]
    simp [ints]
  | succ d ih =>
    intro i k acc hd hi ha hk
    obtain ⟨k, rfl⟩ : ∃ m, k = m + 1 := ⟨k - 1, by omega⟩
    simp only [shave_members.l0]
    rw [if_pos (by omega), shr_i64 s i (by omega)]
    by_cases hz : s >>> i = 0
    · rw [hz, if_neg (by simp), mem12_none s i hz]
      simp [ints]
    · rw [if_pos (show ((s >>> i : Nat) : Int) > 0 by have : 0 < s >>> i := Nat.pos_of_ne_zero hz; exact_mod_cast this), b_bitshr s i (by omega), mem12_step s i (by omega), wr_succ i (by omega)]
      cases hb : s.testBit i
      · rw [if_neg (by simp), if_neg (by simp)]
        exact ih (i + 1) k acc (by omega) (by omega) (by omega) (by omega)
      · rw [if_pos (by simp), if_pos (by omega), if_pos rfl, ih (i + 1) k _ (by omega) (by omega) (by simp; omega) (by omega)]
        simp [ints]
theorem members_f (s : Nat) (hs : s < 4096) : shave_members.f 13 s = some (ints (mem12 s 0)) := by
  have := members_loop s hs 12 0 13 [] (by omega) (by omega) (by simp) (by omega)
  simpa [shave_members.f] using this
def MemPost (l : List Nat) (w : World) (e : Ending) (w' : World) : Prop :=
  ∃ v, e = .returned v ∧ Kd.R (Kd.int .i64) 3 w' w.heap.size (fun _ => True) v (ints l) ∧ Below w.heap.size w w'
theorem members_any (s : Nat) (w : World) (hs : s < 4096) : Calls Try.prog 46 #[.int .i64 s] w (MemPost (mem12 s 0) w) :=
  (shave_members.calls 13 s _ w (members_f s hs)).mono fun _ _ ⟨v, h1, h2, h3⟩ => ⟨v, h1, h2, h3⟩
/-- The members, ascending. -/
def memL (s : Nat) : List Nat := mem12 s 0
end Go.Proofs.Ytmobefgnkiboaaa.Im
namespace Go.Proofs.Ytmobefgnkiboaaa.Im
open Go.RowKit Go.Proofs.YtmobefgnkiboaaaW.PrintWords Go.Proofs.YtmobefgnkiboaaaW.PrintLast Go.Proofs.YtmobefgnkiboaaaW.PrintMore
set_option linter.unusedVariables false
theorem C_cells {w : World} {b : Addr} {l : List Int} (h : Kd.C (Kd.int .i64) w (some b) l.length l) : ∀ j u, (nums .i64 l)[j]? = some u → w.cell? (b.add j) = some u := by
  intro j u hu
  have hj : j < l.length := by
    rcases Nat.lt_or_ge j l.length with h' | h'
    · exact h'
    · rw [List.getElem?_eq_none (by rw [nums_length]; exact h')] at hu; cases hu
  obtain ⟨ad, e, hc⟩ := Kd.at_int h (j : Int) (by omega) (by omega)
  cases e
  rw [Int.toNat_natCast] at hc
  rw [hc, ← hu]
  simp [nums, rd, hj]
theorem C_none {w : World} {l : List Int} (h : Kd.C (Kd.int .i64) w none l.length l) : l = [] := by
  rcases Nat.eq_zero_or_pos l.length with h0 | h0
  · exact List.eq_nil_of_length_eq_zero h0
  · obtain ⟨ad, e, _⟩ := Kd.at_int h 0 (by omega) (by omega)
    cases e
theorem C_some {w : World} {A : Option Addr} {l : List Int} (h : Kd.C (Kd.int .i64) w A l.length l) (h0 : 0 < l.length) : ∃ ad, A = some ad := by
  obtain ⟨ad, e, _⟩ := Kd.at_int h 0 (by omega) (by omega)
  exact ⟨ad, e⟩
/-- The run of the append. -/
theorem run_app1 (w : World) (A : Option Addr) (l : List Int) (g : Nat) (j : Int) (hr : Kd.C (Kd.int .i64) w A l.length l) (hg : w.cell? ⟨g, 0, none⟩ = some (.int .i64 j)) (hl : l.length < 1000000)
    (hA : A = none → l.length = 0) :
    ∃ v' w', (Builtin.append_ #[25, 25] 25 #[.slice A l.length l.length, .slice (some ⟨g, 0, none⟩) 1 1]).run Try.prog w = .ok v' w' ∧ Kd.R (Kd.int .i64) 3 w' w.heap.size (fun _ => True) v' (l ++ [j]) ∧ Below w.heap.size w w' := by
  obtain ⟨i0, hi, hzz⟩ := Option.map_eq_some_iff.1 info3
  simp only [Prod.mk.injEq] at hzz
  obtain ⟨hz0, hz1, hz2⟩ := hzz
  have hn : ∀ q u, [Value.int .i64 j][q]? = some u → w.cell? ((⟨g, 0, none⟩ : Addr).add q) = some u := by
    intro q u hu
    match q, hu with
    | 0, hu => simp at hu; subst hu; simpa [Addr.add] using hg
  have one : ∀ u ∈ [Value.int IntKind.i64 j], u.oneCell' = true := by intro u hu; simp at hu; subst hu; rfl
  have fin : ∀ v' w', w'.ownsRow w.heap.size 3 1 v' (l.length + 1) (nums .i64 l ++ [.int .i64 j]) → Kd.R (Kd.int .i64) 3 w' w.heap.size (fun _ => True) v' (l ++ [j]) := by
    intro v' w' h
    refine Kd.R_of_own ?_ (fun _ _ => trivial)
    have e : encs (Value.int .i64) (l ++ [j]) = nums .i64 l ++ [.int .i64 j] := by simp [encs, nums]
    rw [e, List.length_append]
    exact h
  cases A with
  | some b =>
    obtain ⟨v', w', hrun, r1, r2⟩ := run_append_arg_grows (P := Try.prog) w 25 25 3 i0 _ 1 8 Try.underlying25 hi hz0 hz1 hz2 rfl (by decide) b l.length l.length (nums .i64 l) (by simp [nums_length]) (C_cells hr) ⟨g, 0, none⟩ 1 1 [.int .i64 j] rfl hn (by omega) (by unfold maxLen; omega) (by omega)
    exact ⟨v', w', hrun, fin v' w' r1, below_gb r2⟩
  | none =>
    obtain rfl := C_none hr
    obtain ⟨v', w', hrun, r1, r2, _⟩ := run_append_own (P := Try.prog) w w.heap.size 25 25 3 i0 _ 1 8 Try.underlying25 hi hz0 hz1 hz2 rfl (by decide) (.slice none 0 0) 0 [] (World.ownsRow_nil w _ 3 1) ⟨g, 0, none⟩ 1 1 [.int .i64 j] rfl hn one (by unfold maxLen; omega) (by omega) (Nat.le_refl _)
    exact ⟨v', w', hrun, fin v' w' r1, below_gb r2⟩
theorem add_zero (b : Addr) : b.add 0 = b := by unfold Addr.add; simp
theorem run_slice3 (w : World) (A : Option Addr) (n c : Nat) (hc : n ≤ c) :
    (Instr.sliceAt 25 (.slice A n c) none (some (.int .i64 (n : Int))) (some (.int .i64 (n : Int)))).run Try.prog w = .ok (.slice A n n) w := by
  have hu : Try.prog.underlying 25 = some (.slice (Try.prog.elem 25)) := by rw [Try.underlying25]; rfl
  rw [run_sliceAt_slice w _ _ _ _ _ hu, run_slice_hm w 25 A n c hu .i64 .i64 (n : Int) (n : Int) (by omega) (by omega) (by omega)]
  have hs : (sizeOf (Try.prog.elem 25)).run Try.prog w = .ok 1 w := by kernel_rfl
  rw [hs]
  simp only [Result.andThen_ok, sliced, Int.toNat_natCast]
  cases A with
  | none => simp
  | some b => simp [add_zero]
theorem ex_slice3 {a : Act} {o : Oper} {x y z : Operand} (ho : o.op = .slice 25 x none (some y) (some z)) (w : World) (A : Option Addr) (n c : Nat) (hx : a.eval x = .slice A n c) (hy : a.eval y = .int .i64 n) (hz : a.eval z = .int .i64 n) (hc : n ≤ c) :
    (execOp a.eval o).run Try.prog w = .ok (.value (.slice A n n)) w := by
  unfold execOp
  simp [ho, hx, hy, hz, run_slice3 w A n c hc, Result.andThen]
section
variable {ops : Array Oper} {Q : Exit → Act → World → Prop} {md : Region.Mode} {S : World → Prop}
theorem ex_app1 {a : Act} {o : Oper} {s x : Operand} (ho : o.op = .call { callee := .builtin .append, args := #[s, x], argTypes := #[25, 25] }) (ht : o.type = 25) (w : World) (A : Option Addr) (l : List Int) (g : Nat) (j : Int)
    (hs : a.eval s = .slice A l.length l.length) (hx : a.eval x = .slice (some ⟨g, 0, none⟩) 1 1) (hr : Kd.C (Kd.int .i64) w A l.length l) (hg : w.cell? ⟨g, 0, none⟩ = some (.int .i64 j)) (hl : l.length < 1000000) (hA : A = none → l.length = 0) :
    ∃ v' w', (execOp a.eval o).run Try.prog w = .ok (.value v') w' ∧ Kd.R (Kd.int .i64) 3 w' w.heap.size (fun _ => True) v' (l ++ [j]) ∧ Below w.heap.size w w' := by
  obtain ⟨v', w', h1, h2, h3⟩ := run_app1 w A l g j hr hg hl hA
  refine ⟨v', w', ?_, h2, h3⟩
  unfold execOp
  simp [ho, ht, resolve, invoke, builtin, hs, hx, h1, Result.andThen]
/-- In a region that draws. -/
theorem r_app1 {i : Nat} (d : Nat) {o : Oper} {fuel : Nat} {listed : Array Bool} {a : Act} {w : World} (hrd : Region.ready md ops listed = [i]) (hi : ops[i]? = some o) (hd : o.dst = some d)
    (hw : Region.wanted o (yielded ops a.tmps) = true) {s x : Operand} (ho : o.op = .call { callee := .builtin .append, args := #[s, x], argTypes := #[25, 25] }) (ht : o.type = 25) (A : Option Addr) (l : List Int) (g : Nat) (j : Int)
    (hs : a.eval s = .slice A l.length l.length) (hx : a.eval x = .slice (some ⟨g, 0, none⟩) 1 1) (hr : Kd.C (Kd.int .i64) w A l.length l) (hg : w.cell? ⟨g, 0, none⟩ = some (.int .i64 j)) (hl : l.length < 1000000) (hA : A = none → l.length = 0)
    (h : ∀ v' w', Kd.R (Kd.int .i64) 3 w' w.heap.size (fun _ => True) v' (l ++ [j]) → Below w.heap.size w w' → S w' ∧ wpAnyH Try.prog md ops Q S fuel (listed.setIfInBounds i true) (pt a d v') w') : wpAnyH Try.prog md ops Q S (fuel + 1) listed a w := by
  obtain ⟨v', w', h1, h2, h3⟩ := ex_app1 (a := a) ho ht w A l g j hs hx hr hg hl hA
  exact rv d hrd hi hd hw h1 (h v' w' h2 h3).1 (h v' w' h2 h3).2
theorem l_slice3 {rest : List Oper} {o : Oper} {a : Act} {w : World} (hgd : o.guard = none) {x y z : Operand} (ho : o.op = .slice 25 x none (some y) (some z)) (A : Option Addr) (n c : Nat) (hx : a.eval x = .slice A n c) (hy : a.eval y = .int .i64 n) (hz : a.eval z = .int .i64 n) (hc : n ≤ c)
    (h : wpList Try.prog ops Q rest (a.put o.dst (.slice A n n)) w) : wpList Try.prog ops Q (o :: rest) a w := by
  refine wpList_plain hgd fun K hK => ?_
  unfold Oper.wp
  rw [ex_slice3 ho w A n c hx hy hz hc]
  exact hK _ _ h
/-- In the order of the text. -/
theorem l_app1 {rest : List Oper} {o : Oper} {a : Act} {w : World} (hgd : o.guard = none) {s x : Operand} (ho : o.op = .call { callee := .builtin .append, args := #[s, x], argTypes := #[25, 25] }) (ht : o.type = 25) (A : Option Addr) (l : List Int) (g : Nat) (j : Int)
    (hs : a.eval s = .slice A l.length l.length) (hx : a.eval x = .slice (some ⟨g, 0, none⟩) 1 1) (hr : Kd.C (Kd.int .i64) w A l.length l) (hg : w.cell? ⟨g, 0, none⟩ = some (.int .i64 j)) (hl : l.length < 1000000) (hA : A = none → l.length = 0)
    (h : ∀ v' w', Kd.R (Kd.int .i64) 3 w' w.heap.size (fun _ => True) v' (l ++ [j]) → Below w.heap.size w w' → wpList Try.prog ops Q rest (a.put o.dst v') w') : wpList Try.prog ops Q (o :: rest) a w := by
  obtain ⟨v', w', h1, h2, h3⟩ := ex_app1 (a := a) ho ht w A l g j hs hx hr hg hl hA
  refine wpList_plain hgd fun K hK => ?_
  unfold Oper.wp
  rw [h1]
  exact hK _ _ (h v' w' h2 h3)
end
end Go.Proofs.Ytmobefgnkiboaaa.Im

namespace Go.Proofs.Ytmobefgnkiboaaa.Im
open Go.RowKit Go.Proofs.YtmobefgnkiboaaaW.PrintWords Go.Proofs.YtmobefgnkiboaaaW.PrintLast Go.Proofs.YtmobefgnkiboaaaW.PrintMore
set_option linter.unusedVariables false
attribute [local go_sem] tnA_zero
theorem everybody_fin (n : Nat) (h1 : n ≤ 12) : wrap64 (wrap64 ((2 : Int) ^ n) - 1) = ((2 ^ n - 1 : Nat) : Int) := by
  have h : 2 ^ n ≤ 2 ^ 12 := Nat.pow_le_pow_right (by decide) h1
  have h0 : 0 < 2 ^ n := Nat.two_pow_pos n
  rw [wr_pow n (by omega), show ((2 ^ n : Nat) : Int) - 1 = ((2 ^ n - 1 : Nat) : Int) by omega, wr62' _ (by omega)]
set_option maxHeartbeats 400000 in
theorem everybody_any (n : Nat) (o : List Nat) (w : World) (h1 : n ≤ 12) :
    Calls Try.prog 57 #[.agg (tnN n o)] w fun e w' => e = .returned (.int .i64 (2 ^ n - 1 : Nat)) ∧ Below w.heap.size w w' := by
  have hf := Aside0.mk (everybody_fin n h1)
  unfold tnN
  go_enter Try.func57, Try.ntmps57
  go_wp2
  go_ret
  exact ⟨by rw [← hf.out]; simp, below_alloc (Below.refl _ _) _⟩
def indB (o : List Nat) (s i : Nat) : Bool := !s.testBit i || (o.getD i 0 &&& s == 0)
set_option maxHeartbeats 800000 in
theorem indep1_any (n : Nat) (o : List Nat) (s i : Nat) (g1 g2 : Nat) (w : World) (h1 : i < 12) (ok : Okt n o) (hs62 : s < 2 ^ 62)
    (hs : Blk w g1 3 #[.int .i64 s]) (ht : TnN w g2 n o) :
    Calls Try.prog 86 #[.int .i64 i, .pointer (some ⟨g1, 0, none⟩), .pointer (some ⟨g2, 0, none⟩)] w fun e w' => e = .returned (.bool (indB o s i)) ∧ Drawn0 w w' := by
  have c0 : w.cell? ⟨g1, 0, none⟩ = some (.int .i64 s) := by rw [hs.cell 0]; rfl
  have c1 := ht.cellS i (by rw [ok.len]; omega)
  rw [Nat.add_comm] at c1
  have e1 := b_bit0 s i hs62
  have e2 := b_and0 (o.getD i 0) s (ok.lt62 i) hs62
  have er : indB o s i = (!s.testBit i || (o.getD i 0 &&& s == 0)) := rfl
  generalize o.getD i 0 = oi at *
  clear hs ht ok
  have i0 : (0 : Int) ≤ i := by omega
  have i1 : (i : Int) < 12 := by omega
  cases c : s.testBit i
  · have hr : indB o s i = true := by simp [er, c]
    have Hr := Aside0.mk hr; clear hr er
    have cb : (Go.bits .and .i64 ((s : Int) / 2 ^ i) 1 == 0) = true := by rw [e1, c]; rfl
    clear e1 e2 c
    go_enter Try.func86, Try.ntmps86
    go_wp2
    go_quiet (fail)
    go_wp2
    go_ret
    exact ⟨by rw [Hr.out]; rfl, ⟨_, rfl⟩⟩
  · have hr : indB o s i = (bits .and .i64 oi s == 0) := by rw [er, c, e2]; rfl
    have Hr := Aside0.mk hr; clear hr er
    have cb : (Go.bits .and .i64 ((s : Int) / 2 ^ i) 1 == 0) = false := by rw [e1, c]; rfl
    clear e1 e2 c
    go_enter Try.func86, Try.ntmps86
    go_wp2
    go_quiet (fail)
    go_wp2
    go_ret
    exact ⟨by rw [Hr.out]; rfl, ⟨_, rfl⟩⟩
def absB (o : List Nat) (s p i : Nat) : Bool := !(p.testBit i && !s.testBit i) || (o.getD i 0 &&& s != 0)
set_option maxHeartbeats 800000 in
theorem absb1_any (n : Nat) (o : List Nat) (s p i : Nat) (g0 g1 g2 : Nat) (w : World) (h1 : i < 12) (ok : Okt n o) (hs62 : s < 2 ^ 62) (hp62 : p < 2 ^ 62)
    (hp : Blk w g0 3 #[.int .i64 p]) (hs : Blk w g1 3 #[.int .i64 s]) (ht : TnN w g2 n o) :
    Calls Try.prog 87 #[.int .i64 i, .pointer (some ⟨g0, 0, none⟩), .pointer (some ⟨g1, 0, none⟩), .pointer (some ⟨g2, 0, none⟩)] w fun e w' => e = .returned (.bool (absB o s p i)) ∧ Drawn0 w w' := by
  have cp : w.cell? ⟨g0, 0, none⟩ = some (.int .i64 p) := by rw [hp.cell 0]; rfl
  have c0 : w.cell? ⟨g1, 0, none⟩ = some (.int .i64 s) := by rw [hs.cell 0]; rfl
  have c1 := ht.cellS i (by rw [ok.len]; omega)
  rw [Nat.add_comm] at c1
  have e1 := b_bit0 (andN p s) i (andN_lt p s 62 hp62)
  rw [← b_andN p s hp62 hs62, andN_bit] at e1
  have e2 := b_and0 (o.getD i 0) s (ok.lt62 i) hs62
  have er : absB o s p i = (!(p.testBit i && !s.testBit i) || !(o.getD i 0 &&& s == 0)) := rfl
  generalize o.getD i 0 = oi at *
  clear hs ht ok hp
  have i0 : (0 : Int) ≤ i := by omega
  have i1 : (i : Int) < 12 := by omega
  generalize (p.testBit i && !s.testBit i) = c at *
  cases c
  · have hr : absB o s p i = true := by simp [er]
    have Hr := Aside0.mk hr; clear hr er
    have cb : (Go.bits .and .i64 ((Go.bits .andNot .i64 (p : Int) s) / 2 ^ i) 1 == 0) = true := by rw [e1]; rfl
    clear e1 e2
    go_enter Try.func87, Try.ntmps87
    go_wp2
    go_quiet (fail)
    go_wp2
    go_ret
    exact ⟨by rw [Hr.out]; rfl, ⟨_, rfl⟩⟩
  · have hr : absB o s p i = (bits .and .i64 oi s != 0) := by rw [er, ← e2]; rfl
    have Hr := Aside0.mk hr; clear hr er
    have cb : (Go.bits .and .i64 ((Go.bits .andNot .i64 (p : Int) s) / 2 ^ i) 1 == 0) = false := by rw [e1]; rfl
    clear e1 e2
    go_enter Try.func87, Try.ntmps87
    go_wp2
    go_quiet (fail)
    go_wp2
    go_ret
    exact ⟨by rw [Hr.out]; rfl, ⟨_, rfl⟩⟩
/-- A value that is a test of each person. -/
structure TestC (w : World) (n : Nat) (f : FuncId) (cap : Array Value) (p : Nat → Bool) : Prop where
  enter : ∀ (args : Array Value) (w : World), (callFunc f args).run Try.prog w = .ok (.enter f args) w
  calls : ∀ i, i < n → ∀ w', Below w.heap.size w w' → Calls Try.prog f (#[.int .i64 (i : Nat)] ++ cap) w' (fun e w'' => e = .returned (.bool (p i)) ∧ Drawn0 w' w'')
theorem TestC.later {w w1 : World} {n : Nat} {f : FuncId} {cap : Array Value} {p : Nat → Bool} (h : TestC w n f cap p) (hb : Below w.heap.size w w1) : TestC w1 n f cap p :=
  ⟨h.enter, fun i hi w' hw => h.calls i hi w' (below_then hb hb.size hw)⟩
theorem cf86 (args : Array Value) (w : World) : (callFunc 86 args).run Try.prog w = .ok (.enter 86 args) w := by kernel_rfl
theorem cf87 (args : Array Value) (w : World) : (callFunc 87 args).run Try.prog w = .ok (.enter 87 args) w := by kernel_rfl
def IndepPost (n : Nat) (o : List Nat) (s : Nat) (w : World) (e : Ending) (w' : World) : Prop :=
  ∃ cap, e = .returned (.func (.func 86) #[] cap) ∧ TestC w' n 86 cap (indB o s) ∧ Below w.heap.size w w'
set_option maxHeartbeats 800000 in
theorem indep_any (n : Nat) (o : List Nat) (s : Nat) (w : World) (ok : Okt n o) (hs62 : s < 2 ^ 62) :
    Calls Try.prog 61 #[.agg (tnN n o), .int .i64 s] w (IndepPost n o s w) := by
  have hmf : ∀ (fn : Fn) (first cap : Array Value) (w : World), (Instr.makeFunc fn first cap).run Try.prog w = .ok (.func fn first cap) w := fun _ _ _ _ => rfl
  have k : ∀ w', Below w.heap.size w w' → True := fun _ _ => trivial
  have hfin : ∀ (g1 g2 : Nat) (w1 : World), Blk w1 g1 3 #[.int .i64 s] → TnN w1 g2 n o → TestC w1 n 86 #[.pointer (some ⟨g1, 0, none⟩), .pointer (some ⟨g2, 0, none⟩)] (indB o s) :=
    fun g1 g2 w1 hb ht => ⟨cf86, fun i hi w' hw => indep1_any n o s i g1 g2 w' (by have := ok.n12; omega) ok hs62 (hb.later hw) (Blk.later ht hw)⟩
  have Hf := Aside0.mk hfin
  clear hfin k
  unfold tnN
  go_enter Try.func61, Try.ntmps61
  go_wp2
  go_ret
  refine ⟨_, rfl, Hf.out (w.heap.size + 1) w.heap.size _ ?_ ?_, below_alloc (below_alloc (Below.refl _ _) _) _⟩
  · have := Blk.new (w.alloc (.cells (tnA n (ints o)) 50)) 3 #[.int .i64 s]
    simpa using this
  · exact (Blk.new w 50 (tnA n (ints o))).alloc _
def AbsbPost (n : Nat) (o : List Nat) (s p : Nat) (w : World) (e : Ending) (w' : World) : Prop :=
  ∃ cap, e = .returned (.func (.func 87) #[] cap) ∧ TestC w' n 87 cap (absB o s p) ∧ Below w.heap.size w w'
set_option maxHeartbeats 800000 in
theorem absb_any (n : Nat) (o : List Nat) (s p : Nat) (w : World) (ok : Okt n o) (hs62 : s < 2 ^ 62) (hp62 : p < 2 ^ 62) :
    Calls Try.prog 62 #[.agg (tnN n o), .int .i64 s, .int .i64 p] w (AbsbPost n o s p w) := by
  have hmf : ∀ (fn : Fn) (first cap : Array Value) (w : World), (Instr.makeFunc fn first cap).run Try.prog w = .ok (.func fn first cap) w := fun _ _ _ _ => rfl
  have hfin : ∀ (g0 g1 g2 : Nat) (w1 : World), Blk w1 g0 3 #[.int .i64 p] → Blk w1 g1 3 #[.int .i64 s] → TnN w1 g2 n o → TestC w1 n 87 #[.pointer (some ⟨g0, 0, none⟩), .pointer (some ⟨g1, 0, none⟩), .pointer (some ⟨g2, 0, none⟩)] (absB o s p) :=
    fun g0 g1 g2 w1 ha hb ht => ⟨cf87, fun i hi w' hw => absb1_any n o s p i g0 g1 g2 w' (by have := ok.n12; omega) ok hs62 hp62 (ha.later hw) (hb.later hw) (Blk.later ht hw)⟩
  have Hf := Aside0.mk hfin
  clear hfin
  unfold tnN
  go_enter Try.func62, Try.ntmps62
  go_wp2
  go_ret
  refine ⟨_, rfl, Hf.out (w.heap.size + 1 + 1) (w.heap.size + 1) w.heap.size _ ?_ ?_ ?_, below_alloc (below_alloc (below_alloc (Below.refl _ _) _) _) _⟩
  · have := Blk.new ((w.alloc (.cells (tnA n (ints o)) 50)).alloc (.cells #[.int .i64 s] 3)) 3 #[.int .i64 p]
    simpa using this
  · have := (Blk.new (w.alloc (.cells (tnA n (ints o)) 50)) 3 #[.int .i64 s]).alloc (.cells #[.int .i64 p] 3)
    simpa using this
  · exact ((Blk.new w 50 (tnA n (ints o))).alloc _).alloc _
end Go.Proofs.Ytmobefgnkiboaaa.Im
namespace Go.Proofs.Ytmobefgnkiboaaa.Im
open Go.RowKit Go.Proofs.YtmobefgnkiboaaaW.PrintWords Go.Proofs.YtmobefgnkiboaaaW.PrintLast Go.Proofs.YtmobefgnkiboaaaW.PrintMore
set_option linter.unusedVariables false
attribute [local go_sem] tnA_zero
def AllB (n : Nat) (p q : Nat → Bool) : Bool := (List.range n).all fun i => p i && q i
def Upto (k : Nat) (p q : Nat → Bool) : Prop := ∀ j, j < k → (p j && q j) = true
theorem Upto.succ {k : Nat} {p q : Nat → Bool} (h : Upto k p q) (h1 : p k = true) (h2 : q k = true) : Upto (k + 1) p q := fun j hj => by
  rcases Nat.lt_or_ge j k with hlt | hge
  · exact h j hlt
  · obtain rfl : j = k := by omega
    rw [h1, h2]; rfl
theorem AllB_true {n : Nat} {p q : Nat → Bool} (h : Upto n p q) : AllB n p q = true := by
  unfold AllB
  rw [List.all_eq_true]
  exact fun x hx => h x (List.mem_range.1 hx)
theorem AllB_false {n k : Nat} {p q : Nat → Bool} (hk : k < n) (h : (p k && q k) = false) : AllB n p q = false := by
  unfold AllB
  rw [List.all_eq_false]
  exact ⟨k, List.mem_range.2 hk, by rw [h]; simp⟩
set_option maxHeartbeats 1600000 in
set_option maxRecDepth 100000 in
theorem all_any (n : Nat) (o : List Nat) (f0 f1 : FuncId) (d0 d1 : Array Value) (p q : Nat → Bool) (b : Nat) (w : World) (ok : Okt n o)
    (hb0 : w.cell? ⟨b, 0, none⟩ = some (.func (.func f0) #[] d0)) (hb1 : w.cell? ⟨b, 1, none⟩ = some (.func (.func f1) #[] d1))
    (T0 : TestC w n f0 d0 p) (T1 : TestC w n f1 d1 q) :
    Calls Try.prog 60 #[.agg (tnN n o), .slice (some ⟨b, 0, none⟩) 2 2] w fun e w' => e = .returned (.bool (AllB n p q)) ∧ Below w.heap.size w w' := by
  have hlt := World.block_lt_of_cell? w _ hb0
  have n12 := ok.n12
  clear ok
  unfold tnN
  have H0 := Aside0.mk hb0
  have H1 := Aside0.mk hb1
  clear hb0 hb1
  go_enter Try.func60, Try.ntmps60
  go_wp2_with fail
  go_loopw [10] (fun v wr => ∃ k : Nat, k ≤ n ∧ v = .int .i64 (k : Int) ∧ Aside0 (Upto k p q) ∧ Aside0 (Below w.heap.size w wr)) (fun v _ => n - (intOf v).toNat)
  case atStart => exact ⟨0, Nat.zero_le _, rfl, ⟨fun j hj => absurd hj (by omega)⟩, ⟨below_alloc (Below.refl _ _) _⟩⟩
  case round =>
    obtain ⟨k, hk, rfl, HU, HB⟩ := hrel
    by_cases hkn : k < n
    · have r0 := (HB.out.cell (p := ⟨b, 0, none⟩) hlt).trans H0.out
      have r1 := (HB.out.cell (p := ⟨b, 1, none⟩) hlt).trans H1.out
      have E0 := T0.enter
      have E1 := T1.enter
      have C0 := T0.calls k hkn
      have C1 := T1.calls k hkn
      have HC0 := Aside0.mk C0
      have HC1 := Aside0.mk C1
      clear C0 C1 T0 T1
      cases hp : p k
      · have HF := Aside0.mk (AllB_false (p := p) (q := q) hkn (by rw [hp]; rfl))
        rw [hp] at HC0
        clear hp
        go_wp2_with fail
        refine wp_loop_rounds 3 ?_
        rw [rounds_succ]
        go_wp2_with fail
        refine (HC0.out _ HB.out).mono ?_
        rintro e w1 ⟨rfl, hd⟩
        go_wp2_with fail
        go_ret
        exact ⟨by rw [HF.out]; rfl, below_then HB.out HB.out.size hd.below⟩
      · cases hq : q k
        · have HF := Aside0.mk (AllB_false (p := p) (q := q) hkn (by rw [hp, hq]; rfl))
          rw [hp] at HC0
          rw [hq] at HC1
          clear hp hq
          go_wp2_with fail
          refine wp_loop_rounds 3 ?_
          rw [rounds_succ]
          go_wp2_with fail
          refine (HC0.out _ HB.out).mono ?_
          rintro e w1 ⟨rfl, ⟨n1, rfl⟩⟩
          go_wp2_with fail
          rw [rounds_succ]
          go_wp2_with fail
          refine (HC1.out _ (pw_below_drewN HB.out _)).mono ?_
          rintro e w2 ⟨rfl, hd⟩
          go_wp2_with fail
          go_ret
          exact ⟨by rw [HF.out]; rfl, below_then (pw_below_drewN HB.out _) HB.out.size hd.below⟩
        · have HU' := Aside0.mk (HU.out.succ hp hq)
          rw [hp] at HC0
          rw [hq] at HC1
          clear hp hq
          go_wp2_with fail
          refine wp_loop_rounds 3 ?_
          rw [rounds_succ]
          go_wp2_with fail
          refine (HC0.out _ HB.out).mono ?_
          rintro e w1 ⟨rfl, ⟨n1, rfl⟩⟩
          go_wp2_with fail
          rw [rounds_succ]
          go_wp2_with fail
          refine (HC1.out _ (pw_below_drewN HB.out _)).mono ?_
          rintro e w2 ⟨rfl, ⟨n2, rfl⟩⟩
          go_wp2_with fail
          rw [rounds_succ]
          go_wp2_with fail
          go_roundw
          case rel => exact ⟨k + 1, by omega, by go_num, HU', ⟨pw_below_drewN HB.out _⟩⟩
          case measure => simp [intOf]; omega
    · obtain rfl : k = n := by omega
      have HF := Aside0.mk (AllB_true HU.out)
      go_wp2_with fail
      go_ret
      exact ⟨by rw [HF.out]; rfl, HB.out⟩
end Go.Proofs.Ytmobefgnkiboaaa.Im
namespace Go.Proofs.Ytmobefgnkiboaaa.Im
open Go.RowKit Go.Proofs.YtmobefgnkiboaaaW.PrintWords Go.Proofs.YtmobefgnkiboaaaW.PrintLast Go.Proofs.YtmobefgnkiboaaaW.PrintMore
set_option linter.unusedVariables false
set_option maxHeartbeats 1600000 in
set_option maxRecDepth 100000 in
theorem kernel_any (n : Nat) (o : List Nat) (s p : Nat) (w : World) (ok : Okt n o) (hs62 : s < 2 ^ 62) (hp62 : p < 2 ^ 62) :
    Calls Try.prog 56 #[.agg (tnN n o), .int .i64 s, .int .i64 p] w fun e w' => e = .returned (.bool (AllB n (indB o s) (absB o s p))) ∧ Below w.heap.size w w' := by
  have hnew : TnN (w.alloc (.cells (tnN n o) 50)).drew w.heap.size n o := Blk.new _ _ _
  have hb0 : Below w.heap.size w (w.alloc (.cells (tnN n o) 50)).drew := below_drew (below_alloc (Below.refl _ _) _)
  go_enter Try.func56, Try.ntmps56
  go_wp2
  refine wp_region_held (S := fun wx => TnN wx w.heap.size n o ∧ Below w.heap.size w wx) (by kernel_rfl) ?_
  refine wpAnyH_take (i := 0) (v := .agg (tnN n o)) rfl (by kernel_rfl) (by kernel_rfl) (by kernel_rfl) (fun _ _ _ h => h) (yi_at rfl fun wx h => ex_load_tn rfl wx w.heap.size n o rfl h.1 ok.len) ⟨hnew, hb0⟩ ?_
  refine wpAnyH_take (i := 1) (v := .agg (tnN n o)) rfl (by kernel_rfl) (by kernel_rfl) (by kernel_rfl) (fun _ _ _ h => h) (yi_at rfl fun wx h => ex_load_tn rfl wx w.heap.size n o rfl h.1 ok.len) ⟨hnew, hb0⟩ ?_
  refine wpAnyH_take (i := 2) (v := .int .i64 s) rfl (by kernel_rfl) (by kernel_rfl) (by kernel_rfl) (fun _ _ _ h => h) (yi_any rfl fun wx => rfl) ⟨hnew, hb0⟩ ?_
  refine wpAnyH_take (i := 4) (v := .agg (tnN n o)) rfl (by kernel_rfl) (by kernel_rfl) (by kernel_rfl) (fun _ _ _ h => h) (yi_at rfl fun wx h => ex_load_tn rfl wx w.heap.size n o rfl h.1 ok.len) ⟨hnew, hb0⟩ ?_
  refine wpAnyH_take (i := 5) (v := .int .i64 s) rfl (by kernel_rfl) (by kernel_rfl) (by kernel_rfl) (fun _ _ _ h => h) (yi_any rfl fun wx => rfl) ⟨hnew, hb0⟩ ?_
  refine wpAnyH_take (i := 6) (v := .int .i64 p) rfl (by kernel_rfl) (by kernel_rfl) (by kernel_rfl) (fun _ _ _ h => h) (yi_any rfl fun wx => rfl) ⟨hnew, hb0⟩ ?_
  refine ro_one (i := 3) (by kernel_rfl) (ro_call (f := 61) (args := #[.agg (tnN n o), .int .i64 s]) rfl rfl (by kernel_rfl) ?_)
  refine (indep_any n o s _ ok hs62).mono ?_
  rintro e w1 ⟨cap1, rfl, T1, hb1⟩
  refine ⟨_, rfl, ⟨Blk.later hnew hb1, below_then hb0 hb0.size hb1⟩, ?_⟩
  refine ro_one (i := 7) (by kernel_rfl) (ro_call (f := 62) (args := #[.agg (tnN n o), .int .i64 s, .int .i64 p]) rfl rfl (by kernel_rfl) ?_)
  refine (absb_any n o s p _ ok hs62 hp62).mono ?_
  rintro e w2 ⟨cap2, rfl, T2, hb2⟩
  have hb12 := below_then hb0 hb0.size hb1
  have hb02 := below_then hb12 hb12.size hb2
  refine ⟨_, rfl, ⟨Blk.later (Blk.later hnew hb1) hb2, hb02⟩, ?_⟩
  refine ro_one (i := 8) (by kernel_rfl) (ro_val (v := .slice (some ⟨w2.heap.size, 0, none⟩) 2 2) (w' := w2.alloc (.cells #[.func (.func 86) #[] cap1, .func (.func 87) #[] cap2] 62)) rfl rfl (by kernel_rfl) ?_)
  have hb3 : Below w2.heap.size w2 (w2.alloc (.cells #[.func (.func 86) #[] cap1, .func (.func 87) #[] cap2] 62)) := below_alloc (Below.refl _ _) _
  have hB := Blk.new w2 62 #[.func (.func 86) #[] cap1, .func (.func 87) #[] cap2]
  have hb03 := below_then hb02 hb02.size hb3
  refine ⟨⟨Blk.later (Blk.later (Blk.later hnew hb1) hb2) hb3, hb03⟩, ?_⟩
  refine ro_one (i := 9) (by kernel_rfl) (ro_call (f := 60) (args := #[.agg (tnN n o), .slice (some ⟨w2.heap.size, 0, none⟩) 2 2]) rfl rfl (by kernel_rfl) ?_)
  refine (all_any n o 86 87 cap1 cap2 _ _ _ _ ok (by rw [hB.cell]; rfl) (by rw [hB.cell]; rfl) ((T1.later hb2).later hb3) (T2.later hb3)).mono ?_
  rintro e w4 ⟨rfl, hb4⟩
  refine ⟨_, rfl, ⟨Blk.later (Blk.later (Blk.later (Blk.later hnew hb1) hb2) hb3) hb4, below_then hb03 hb03.size hb4⟩, ?_⟩
  refine ro_one (i := 10) (by kernel_rfl) (ro_val (v := .bool (AllB n (indB o s) (absB o s p))) (w' := w4) rfl rfl (by kernel_rfl) ?_)
  refine ⟨⟨Blk.later (Blk.later (Blk.later (Blk.later hnew hb1) hb2) hb3) hb4, below_then hb03 hb03.size hb4⟩, ?_⟩
  refine wpAnyH_done (by kernel_rfl) ?_ _
  go_wp2
  go_ret
  exact ⟨rfl, below_then hb03 hb03.size hb4⟩
end Go.Proofs.Ytmobefgnkiboaaa.Im
namespace Go.Proofs.Ytmobefgnkiboaaa.Im
open Go.RowKit Go.Proofs.YtmobefgnkiboaaaW.PrintWords Go.Proofs.YtmobefgnkiboaaaW.PrintLast Go.Proofs.YtmobefgnkiboaaaW.PrintMore
set_option linter.unusedVariables false
/-- The three boxes of 'each'. -/
structure EachB (w : World) (row : Option Nat) (gp gv go p : Nat) (f : FuncId) (cap : Array Value) : Prop where
  bp : Blk w gp 3 #[.int .i64 (p : Nat)]
  bv : Blk w gv 62 #[.func (.func f) #[] cap]
  bo : Blk w go 60 #[.func (.func 90) #[] #[.pointer (some ⟨gv, 0, none⟩), .pointer (some ⟨gp, 0, none⟩), .pointer (some ⟨go, 0, none⟩)]]
  np : some gp ≠ row
  nv : some gv ≠ row
  no : some go ≠ row
theorem EachB.gb {w w' : World} {row : Option Nat} {gp gv go p : Nat} {f : FuncId} {cap : Array Value} (h : EachB w row gp gv go p f cap) (hg : w.grownBy w' row) : EachB w' row gp gv go p f cap :=
  ⟨h.bp.gb hg h.np, h.bv.gb hg h.nv, h.bo.gb hg h.no, h.np, h.nv, h.no⟩
def EachPost {σ : Type} (I : σ → World → Prop) (row : Option Nat) (w : World) (r : Bool × σ) (e : Ending) (w' : World) : Prop :=
  e = .returned (.bool r.1) ∧ I r.2 w' ∧ w.grownBy w' row
set_option maxHeartbeats 3200000 in
set_option maxRecDepth 100000 in
theorem each1_any {σ : Type} {I : σ → World → Prop} {row : Option Nat} {f : FuncId} {cap : Array Value} {vis : σ → Nat → Bool × σ} (V : Visit I row f cap vis) (p gp gv go : Nat) (hp : p < 4096) (k : Nat) :
    ∀ (i s : Nat) (st : σ) (w : World), 12 - i < k → i ≤ 12 → s < 4096 → I st w → EachB w row gp gv go p f cap →
    Calls Try.prog 90 #[.int .i64 s, .int .i64 i, .pointer (some ⟨gv, 0, none⟩), .pointer (some ⟨gp, 0, none⟩), .pointer (some ⟨go, 0, none⟩)] w
      (EachPost I row w (onL vis (mem12 p i) s st)) := by
  induction k with
  | zero => intro i s st w h; omega
  | succ k ih =>
    intro i s st w hk hi hs hI hE
    have HI := Aside0.mk hI
    have HE := Aside0.mk hE
    have IH := Aside0.mk ih
    have hcv : w.cell? ⟨gv, 0, none⟩ = some (.func (.func f) #[] cap) := by rw [hE.bv.cell]; rfl
    have E0 := V.enter
    have C0 := Aside0.mk (V.calls st s w hs hI)
    have KP := Aside0.mk V.keep
    clear hI hE ih V
    obtain ⟨b1, st1, hr⟩ : ∃ b1 st1, vis st s = (b1, st1) := ⟨_, _, rfl⟩
    rw [hr] at C0
    have hon : onL vis (mem12 p i) s st = if b1 then (true, st1) else lpL vis (mem12 p i) s st1 := by simp [onL, hr]
    rw [hon]
    clear hr hon
    cases b1
    · rw [if_neg (by simp)]
      go_enter Try.func90, Try.ntmps90
      go_wp2_with fail
      refine C0.out.mono ?_
      rintro e w1 ⟨rfl, hI1, hg1⟩
      have HI1 := Aside0.mk hI1
      have HE1 := Aside0.mk (HE.out.gb hg1)
      have HG1 := Aside0.mk hg1
      clear hI1 hg1 hcv
      go_wp2_with fail
      go_loopw [8] (fun v wr => ∃ j : Nat, j ≤ 12 ∧ v = .int .i64 (j : Int) ∧ Aside0 (∃ st', lpL vis (mem12 p i) s st1 = lpL vis (mem12 p j) s st' ∧ I st' wr) ∧ Aside0 (w.grownBy wr row) ∧ Aside0 (i ≤ j) ∧ Aside0 (EachB wr row gp gv go p f cap)) (fun v _ => 12 - (intOf v).toNat)
      case atStart => exact ⟨i, hi, rfl, ⟨st1, rfl, HI1.out⟩, HG1, ⟨Nat.le_refl _⟩, HE1⟩
      case round =>
        clear HE1 HI1 HG1
        obtain ⟨j, hj, rfl, HL, HG, HJ, HE⟩ := hrel
        have cp : wr.cell? ⟨gp, 0, none⟩ = some (.int .i64 (p : Nat)) := by rw [HE.out.bp.cell]; rfl
        have co : wr.cell? ⟨go, 0, none⟩ = some (.func (.func 90) #[] #[.pointer (some ⟨gv, 0, none⟩), .pointer (some ⟨gp, 0, none⟩), .pointer (some ⟨go, 0, none⟩)]) := by rw [HE.out.bo.cell]; rfl
        have j0 : (0 : Int) ≤ j := by omega
        by_cases hz : p >>> j = 0
        · have c1 : ¬ (0 < (p : Int) / 2 ^ j) := by rw [shr_nat, hz]; simp
          obtain ⟨st', hl, hI'⟩ := HL.out
          rw [mem12_none p j hz] at hl
          have HF := Aside0.mk hl
          have HI' := Aside0.mk hI'
          clear hl hI' HL hz
          go_wp2_with fail
          go_ret
          refine ⟨by rw [HF.out]; rfl, by rw [HF.out]; exact HI'.out, HG.out⟩
        · have c1 : 0 < (p : Int) / 2 ^ j := by rw [shr_nat]; exact_mod_cast Nat.pos_of_ne_zero hz
          have hj12 : j < 12 := shr12 p j hp hz
          have hst := mem12_step p j hj12
          have e1 := b_bit1 p j (by omega)
          clear hz
          cases hb : p.testBit j
          · rw [hb, if_neg (by simp)] at hst
            rw [hb] at e1
            have HS := Aside0.mk hst
            clear hst hb
            go_wp2_with fail
            go_quiet (fail)
            go_wp2_with fail
            go_roundw
            case rel =>
              obtain ⟨st', hl, hI'⟩ := HL.out
              exact ⟨j + 1, by omega, by go_num, ⟨st', by rw [hl, HS.out], KP.out _ _ _ hI' (gb_drewN _ _ _)⟩, ⟨gb_trans HG.out (gb_drewN _ _ _)⟩, ⟨by have := HJ.out; omega⟩, ⟨HE.out.gb (gb_drewN _ _ _)⟩⟩
            case measure => simp [intOf]; omega
          · rw [hb, if_pos rfl] at hst
            rw [hb] at e1
            have HS := Aside0.mk hst
            clear hst hb
            obtain ⟨st', hl, hI'⟩ := HL.out
            clear HL
            obtain ⟨b2, st2, hr2⟩ : ∃ b2 st2, onL vis (mem12 p (j + 1)) (s ||| 2 ^ j) st' = (b2, st2) := ⟨_, _, rfl⟩
            have C1 := IH.out (j + 1) (s ||| 2 ^ j) st' wr.drew (by have := HJ.out; omega) (by omega) (or_lt12 s j hs hj12) (KP.out _ _ _ hI' (gb_drew _ _)) (HE.out.gb (gb_drew _ _))
            rw [hr2] at C1
            have ea : ((s ||| 2 ^ j : Nat) : Int) = bits .or .i64 (s : Int) (IntKind.i64.wrap (2 ^ j)) := by
              have h2 : 2 ^ j < 2 ^ 62 := Nat.pow_lt_pow_right (by decide) (by omega)
              rw [← b_or s (2 ^ j) (by omega) h2, two_pow_nat, wr62 _ (Int.natCast_nonneg _) (by exact_mod_cast h2)]
            have eb : ((j + 1 : Nat) : Int) = IntKind.i64.wrap ((j : Int) + 1) := by rw [wr62 _ (by omega) (by omega)]; omega
            rw [ea, eb] at C1
            have HC1 := Aside0.mk C1
            rw [HS.out, lpL_cons, hr2] at hl
            clear C1 ea eb hr2 hI' HS
            cases b2
            · rw [if_neg (by simp)] at hl
              have HF := Aside0.mk hl
              clear hl
              go_wp2_with fail
              go_region_held3 (fun w' => w'.cell? ⟨gp, 0, none⟩ = some (.int .i64 (p : Nat)) ∧ w'.cell? ⟨go, 0, none⟩ = some (.func (.func 90) #[] #[.pointer (some ⟨gv, 0, none⟩), .pointer (some ⟨gp, 0, none⟩), .pointer (some ⟨go, 0, none⟩)])) (first | go_keep)
                (first | (go_at_call 90; refine HC1.out.mono ?_; rintro e w2 ⟨rfl, hI2, hg2⟩; have HI2 := Aside0.mk hI2; have HG2 := Aside0.mk (gb_trans HG.out (gb_trans (gb_drew _ _) hg2)); have HE2 := Aside0.mk ((HE.out.gb (gb_drew _ _)).gb hg2); clear hI2 hg2; have cp2 : w2.cell? ⟨gp, 0, none⟩ = some (.int .i64 (p : Nat)) := HE2.out.bp.cell 0; have co2 : w2.cell? ⟨go, 0, none⟩ = some (.func (.func 90) #[] #[.pointer (some ⟨gv, 0, none⟩), .pointer (some ⟨gp, 0, none⟩), .pointer (some ⟨go, 0, none⟩)]) := HE2.out.bo.cell 0))
              go_wp2_with fail
              go_roundw
              case rel => exact ⟨j + 1, by omega, by go_num, ⟨st2, HF.out, HI2.out⟩, HG2, ⟨by have := HJ.out; omega⟩, HE2⟩
              case measure => simp [intOf]; omega
            · rw [if_pos rfl] at hl
              have HF := Aside0.mk hl
              clear hl
              go_wp2_with fail
              go_region_held3 (fun w' => w'.cell? ⟨gp, 0, none⟩ = some (.int .i64 (p : Nat)) ∧ w'.cell? ⟨go, 0, none⟩ = some (.func (.func 90) #[] #[.pointer (some ⟨gv, 0, none⟩), .pointer (some ⟨gp, 0, none⟩), .pointer (some ⟨go, 0, none⟩)])) (first | go_keep)
                (first | (go_at_call 90; refine HC1.out.mono ?_; rintro e w2 ⟨rfl, hI2, hg2⟩; have HI2 := Aside0.mk hI2; have HG2 := Aside0.mk (gb_trans HG.out (gb_trans (gb_drew _ _) hg2)); have HE2 := Aside0.mk ((HE.out.gb (gb_drew _ _)).gb hg2); clear hI2 hg2; have cp2 : w2.cell? ⟨gp, 0, none⟩ = some (.int .i64 (p : Nat)) := HE2.out.bp.cell 0; have co2 : w2.cell? ⟨go, 0, none⟩ = some (.func (.func 90) #[] #[.pointer (some ⟨gv, 0, none⟩), .pointer (some ⟨gp, 0, none⟩), .pointer (some ⟨go, 0, none⟩)]) := HE2.out.bo.cell 0))
              go_wp2_with fail
              go_ret
              exact ⟨by rw [HF.out]; rfl, by rw [HF.out]; exact HI2.out, HG2.out⟩
    · rw [if_pos rfl]
      go_enter Try.func90, Try.ntmps90
      go_wp2_with fail
      refine C0.out.mono ?_
      rintro e w1 ⟨rfl, hI1, hg1⟩
      have HI1 := Aside0.mk hI1
      have HG1 := Aside0.mk hg1
      clear hI1 hg1 hcv
      go_wp2_with fail
      go_ret
      exact ⟨rfl, HI1.out, HG1.out⟩
set_option maxHeartbeats 1600000 in
theorem each_any {σ : Type} {I : σ → World → Prop} {row : Option Nat} {f : FuncId} {cap : Array Value} {vis : σ → Nat → Bool × σ} (V : Visit I row f cap vis) (p : Nat) (hp : p < 4096)
    (st : σ) (w : World) (hI : I st w) (hrow : ∀ g, row = some g → g < w.heap.size) :
    Calls Try.prog 73 #[.int .i64 p, .func (.func f) #[] cap] w (EachPost I row w (onL vis (mem12 p 0) 0 st)) := by
  have hmf : ∀ (fn : Fn) (first cap : Array Value) (w : World), (Instr.makeFunc fn first cap).run Try.prog w = .ok (.func fn first cap) w := fun _ _ _ _ => rfl
  have hsf := fun (a : Addr) (c : Array Value) (w : World) => run_store Try.prog w a (.func (.func 90) #[] c) .plain rfl
  have hp1 : Below w.heap.size w (((w.alloc (Obj.cells #[Value.int IntKind.i64 (p : Nat)] 3)).alloc (Obj.cells #[Value.func (Fn.func f) #[] cap] 62)).alloc (Obj.cells #[Value.func (Fn.func 90) #[] #[Value.pointer (some { block := w.heap.size + 1, off := 0 }), Value.pointer (some { block := w.heap.size, off := 0 }), Value.pointer (some { block := w.heap.size + 1 + 1, off := 0 })]] 60)) :=
    below_alloc (below_alloc (below_alloc (Below.refl _ _) _) _) _
  have HP := Aside0.mk hp1
  have C := each1_any V p w.heap.size (w.heap.size + 1) (w.heap.size + 1 + 1) hp 13 0 0 st _ (by omega) (by omega) (by decide) (V.keep _ _ _ hI (gb_below hp1))
    ⟨((Blk.new w 3 #[.int .i64 (p : Nat)]).alloc _).alloc _, (Blk.new' (by simp)).alloc _, Blk.new' (by simp), fun h => by have := hrow _ h.symm; omega, fun h => by have := hrow _ h.symm; omega, fun h => by have := hrow _ h.symm; omega⟩
  have HC := Aside0.mk C
  clear hp1 C hrow hI V
  generalize onL vis (mem12 p 0) 0 st = r at *
  go_enter Try.func73, Try.ntmps73
  go_wp2_with fail
  refine HC.out.mono ?_
  rintro e w1 ⟨rfl, hI1, hg1⟩
  have HI1 := Aside0.mk hI1
  have HG1 := Aside0.mk (gb_trans (gb_below HP.out) hg1)
  clear hI1 hg1
  go_wp2_with fail
  go_ret
  exact ⟨rfl, HI1.out, HG1.out⟩
end Go.Proofs.Ytmobefgnkiboaaa.Im

namespace Go.Proofs.Ytmobefgnkiboaaa.Im
open Go.RowKit Go.Proofs.YtmobefgnkiboaaaW.PrintWords Go.Proofs.YtmobefgnkiboaaaW.PrintLast Go.Proofs.YtmobefgnkiboaaaW.PrintMore
set_option linter.unusedVariables false
def arcOk (n : Int) (p : S43) : Bool := decide (0 ≤ p.f0) && decide (p.f0 < n) && decide (0 ≤ p.f1) && decide (p.f1 < n)
def addArc (o : List Nat) (p : S43) : List Nat := o.set p.f0.toNat (o.getD p.f0.toNat 0 ||| 2 ^ p.f1.toNat)
def zero12 : List Nat := [0, 0, 0, 0, 0, 0, 0, 0, 0, 0, 0, 0]
def townO (l : List S43) : List Nat := l.foldl addArc zero12
def ofE (n : Int) (l : List S43) : Int := if n < 1 ∨ 12 < n then 2 else if 80 < l.length then 3 else if l.all (arcOk n) then 0 else 2
def OfPost (n : Int) (l : List S43) (w : World) (e : Ending) (w' : World) : Prop :=
  e = .returned (.tuple #[.agg (if ofE n l = 0 then tnN n.toNat (townO l) else tnN 0 zero12), .int .i64 (ofE n l)]) ∧ Below w.heap.size w w'
theorem results45 (tmps : Array Value) (w : World) (g : Nat) (cs : Array Value) (hp : tmps.getD 4 undef = .pointer (some ⟨g, 0, none⟩)) (hb : Blk w g 50 cs) (hs : cs.size = 13) :
    (results Try.f45 tmps).run Try.prog w = .ok (.tuple #[.agg cs, tmps.getD 5 undef]) w := by
  have hp' : tmps[4]?.getD undef = .pointer (some ⟨g, 0, none⟩) := by simpa using hp
  simp [results, Try.results45, hp', asAddr, run_loadVar_row w g 50 50 cs (0, 0) _ hb Try.underlying50 rfl (by rw [info50, hs])]
theorem tn0_zero : tnN 0 zero12 = #[.int .i64 0, .int .i64 0, .int .i64 0, .int .i64 0, .int .i64 0, .int .i64 0, .int .i64 0, .int .i64 0, .int .i64 0, .int .i64 0, .int .i64 0, .int .i64 0, .int .i64 0] := rfl
theorem townO_snoc (l : List S43) (k : Nat) (h : k < l.length) : townO (l.take (k + 1)) = addArc (townO (l.take k)) (rd_T43 l k) := by
  rw [List.take_succ_eq_append_getElem h]
  unfold townO
  rw [List.foldl_append]
  simp [rd_T43, h]
def PreOk (n : Int) (l : List S43) (k : Nat) : Prop := ∀ j, j < k → arcOk n (rd_T43 l j) = true
theorem PreOk.succ {n : Int} {l : List S43} {k : Nat} (h : PreOk n l k) (h1 : arcOk n (rd_T43 l k) = true) : PreOk n l (k + 1) := fun j hj => by
  rcases Nat.lt_or_ge j k with hlt | hge
  · exact h j hlt
  · obtain rfl : j = k := by omega
    exact h1
theorem all_of_pre {n : Int} {l : List S43} (h : PreOk n l l.length) : l.all (arcOk n) = true := by
  rw [List.all_eq_true]
  intro x hx
  obtain ⟨i, hi, rfl⟩ := List.getElem_of_mem hx
  have := h i hi
  simpa [rd_T43, hi] using this
theorem not_all {n : Int} {l : List S43} {k : Nat} (hk : k < l.length) (h : arcOk n (rd_T43 l k) = false) : l.all (arcOk n) = false := by
  rw [List.all_eq_false]
  refine ⟨l[k], List.getElem_mem hk, ?_⟩
  simp [rd_T43, hk] at h
  simp [h]
theorem townO_len (l : List S43) : (townO l).length = 12 := by
  unfold townO
  suffices ∀ (l : List S43) (o : List Nat), o.length = 12 → (l.foldl addArc o).length = 12 from this l _ rfl
  intro l
  induction l with
  | nil => exact fun _ h => h
  | cons a l ih => intro o h; exact ih _ (by simp [addArc, h])
theorem rd_take (l : List S43) (k j : Nat) (h : j < k) : rd_T43 (l.take k) j = rd_T43 l j := by
  simp [rd_T43, h]
theorem foldl_lt (m : Nat) (l : List S43) : ∀ (o : List Nat), (∀ i, o.getD i 0 < 2 ^ m) → (∀ p ∈ l, arcOk m p = true) → ∀ i, (l.foldl addArc o).getD i 0 < 2 ^ m := by
  induction l with
  | nil => exact fun o h _ => h
  | cons a l ih =>
    intro o h hp
    refine ih _ (fun i => ?_) (fun p hp' => hp p (List.mem_cons_of_mem _ hp'))
    have ha := hp a List.mem_cons_self
    simp only [arcOk, Bool.and_eq_true, decide_eq_true_eq] at ha
    unfold addArc
    have h0 : o.getD a.f0.toNat 0 ||| 2 ^ a.f1.toNat < 2 ^ m := Nat.or_lt_two_pow (h _) (Nat.pow_lt_pow_right (by decide) (by omega))
    have hz : 0 < 2 ^ m := Nat.two_pow_pos m
    simp only [List.getD_eq_getElem?_getD, List.getElem?_set]
    split
    · split
      · simpa [List.getD_eq_getElem?_getD] using h0
      · simpa using hz
    · simpa [List.getD_eq_getElem?_getD] using h i
theorem zero12_lt (m : Nat) (i : Nat) : zero12.getD i 0 < 2 ^ m := by
  have : zero12.getD i 0 = 0 := by
    unfold zero12
    rcases i with _|_|_|_|_|_|_|_|_|_|_|_|i <;> simp
  rw [this]; exact Nat.two_pow_pos m
theorem townO_lt (m : Nat) (l : List S43) (h : l.all (arcOk m) = true) (i : Nat) : (townO l).getD i 0 < 2 ^ m :=
  foldl_lt m l zero12 (zero12_lt m) (fun p hp => List.all_eq_true.1 h p hp) i
theorem townO_lt62 (m : Nat) (l : List S43) (hm : m ≤ 12) (h : PreOk m l l.length) (i : Nat) : (townO l).getD i 0 < 2 ^ 62 :=
  lt62_of hm (townO_lt m l (all_of_pre h) i)
theorem townO_set (l : List S43) (q i0 i1 : Nat) (hq : q = (townO l).getD i0 0) (hlt : (townO l).getD i0 0 < 2 ^ 62) (h1 : i1 < 62) (m : Nat) :
    (tnN m (townO l)).setIfInBounds (1 + i0) (.int .i64 (bits .or .i64 (q : Int) (wrap64 (2 ^ i1)))) = tnN m (addArc (townO l) ⟨i0, i1⟩) := by
  rw [wr_pow i1 h1, b_or q (2 ^ i1) (by rw [hq]; exact hlt) (Nat.pow_lt_pow_right (by decide) h1), Nat.add_comm 1 i0]
  unfold tnN
  rw [tnA_set]
  simp only [addArc, Int.toNat_natCast, ← hq, ints, List.map_set]
set_option maxHeartbeats 3200000 in
set_option maxRecDepth 100000 in
theorem of_any (n : Int) (A : Option Addr) (c : Nat) (l : List S43) (w : World) (hr : Kd.C k43 w A l.length l) (hc : l.length ≤ c) :
    Calls Try.prog 45 #[.int .i64 n, .slice A l.length c] w (OfPost n l w) := by
  by_cases h1 : n < 1
  · have he : ofE n l = 2 := by simp [ofE, h1]
    have HE := Aside0.mk he
    clear he
    go_enter Try.func45, Try.ntmps45
    go_wp2
    exact bodyPost_ret (results45 _ _ w.heap.size _ rfl ((Blk.new _ _ _).alloc _) rfl) rfl ⟨by rw [HE.out]; rfl, below_alloc (below_alloc (Below.refl _ _) _) _⟩
  · by_cases h2 : 12 < n
    · have he : ofE n l = 2 := by simp [ofE, h2]
      have HE := Aside0.mk he
      clear he
      go_enter Try.func45, Try.ntmps45
      go_wp2
      exact bodyPost_ret (results45 _ _ w.heap.size _ rfl ((Blk.new _ _ _).alloc _) rfl) rfl ⟨by rw [HE.out]; rfl, below_alloc (below_alloc (Below.refl _ _) _) _⟩
    · by_cases h3 : 80 < l.length
      · have he : ofE n l = 3 := by simp [ofE, h1, h2, h3]
        have HE := Aside0.mk he
        have b3 : decide (80 < (l.length : Int)) = true := by simp; omega
        clear he
        go_enter Try.func45, Try.ntmps45
        go_wp2
        exact bodyPost_ret (results45 _ _ w.heap.size _ rfl ((Blk.new _ _ _).alloc _) rfl) rfl ⟨by rw [HE.out]; rfl, below_alloc (below_alloc (Below.refl _ _) _) _⟩
      · have b3 : decide (80 < (l.length : Int)) = false := by simp; omega
        have HR := Aside0.mk hr
        clear hr
        obtain ⟨m, rfl⟩ : ∃ m : Nat, n = m := ⟨n.toNat, by omega⟩
        have hm1 : 1 ≤ m := by omega
        have hm2 : m ≤ 12 := by omega
        go_enter Try.func45, Try.ntmps45
        go_wp2
        go_loopw [26] (fun v wr => ∃ k : Nat, k ≤ l.length ∧ v = .int .i64 (k : Int) ∧ Aside0 (PreOk m l k) ∧ Aside0 (TnN wr (w.heap.size + 1) m (townO (l.take k))) ∧ Aside0 (Blk wr w.heap.size 50 (tnN 0 zero12)) ∧ Aside0 (Below w.heap.size w wr)) (fun v _ => l.length - (intOf v).toNat)
        case atStart => exact ⟨0, Nat.zero_le _, rfl, ⟨fun j hj => absurd hj (by omega)⟩, ⟨Blk.new' (by simp)⟩, ⟨(Blk.new _ _ _).alloc _⟩, ⟨below_alloc (below_alloc (Below.refl _ _) _) _⟩⟩
        case round =>
          obtain ⟨k, hk, rfl, HP, HT, HZ, HB⟩ := hrel
          by_cases hkl : k < l.length
          · obtain ⟨ad, rfl, cx, cy⟩ := at_T43 HR.out (k : Int) (by omega) (by omega)
            replace cx := (HB.out.cell (World.block_lt_of_cell? w _ cx)).trans cx
            replace cy := (HB.out.cell (World.block_lt_of_cell? w _ cy)).trans cy
            obtain ⟨x0, x1, hx⟩ : ∃ x0 x1, rd_T43 l (k : Int) = ⟨x0, x1⟩ := ⟨_, _, rfl⟩
            rw [hx] at cx cy
            simp only [Int.toNat_natCast] at cx cy
            have HX := Aside0.mk hx
            clear hx
            by_cases a1 : x0 < 0
            · have HE := Aside0.mk (show ofE m l = 2 by have := not_all (n := m) hkl (by rw [HX.out]; simp [arcOk]; omega); simp [ofE, this]; omega)
              go_wp2_with (refine wpList_store_row rfl 50 _ _ rfl w.heap.size (tnN 0 zero12) rfl rfl 50 (tnN 0 zero12) (HZ.out.alloc _) info50 rfl (tn_one _ _) ?_)
              exact bodyPost_ret (results45 _ _ w.heap.size _ rfl (Blk.row (HZ.out.alloc _) _) rfl) rfl ⟨by rw [HE.out]; rfl, gb_below_new (below_alloc HB.out _) (gb_row _ _ _) (fun g h => by cases h; exact Nat.le_refl _)⟩
            · by_cases a2 : (m : Int) ≤ x0
              · have HE := Aside0.mk (show ofE m l = 2 by have := not_all (n := m) hkl (by rw [HX.out]; simp [arcOk]; omega); simp [ofE, this]; omega)
                go_wp2_with (refine wpList_store_row rfl 50 _ _ rfl w.heap.size (tnN 0 zero12) rfl rfl 50 (tnN 0 zero12) (HZ.out.alloc _) info50 rfl (tn_one _ _) ?_)
                exact bodyPost_ret (results45 _ _ w.heap.size _ rfl (Blk.row (HZ.out.alloc _) _) rfl) rfl ⟨by rw [HE.out]; rfl, gb_below_new (below_alloc HB.out _) (gb_row _ _ _) (fun g h => by cases h; exact Nat.le_refl _)⟩
              · by_cases a3 : x1 < 0
                · have HE := Aside0.mk (show ofE m l = 2 by have := not_all (n := m) hkl (by rw [HX.out]; simp [arcOk]; omega); simp [ofE, this]; omega)
                  go_wp2_with (refine wpList_store_row rfl 50 _ _ rfl w.heap.size (tnN 0 zero12) rfl rfl 50 (tnN 0 zero12) (HZ.out.alloc _) info50 rfl (tn_one _ _) ?_)
                  exact bodyPost_ret (results45 _ _ w.heap.size _ rfl (Blk.row (HZ.out.alloc _) _) rfl) rfl ⟨by rw [HE.out]; rfl, gb_below_new (below_alloc HB.out _) (gb_row _ _ _) (fun g h => by cases h; exact Nat.le_refl _)⟩
                · by_cases a4 : (m : Int) ≤ x1
                  · have HE := Aside0.mk (show ofE m l = 2 by have := not_all (n := m) hkl (by rw [HX.out]; simp [arcOk]; omega); simp [ofE, this]; omega)
                    go_wp2_with (refine wpList_store_row rfl 50 _ _ rfl w.heap.size (tnN 0 zero12) rfl rfl 50 (tnN 0 zero12) (HZ.out.alloc _) info50 rfl (tn_one _ _) ?_)
                    exact bodyPost_ret (results45 _ _ w.heap.size _ rfl (Blk.row (HZ.out.alloc _) _) rfl) rfl ⟨by rw [HE.out]; rfl, gb_below_new (below_alloc HB.out _) (gb_row _ _ _) (fun g h => by cases h; exact Nat.le_refl _)⟩
                  · obtain ⟨i0, rfl⟩ : ∃ i0 : Nat, x0 = i0 := ⟨x0.toNat, by omega⟩
                    obtain ⟨i1, rfl⟩ : ∃ i1 : Nat, x1 = i1 := ⟨x1.toNat, by omega⟩
                    have hsn := townO_snoc l k hkl
                    have HOK := Aside0.mk (HP.out.succ (by rw [HX.out]; simp [arcOk]; omega))
                    have hto := townO_len (l.take k)
                    have co := HT.out.cellS i0 (by rw [hto]; omega)
                    rw [Nat.add_comm i0 1] at co
                    have p0 : (0 : Int) ≤ i0 := by omega
                    have p1 : (i0 : Int) < 12 := by omega
                    have p2 : (0 : Int) ≤ i1 := by omega
                    rw [HX.out] at hsn
                    have HS := Aside0.mk hsn
                    clear hsn
                    have hne : ¬ (w.heap.size + 1 = wr.heap.size) := fun e => by have := Blk.lt HT.out; omega
                    have d0 : (wr.alloc (.cells #[.int .i64 i0, .int .i64 i1] 43)).cell? ⟨wr.heap.size, 0, none⟩ = some (.int .i64 i0) := (Blk.new wr 43 _).cell 0
                    have d1 : (wr.alloc (.cells #[.int .i64 i0, .int .i64 i1] 43)).cell? ⟨wr.heap.size, 1, none⟩ = some (.int .i64 i1) := (Blk.new wr 43 _).cell 1
                    have HT1 := Aside0.mk (Blk.alloc HT.out (.cells #[.int .i64 i0, .int .i64 i1] 43))
                    have HZ1 := Aside0.mk (Blk.alloc HZ.out (.cells #[.int .i64 i0, .int .i64 i1] 43))
                    have HB1 := Aside0.mk (below_alloc HB.out (.cells #[.int .i64 i0, .int .i64 i1] 43))
                    have d2 : (wr.alloc (.cells #[.int .i64 i0, .int .i64 i1] 43)).cell? ⟨w.heap.size + 1, 1 + i0, none⟩ = some (.int .i64 ((townO (l.take k)).getD i0 0 : Nat)) := (World.cell?_alloc_lt _ _ _ (by have : w.heap.size + 1 < wr.heap.size := Blk.lt (t := 50) HT.out; exact this)).trans co
                    have d3 : (wr.alloc (.cells #[.int .i64 i0, .int .i64 i1] 43)).frozen? ⟨w.heap.size + 1, 1 + i0, none⟩ = false := Blk.frozen HT1.out _
                    obtain ⟨q, hq⟩ : ∃ q, q = (townO (l.take k)).getD i0 0 := ⟨_, rfl⟩
                    rw [← hq] at d2
                    have HS2 := Aside0.mk (townO_set (l.take k) q i0 i1 hq (townO_lt62 m (l.take k) hm2 (fun j hj => by rw [rd_take l k j (by rw [List.length_take] at hj; omega)]; exact HP.out j (by rw [List.length_take] at hj; omega)) i0) (by omega) m)
                    clear hq
                    go_wp2
                    generalize wr.alloc (.cells #[.int .i64 i0, .int .i64 i1] 43) = W at *
                    generalize wr.heap.size = g8 at *
                    clear co cx cy hne HT HZ HB
                    refine wp_still_tail 11 (by kernel_rfl) (by kernel_rfl) ?_
                    simp only [List.take_succ_cons, List.take_zero, List.drop_succ_cons, List.drop_zero]
                    iterate 11 (refine wpStill_step (fun K hK => ?_); go_simp; refine hK _ ?_; clear hK K)
                    refine wpStill_nil ?_
                    go_wp2
                    go_roundw
                    case rel =>
                      exact ⟨k + 1, by omega, by go_num, HOK, ⟨by rw [HS.out]; have := Blk.set_ HT1.out (1 + i0) (.int .i64 (bits .or .i64 (q : Int) (wrap64 (2 ^ i1)))); have e2 := HS2.out; unfold tnN at e2; rw [e2] at this; exact this⟩, ⟨Blk.far HZ1.out (by simp) _⟩, ⟨below_drew (gb_below_new HB1.out (gb_set _ _ _) (fun g h => by cases h; simp))⟩⟩
                    case measure => simp [intOf]; omega
          · obtain rfl : k = l.length := by omega
            have HE := Aside0.mk (show ofE m l = 0 by have := all_of_pre HP.out; simp [ofE, this]; omega)
            have htk : townO (l.take l.length) = townO l := by rw [List.take_length]
            rw [htk] at HT
            clear htk
            go_wp2_with (first | (refine wpList_store_row rfl 50 _ _ rfl w.heap.size (tnN m (townO l)) rfl rfl 50 (tnN 0 zero12) HZ.out (tn_info _ _ (townO_len l)) (tn_old _ _ _ _ rfl (townO_len l)) (tn_one _ _) ?_) | (refine wpList_load_row rfl 50 _ rfl (w.heap.size + 1) rfl 50 (tnN m (townO l)) (0, 0) _ HT.out Try.underlying50 rfl (tn_info _ _ (townO_len l)) ?_))
            refine bodyPost_ret (results45 _ _ w.heap.size (tnN m (townO l)) rfl (Blk.row HZ.out _) (by rw [tnN, tnA_size, ints_length, townO_len])) rfl ⟨by rw [HE.out]; rfl, gb_below_new HB.out (gb_row _ _ _) (fun g h => by cases h; exact Nat.le_refl _)⟩
end Go.Proofs.Ytmobefgnkiboaaa.Im
namespace Go.Proofs.Ytmobefgnkiboaaa.Im
open Go.RowKit Go.Proofs.YtmobefgnkiboaaaW.PrintWords Go.Proofs.YtmobefgnkiboaaaW.PrintLast Go.Proofs.YtmobefgnkiboaaaW.PrintMore
set_option linter.unusedVariables false
/-- A value that is a test of sets. -/
structure HasC (w : World) (f : FuncId) (cap : Array Value) (has : Nat → Bool) : Prop where
  enter : ∀ (args : Array Value) (w : World), (callFunc f args).run Try.prog w = .ok (.enter f args) w
  calls : ∀ s, s < 4096 → ∀ w', Below w.heap.size w w' → Calls Try.prog f (#[.int .i64 (s : Nat)] ++ cap) w' (fun e w'' => e = .returned (.bool (has s)) ∧ Below w'.heap.size w' w'')
theorem HasC.later {w w1 : World} {f : FuncId} {cap : Array Value} {p : Nat → Bool} (h : HasC w f cap p) (hb : Below w.heap.size w w1) : HasC w1 f cap p :=
  ⟨h.enter, fun i hi w' hw => h.calls i hi w' (below_then hb hb.size hw)⟩
def kerB (n : Nat) (o : List Nat) (s p : Nat) : Bool := AllB n (indB o s) (absB o s p)
set_option maxHeartbeats 1600000 in
set_option maxRecDepth 100000 in
theorem kernel1_any (n : Nat) (o : List Nat) (s g : Nat) (w : World) (ok : Okt n o) (hs : s < 4096) (ht : TnN w g n o) :
    Calls Try.prog 55 #[.int .i64 s, .pointer (some ⟨g, 0, none⟩)] w fun e w' => e = .returned (.bool (kerB n o s (2 ^ n - 1))) ∧ Below w.heap.size w w' := by
  have hT := Blk.drew ht
  have hb0 : Below w.heap.size w w.drew := below_drew (Below.refl _ _)
  have n12 := ok.n12
  have hp : 2 ^ n - 1 < 2 ^ 62 := by have : 2 ^ n < 2 ^ 62 := Nat.pow_lt_pow_right (by decide) (by omega); omega
  go_enter Try.func55, Try.ntmps55
  go_wp2
  refine wp_region_held (S := fun wx => TnN wx g n o ∧ Below w.heap.size w wx) (by kernel_rfl) ?_
  refine wpAnyH_take (i := 0) (v := .agg (tnN n o)) rfl (by kernel_rfl) (by kernel_rfl) (by kernel_rfl) (fun _ _ _ h => h) (yi_at rfl fun wx h => ex_load_tn rfl wx g n o rfl h.1 ok.len) ⟨hT, hb0⟩ ?_
  refine wpAnyH_take (i := 1) (v := .int .i64 s) rfl (by kernel_rfl) (by kernel_rfl) (by kernel_rfl) (fun _ _ _ h => h) (yi_any rfl fun wx => rfl) ⟨hT, hb0⟩ ?_
  refine wpAnyH_take (i := 2) (v := .agg (tnN n o)) rfl (by kernel_rfl) (by kernel_rfl) (by kernel_rfl) (fun _ _ _ h => h) (yi_at rfl fun wx h => ex_load_tn rfl wx g n o rfl h.1 ok.len) ⟨hT, hb0⟩ ?_
  refine ro_one (i := 3) (by kernel_rfl) (ro_call (f := 57) (args := #[.agg (tnN n o)]) rfl rfl (by kernel_rfl) ?_)
  refine (everybody_any n o _ n12).mono ?_
  rintro e w1 ⟨rfl, hb1⟩
  have hb01 := below_then hb0 hb0.size hb1
  refine ⟨_, rfl, ⟨Blk.later hT hb1, hb01⟩, ?_⟩
  refine ro_one (i := 4) (by kernel_rfl) (ro_call (f := 56) (args := #[.agg (tnN n o), .int .i64 s, .int .i64 (2 ^ n - 1 : Nat)]) rfl rfl (by kernel_rfl) ?_)
  refine (kernel_any n o s (2 ^ n - 1) _ ok (by omega) hp).mono ?_
  rintro e w2 ⟨rfl, hb2⟩
  have hb02 := below_then hb01 hb01.size hb2
  refine ⟨_, rfl, ⟨Blk.later (Blk.later hT hb1) hb2, hb02⟩, ?_⟩
  refine ro_one (i := 5) (by kernel_rfl) (ro_val (v := .bool (kerB n o s (2 ^ n - 1))) (w' := w2) rfl rfl (by kernel_rfl) ?_)
  refine ⟨⟨Blk.later (Blk.later hT hb1) hb2, hb02⟩, ?_⟩
  refine wpAnyH_done (by kernel_rfl) ?_ _
  go_wp2
  go_ret
  exact ⟨rfl, hb02⟩
/-- What 'first' holds while it tries sets. -/
structure FirstI (gout gh base : Nat) (w0 : World) (f : FuncId) (cap : Array Value) (has : Nat → Bool) (st : List Nat) (w : World) : Prop where
  out : ∃ v, Blk w gout 25 #[v] ∧ Kd.R (Kd.int .i64) 3 w base (fun _ => True) v (ints st)
  bh : Blk w gh 62 #[.func (.func f) #[] cap]
  ne : gh ≠ gout
  hc : HasC w0 f cap has
  bel : Below base w0 w
  size : base ≤ w.heap.size
  b1 : base ≤ gout
  b0 : base = w0.heap.size
theorem FirstI.keep {gout gh base : Nat} {w0 : World} {f : FuncId} {cap : Array Value} {has : Nat → Bool} {st : List Nat} {w w' : World} (h : FirstI gout gh base w0 f cap has st w) (hg : w.grownBy w' none) : FirstI gout gh base w0 f cap has st w' := by
  obtain ⟨⟨v, hb, hr⟩, h2, h3, h4, h5, h6, h7, h8⟩ := h
  exact ⟨⟨v, hb.gb hg (by simp), Kd.R_below hr (below_gb hg)⟩, h2.gb hg (by simp), h3, h4, h5.grown hg h6 (fun k hk => by cases hk), Nat.le_trans h6 hg.size, h7, h8⟩
set_option maxHeartbeats 1600000 in
set_option maxRecDepth 100000 in
theorem first1_any (gout gh base : Nat) (w0 : World) (f : FuncId) (cap : Array Value) (has : Nat → Bool) (st : List Nat) (s : Nat) (w : World) (hs : s < 4096) (h : FirstI gout gh base w0 f cap has st w) :
    Calls Try.prog 85 #[.int .i64 s, .pointer (some ⟨gout, 0, none⟩), .pointer (some ⟨gh, 0, none⟩)] w
      (fun e w' => e = .returned (.bool (has s)) ∧ FirstI gout gh base w0 f cap has (memL s) w' ∧ w.grownBy w' (some gout)) := by
  have HH := Aside0.mk h
  clear h
  go_enter Try.func85, Try.ntmps85
  go_wp2_with fail
  refine (members_any s _ hs).mono ?_
  rintro e w1 ⟨v, rfl, hr, hb⟩
  obtain ⟨⟨v0, hb0, hr0⟩, h2, h3, h4, h5, h6, h7, h8⟩ := HH.out
  obtain ⟨A, c, rfl, hlc, hC⟩ := Kd.R_reads hr
  have k1 := hb0.later hb
  have k2 := h2.later hb
  have c1 : w1.cell? ⟨gout, 0, none⟩ = some v0 := k1.cell 0
  have c2 : w1.frozen? ⟨gout, 0, none⟩ = false := k1.frozen 0
  have k3 := Blk.set_ k1 0 (.slice A (ints (mem12 s 0)).length c)
  have k4 := Blk.far k2 (p := ⟨gout, 0, none⟩) h3 (.slice A (ints (mem12 s 0)).length c)
  have c3 : (w1.setCell ⟨gout, 0, none⟩ (.slice A (ints (mem12 s 0)).length c)).cell? ⟨gh, 0, none⟩ = some (.func (.func f) #[] cap) := k4.cell 0
  have g1 : w.grownBy (w1.setCell ⟨gout, 0, none⟩ (.slice A (ints (mem12 s 0)).length c)) (some gout) := gb_trans (gb_below hb) (gb_set _ _ _)
  have b1 : Below base w0 (w1.setCell ⟨gout, 0, none⟩ (.slice A (ints (mem12 s 0)).length c)) := h5.grown g1 h6 (fun k hk => by cases hk; exact h7)
  have r1 : Kd.R (Kd.int .i64) 3 (w1.setCell ⟨gout, 0, none⟩ (.slice A (ints (mem12 s 0)).length c)) base (fun _ => True) (.slice A (ints (mem12 s 0)).length c) (ints (memL s)) :=
    Kd.R_lower (Kd.R_set hr k1 (by decide) 0 _) h6
  have E0 := h4.enter
  have KK := Aside0.mk (And.intro k3 (And.intro k4 (And.intro g1 (And.intro b1 r1))))
  have HC := Aside0.mk h4
  have H6 := Aside0.mk (Nat.le_trans h6 g1.size)
  have H7 := Aside0.mk h7
  have H8 := Aside0.mk h8
  have H3 := Aside0.mk h3
  clear k3 k4 g1 b1 r1 k1 k2 hC hr hb h2 h3 h4 h5 h6 h7 h8 hb0 hr0 HH
  go_wp2_with fail
  have hbb := KK.out.2.2.2.1
  rw [H8.out] at hbb
  refine (HC.out.calls s hs _ hbb).mono ?_
  rintro e w2 ⟨rfl, hb2⟩
  have FB := Aside0.mk hb2
  clear hb2 hbb
  go_wp2_with fail
  go_ret
  obtain ⟨k3, k4, g1, b1, r1⟩ := KK.out
  exact ⟨rfl, FirstI.keep ⟨⟨_, k3, r1⟩, k4, H3.out, HC.out, b1, H6.out, H7.out, H8.out⟩ (gb_below FB.out), gb_trans g1 (gb_below FB.out)⟩
/-- The first set, in the order of 'each', with a property. -/
def lpF (has : Nat → Bool) : List Nat → Nat → Option Nat
  | [], _ => none
  | i :: rest, s => if has (s ||| 2 ^ i) then some (s ||| 2 ^ i) else
    match lpF has rest (s ||| 2 ^ i) with
    | some x => some x
    | none => lpF has rest s
def onF (has : Nat → Bool) (l : List Nat) (s : Nat) : Option Nat := if has s then some s else lpF has l s
def visF (has : Nat → Bool) (_ : List Nat) (s : Nat) : Bool × List Nat := (has s, memL s)
theorem lpL_lpF (has : Nat → Bool) : ∀ (l : List Nat) (s : Nat) (st : List Nat), ∃ st', lpL (visF has) l s st = (match lpF has l s with | some x => (true, memL x) | none => (false, st'))
  | [], _, st => ⟨st, rfl⟩
  | i :: rest, s, st => by
    simp only [lpL, lpF]
    by_cases h : has (s ||| 2 ^ i) = true
    · exact ⟨st, by simp [h, visF]⟩
    · obtain ⟨st1, h1⟩ := lpL_lpF has rest (s ||| 2 ^ i) (memL (s ||| 2 ^ i))
      have h' : has (s ||| 2 ^ i) = false := by simpa using h
      simp only [visF, h', Bool.false_eq_true, if_false]
      change ∃ st', (if (lpL (visF has) rest (s ||| 2 ^ i) (memL (s ||| 2 ^ i))).1 = true then (true, (lpL (visF has) rest (s ||| 2 ^ i) (memL (s ||| 2 ^ i))).2) else lpL (visF has) rest s (lpL (visF has) rest (s ||| 2 ^ i) (memL (s ||| 2 ^ i))).2) = _
      rw [h1]
      cases hx : lpF has rest (s ||| 2 ^ i)
      · obtain ⟨st2, h2⟩ := lpL_lpF has rest s st1
        simp only [Bool.false_eq_true, if_false]
        exact ⟨st2, h2⟩
      · exact ⟨st, by simp⟩
theorem onL_onF (has : Nat → Bool) (l : List Nat) (s : Nat) (st : List Nat) : ∃ st', onL (visF has) l s st = (match onF has l s with | some x => (true, memL x) | none => (false, st')) := by
  by_cases h : has s = true
  · exact ⟨st, by simp [onL, onF, visF, h]⟩
  · have h' : has s = false := by simpa using h
    obtain ⟨st1, h1⟩ := lpL_lpF has l s (memL s)
    refine ⟨st1, ?_⟩
    have : onL (visF has) l s st = lpL (visF has) l s (memL s) := by simp [onL, visF, h']
    rw [this, h1]
    simp [onF, h']
def FirstR (w : World) (r : Option Nat) (e : Ending) (w' : World) : Prop :=
  match r with
  | some x => ∃ v, e = .returned (.tuple #[v, .int .i64 0]) ∧ Kd.R (Kd.int .i64) 3 w' w.heap.size (fun _ => True) v (ints (memL x)) ∧ Below w.heap.size w w'
  | none => e = .returned (.tuple #[.slice none 0 0, .int .i64 10]) ∧ Below w.heap.size w w'
/-- The first set of people with a property. -/
def firstS (has : Nat → Bool) (n : Nat) : Option Nat := onF has (memL (2 ^ n - 1)) 0
theorem cf85 (args : Array Value) (w : World) : (callFunc 85 args).run Try.prog w = .ok (.enter 85 args) w := by kernel_rfl
theorem pow12_lt (n : Nat) (h : n ≤ 12) : 2 ^ n - 1 < 4096 := by have : 2 ^ n ≤ 2 ^ 12 := Nat.pow_le_pow_right (by decide) h; have := Nat.two_pow_pos n; omega
set_option maxHeartbeats 1600000 in
set_option maxRecDepth 100000 in
theorem first_any (n : Nat) (o : List Nat) (f : FuncId) (cap : Array Value) (has : Nat → Bool) (w : World) (ok : Okt n o) (hc : HasC w f cap has) :
    Calls Try.prog 54 #[.agg (tnN n o), .func (.func f) #[] cap] w (FirstR w (firstS has n)) := by
  have hmf : ∀ (fn : Fn) (first cap : Array Value) (w : World), (Instr.makeFunc fn first cap).run Try.prog w = .ok (.func fn first cap) w := fun _ _ _ _ => rfl
  have n12 := ok.n12
  have hpn := pow12_lt n n12
  have V : Visit (FirstI (w.heap.size + 1 + 1) (w.heap.size + 1) w.heap.size w f cap has) (some (w.heap.size + 1 + 1)) 85 #[.pointer (some ⟨w.heap.size + 1 + 1, 0, none⟩), .pointer (some ⟨w.heap.size + 1, 0, none⟩)] (visF has) :=
    ⟨cf85, fun st w1 w2 h hg => h.keep hg, fun st s w1 hs h => first1_any _ _ _ _ _ _ _ st s w1 hs h⟩
  obtain ⟨st', hon⟩ := onL_onF has (mem12 (2 ^ n - 1) 0) 0 []
  have hfs : firstS has n = onF has (mem12 (2 ^ n - 1) 0) 0 := rfl
  rw [hfs]
  clear hfs
  generalize onF has (mem12 (2 ^ n - 1) 0) 0 = r at *
  have HO := Aside0.mk hon
  have HC := Aside0.mk hc
  have HV := Aside0.mk V
  have HT : Aside0 (TnN ((w.alloc (.cells (tnN n o) 50)).alloc (.cells #[.func (.func f) #[] cap] 62) |>.alloc (.cells #[.slice none 0 0] 25)) w.heap.size n o) := ⟨((Blk.new w 50 (tnN n o)).alloc _).alloc _⟩
  clear hon hc V
  go_enter Try.func54, Try.ntmps54
  go_wp2_with (first | (refine wpList_load_row rfl 50 _ rfl w.heap.size rfl 50 (tnN n o) (0, 0) _ HT.out Try.underlying50 rfl (tn_info _ _ ok.len) ?_) | (go_at_call 57; refine (everybody_any n o _ n12).mono ?_; rintro e w1 ⟨rfl, hb1⟩))
  have HW := Aside0.mk (below_then (below_alloc (below_alloc (below_alloc (Below.refl _ w) (.cells (tnN n o) 50)) (.cells #[.func (.func f) #[] cap] 62)) (.cells #[.slice none 0 0] 25)) (by simp; omega) hb1)
  have hI : FirstI (w.heap.size + 1 + 1) (w.heap.size + 1) w.heap.size w f cap has [] w1 :=
    ⟨⟨.slice none 0 0, (Blk.new' (by simp)).later hb1, Kd.R_nil _ _ _ _ _⟩, ((Blk.new' (by simp)).alloc _).later hb1, by omega, HC.out, HW.out, HW.out.size, by omega, rfl⟩
  refine (each_any HV.out (2 ^ n - 1) hpn [] _ hI (fun g h => by cases h; have := hb1.size; simp at this; omega)).mono ?_
  rintro e w2 ⟨rfl, hI2, hg2⟩
  rw [HO.out] at hI2 ⊢
  have HW2 := Aside0.mk (HW.out.grown hg2 HW.out.size (fun k hk => by cases hk; omega))
  clear hg2 hI hb1 HT HO
  cases r
  · clear hI2
    go_wp2_with fail
    go_ret2
    exact ⟨rfl, HW2.out⟩
  · obtain ⟨⟨v, hb, hr⟩, _⟩ := hI2
    have HR := Aside0.mk hr
    have c1 := hb.cell 0
    simp only [List.getElem?_toArray, List.getElem?_cons_zero] at c1
    clear hb hr
    go_wp2_with fail
    go_ret2
    exact ⟨v, rfl, HR.out, HW2.out⟩
end Go.Proofs.Ytmobefgnkiboaaa.Im
namespace Go.Proofs.Ytmobefgnkiboaaa.Im
open Go.RowKit Go.Proofs.YtmobefgnkiboaaaW.PrintWords Go.Proofs.YtmobefgnkiboaaaW.PrintLast Go.Proofs.YtmobefgnkiboaaaW.PrintMore
set_option linter.unusedVariables false
theorem ofE_ok {n : Int} {l : List S43} (h : ofE n l = 0) : 1 ≤ n ∧ n ≤ 12 ∧ l.length ≤ 80 ∧ l.all (arcOk n) = true := by
  unfold ofE at h
  split at h
  · omega
  · split at h
    · omega
    · split at h
      · exact ⟨by omega, by omega, by omega, by assumption⟩
      · omega
theorem okt_of {n : Int} {l : List S43} (h : ofE n l = 0) : Okt n.toNat (townO l) := by
  obtain ⟨h1, h2, h3, h4⟩ := ofE_ok h
  obtain ⟨m, rfl⟩ : ∃ m : Nat, n = m := ⟨n.toNat, by omega⟩
  rw [Int.toNat_natCast]
  exact ⟨by omega, by omega, townO_len l, townO_lt m l h4⟩
def ofA (n : Int) (l : List S43) : Array Value := if ofE n l = 0 then tnN n.toNat (townO l) else tnN 0 zero12
theorem ofA_size (n : Int) (l : List S43) : (ofA n l).size = 13 := by
  unfold ofA; split
  · exact tn_size _ _ (townO_len l)
  · rfl
theorem ofA_one (n : Int) (l : List S43) : (ofA n l).all (·.oneCell') = true := by
  unfold ofA; split <;> exact tn_one _ _
theorem of_A (n : Int) (A : Option Addr) (c : Nat) (l : List S43) (w : World) (hr : Kd.C k43 w A l.length l) (hc : l.length ≤ c) :
    Calls Try.prog 45 #[.int .i64 n, .slice A l.length c] w fun e w' => e = .returned (.tuple #[.agg (ofA n l), .int .i64 (ofE n l)]) ∧ Below w.heap.size w w' := of_any n A c l w hr hc
def KernelPost (n : Int) (l : List S43) (w : World) (e : Ending) (w' : World) : Prop :=
  if ofE n l = 0 then FirstR w (firstS (fun s => kerB n.toNat (townO l) s (2 ^ n.toNat - 1)) n.toNat) e w'
  else e = .returned (.tuple #[.slice none 0 0, .int .i64 (ofE n l)]) ∧ Below w.heap.size w w'
theorem cf55 (args : Array Value) (w : World) : (callFunc 55 args).run Try.prog w = .ok (.enter 55 args) w := by kernel_rfl
set_option maxHeartbeats 1600000 in
set_option maxRecDepth 100000 in
theorem Kernel_any (n : Int) (A : Option Addr) (c : Nat) (l : List S43) (w : World) (hr : Kd.C k43 w A l.length l) (hc : l.length ≤ c) :
    Calls Try.prog 23 #[.int .i64 n, .slice A l.length c] w (KernelPost n l w) := by
  have hmf : ∀ (fn : Fn) (first cap : Array Value) (w : World), (Instr.makeFunc fn first cap).run Try.prog w = .ok (.func fn first cap) w := fun _ _ _ _ => rfl
  have HO := Aside0.mk (of_A n A c l w hr hc)
  have HZ := Aside0.mk (ofA_size n l)
  have H1 := Aside0.mk (ofA_one n l)
  clear hr hc
  by_cases he : ofE n l = 0
  · have ok := okt_of he
    have hA : ofA n l = tnN n.toNat (townO l) := by rw [ofA, if_pos he]
    have hK : KernelPost n l w = FirstR w (firstS (fun s => kerB n.toNat (townO l) s (2 ^ n.toNat - 1)) n.toNat) := by funext e w'; simp [KernelPost, he]
    obtain ⟨r, hr0⟩ : ∃ r, firstS (fun s => kerB n.toNat (townO l) s (2 ^ n.toNat - 1)) n.toNat = r := ⟨_, rfl⟩
    rw [hK, hr0]
    have HR0 := Aside0.mk hr0
    clear hr0
    rw [hA] at HO HZ H1
    rw [he] at HO
    have HK := Aside0.mk ok
    clear he hA ok hK
    go_enter Try.func23, Try.ntmps23
    go_wp2_with fail
    refine HO.out.mono ?_
    rintro e w1 ⟨rfl, hb⟩
    have HB := Aside0.mk hb
    clear hb HO
    have HT : Aside0 (TnN (w1.alloc (.cells (tnN n.toNat (townO l)) 50)) w1.heap.size n.toNat (townO l)) := ⟨Blk.new _ _ _⟩
    go_wp2_with (first | (refine wpList_store_row rfl 50 _ _ rfl w1.heap.size (tnN n.toNat (townO l)) rfl rfl 50 (tnN 0 zero12) (heap_alloc_new w1 _) (by rw [info50, HZ.out]) (by rw [HZ.out]; rfl) H1.out ?_; rw [World.setRow_alloc_new]) | (refine wpList_load_row rfl 50 _ rfl w1.heap.size rfl 50 (tnN n.toNat (townO l)) (0, 0) _ HT.out Try.underlying50 rfl (by rw [info50, HZ.out]) ?_))
    have HB2 := Aside0.mk (below_alloc HB.out (.cells (tnN n.toNat (townO l)) 50))
    have HH : HasC (w1.alloc (.cells (tnN n.toNat (townO l)) 50)) 55 #[.pointer (some ⟨w1.heap.size, 0, none⟩)] (fun s => kerB n.toNat (townO l) s (2 ^ n.toNat - 1)) := ⟨cf55, fun s hs w2 hw2 => kernel1_any n.toNat (townO l) s w1.heap.size w2 HK.out hs (Blk.later HT.out hw2)⟩
    refine (first_any n.toNat (townO l) 55 #[.pointer (some ⟨w1.heap.size, 0, none⟩)] (fun s => kerB n.toNat (townO l) s (2 ^ n.toNat - 1)) _ HK.out HH).mono ?_
    intro e w2 h2
    rw [HR0.out] at h2
    clear HR0 HH
    cases r with
    | none =>
      obtain ⟨rfl, hb2⟩ := h2
      have HB3 := Aside0.mk (below_then HB2.out HB2.out.size hb2)
      clear hb2
      go_wp2_with fail
      go_ret2
      exact ⟨rfl, HB3.out⟩
    | some x =>
      obtain ⟨v, rfl, hr2, hb2⟩ := h2
      have HB3 := Aside0.mk (below_then HB2.out HB2.out.size hb2)
      have HR := Aside0.mk (Kd.R_lower hr2 HB2.out.size)
      clear hb2 hr2
      go_wp2_with fail
      go_ret2
      exact ⟨v, rfl, HR.out, HB3.out⟩
  · have hK : KernelPost n l w = fun e w' => e = .returned (.tuple #[.slice none 0 0, .int .i64 (ofE n l)]) ∧ Below w.heap.size w w' := by funext e w'; simp [KernelPost, he]
    rw [hK]
    have hb : (ofE n l != 0) = true := bne_iff_ne.2 he
    have hb' : (ofE n l == 0) = false := beq_eq_false_iff_ne.2 he
    clear hK he
    generalize ofE n l = er at *
    go_enter Try.func23, Try.ntmps23
    go_wp2_with fail
    refine HO.out.mono ?_
    rintro e w1 ⟨rfl, hb⟩
    have HB := Aside0.mk hb
    clear hb HO
    go_wp2_with (refine wpList_store_row rfl 50 _ _ rfl w1.heap.size (ofA n l) rfl rfl 50 (tnN 0 zero12) (heap_alloc_new w1 _) (by rw [info50, HZ.out]) (by rw [HZ.out]; rfl) H1.out ?_)
    go_ret2
    exact ⟨rfl, by rw [World.setRow_alloc_new]; exact below_alloc HB.out _⟩
end Go.Proofs.Ytmobefgnkiboaaa.Im
namespace Go.Proofs.Ytmobefgnkiboaaa.Im
open Go.RowKit Go.Proofs.YtmobefgnkiboaaaW.PrintWords Go.Proofs.YtmobefgnkiboaaaW.PrintLast Go.Proofs.YtmobefgnkiboaaaW.PrintMore
set_option linter.unusedVariables false
theorem kernel_b {n : Nat} {o : List Nat} {s p : Nat} {b : Bool} (hb : kerB n o s p = b) (w : World) (ok : Okt n o) (hs62 : s < 2 ^ 62) (hp62 : p < 2 ^ 62) :
    Calls Try.prog 56 #[.agg (tnN n o), .int .i64 s, .int .i64 p] w fun e w' => e = .returned (.bool b) ∧ Below w.heap.size w w' := hb ▸ kernel_any n o s p w ok hs62 hp62
def manyK (n : Nat) (o : List Nat) (k : Nat) : Nat := ((List.range k).filter fun s => kerB n o s (2 ^ n - 1)).length
theorem manyK_succ (n : Nat) (o : List Nat) (k : Nat) : manyK n o (k + 1) = manyK n o k + if kerB n o k (2 ^ n - 1) then 1 else 0 := by
  unfold manyK
  rw [List.range_succ, List.filter_append]
  cases h : kerB n o k (2 ^ n - 1) <;> simp [h]
theorem manyK_le (n : Nat) (o : List Nat) (k : Nat) : manyK n o k ≤ k := by
  unfold manyK
  have := List.length_filter_le (fun s => kerB n o s (2 ^ n - 1)) (List.range k)
  simpa using this
def KernelsPost (n : Int) (l : List S43) (w : World) (e : Ending) (w' : World) : Prop :=
  e = .returned (.tuple #[.int .i64 (if ofE n l = 0 then (manyK n.toNat (townO l) (2 ^ n.toNat) : Int) else 0), .int .i64 (ofE n l)]) ∧ Below w.heap.size w w'
set_option maxHeartbeats 3200000 in
set_option maxRecDepth 100000 in
theorem Kernels_any (n : Int) (A : Option Addr) (c : Nat) (l : List S43) (w : World) (hr : Kd.C k43 w A l.length l) (hc : l.length ≤ c) :
    Calls Try.prog 24 #[.int .i64 n, .slice A l.length c] w (KernelsPost n l w) := by
  have HO := Aside0.mk (of_A n A c l w hr hc)
  have HZ := Aside0.mk (ofA_size n l)
  have H1 := Aside0.mk (ofA_one n l)
  clear hr hc
  by_cases he : ofE n l = 0
  · have ok := okt_of he
    have hA : ofA n l = tnN n.toNat (townO l) := by rw [ofA, if_pos he]
    have hK : KernelsPost n l w = fun e w' => e = .returned (.tuple #[.int .i64 (manyK n.toNat (townO l) (2 ^ n.toNat) : Nat), .int .i64 0]) ∧ Below w.heap.size w w' := by funext e w'; simp [KernelsPost, he]
    rw [hK]
    rw [hA] at HO HZ H1
    rw [he] at HO
    have HK := Aside0.mk ok
    have n12 := ok.n12
    have hpn := pow12_lt n.toNat n12
    have hp0 : 0 < 2 ^ n.toNat := Nat.two_pow_pos _
    clear he hA ok hK
    generalize townO l = o at *
    generalize n.toNat = m at *
    obtain ⟨N, hN⟩ : ∃ N : Nat, 2 ^ m = N + 1 := ⟨2 ^ m - 1, by omega⟩
    have e1 : 2 ^ m - 1 = N := by omega
    have HM : ∀ k, manyK m o (k + 1) = manyK m o k + if kerB m o k N then 1 else 0 := fun k => by rw [manyK_succ, e1]
    have HEv := Aside0.mk (fun w => e1 ▸ everybody_any m o w n12)
    have hN12 : N < 4096 := by omega
    have HMM := Aside0.mk HM
    clear HM e1
    rw [hN]
    clear hN hpn hp0
    go_enter Try.func24, Try.ntmps24
    go_wp2_with fail
    refine HO.out.mono ?_
    rintro e w1 ⟨rfl, hb⟩
    have HB := Aside0.mk hb
    clear hb HO
    have HT : Aside0 (TnN (w1.alloc (.cells (tnN m o) 50)) w1.heap.size m o) := ⟨Blk.new _ _ _⟩
    go_wp2_with (first | (refine wpList_store_row rfl 50 _ _ rfl w1.heap.size (tnN m o) rfl rfl 50 (tnN 0 zero12) (heap_alloc_new w1 _) (by rw [info50, HZ.out]) (by rw [HZ.out]; rfl) H1.out ?_; rw [World.setRow_alloc_new]) | (refine wpList_load_row rfl 50 _ rfl w1.heap.size rfl 50 (tnN m o) (0, 0) _ HT.out Try.underlying50 rfl (by rw [info50, HZ.out]) ?_))
    refine (HEv.out _).mono ?_
    rintro e w2 ⟨rfl, hb2⟩
    have HB2 := Aside0.mk (below_then (below_alloc HB.out (.cells (tnN m o) 50)) (below_alloc HB.out (.cells (tnN m o) 50)).size hb2)
    have HT2 := Aside0.mk (Blk.later HT.out hb2)
    clear hb2
    go_wp2_with fail
    go_loopw [8, 22] (fun v8 v wr => ∃ k : Nat, k ≤ N + 1 ∧ v = .int .i64 (k : Int) ∧ v8 = .int .i64 (manyK m o k : Nat) ∧ Aside0 (TnN wr w1.heap.size m o) ∧ Aside0 (Below w.heap.size w wr)) (fun _ v _ => N + 1 - (intOf v).toNat)
    case atStart => exact ⟨0, Nat.zero_le _, rfl, rfl, HT2, HB2⟩
    case round =>
      clear HT2 HB2
      obtain ⟨k, hk, rfl, rfl, HT3, HB3⟩ := hrel
      have hmk := manyK_le m o k
      by_cases hkn : k < N + 1
      · have hs := HMM.out k
        have hT := Aside0.mk (Blk.drew HT3.out)
        have hb0 := Aside0.mk (below_drew HB3.out)
        cases hb : kerB m o k N
        · rw [hb, if_neg (by simp)] at hs
          have HS := Aside0.mk hs
          have HQ := Aside0.mk hb
          clear hs hb
          go_wp2_with fail
          refine wp_region_held (S := fun wx => TnN wx w1.heap.size m o ∧ Below w.heap.size w wx) (by kernel_rfl) ?_
          refine wpAnyH_take (i := 0) (v := .agg (tnN m o)) rfl (by kernel_rfl) (by kernel_rfl) (by kernel_rfl) (fun _ _ _ h => h) (yi_at rfl fun wx h => ex_load_tn rfl wx w1.heap.size m o rfl h.1 HK.out.len) ⟨hT.out, hb0.out⟩ ?_
          refine wpAnyH_take (i := 1) (v := .int .i64 (k : Nat)) rfl (by kernel_rfl) (by kernel_rfl) (by kernel_rfl) (fun _ _ _ h => h) (yi_any rfl fun wx => rfl) ⟨hT.out, hb0.out⟩ ?_
          refine wpAnyH_take (i := 2) (v := .agg (tnN m o)) rfl (by kernel_rfl) (by kernel_rfl) (by kernel_rfl) (fun _ _ _ h => h) (yi_at rfl fun wx h => ex_load_tn rfl wx w1.heap.size m o rfl h.1 HK.out.len) ⟨hT.out, hb0.out⟩ ?_
          refine ro_one (i := 3) (by kernel_rfl) (ro_call (f := 57) (args := #[.agg (tnN m o)]) rfl rfl (by kernel_rfl) ?_)
          refine (HEv.out _).mono ?_
          rintro e w3 ⟨rfl, hb3⟩
          have hb03 := below_then hb0.out hb0.out.size hb3
          refine ⟨_, rfl, ⟨Blk.later hT.out hb3, hb03⟩, ?_⟩
          refine ro_one (i := 4) (by kernel_rfl) (ro_call (f := 56) (args := #[.agg (tnN m o), .int .i64 (k : Nat), .int .i64 (N : Nat)]) rfl rfl (by kernel_rfl) ?_)
          refine (kernel_b HQ.out _ HK.out (by omega) (by omega)).mono ?_
          rintro e w4 ⟨rfl, hb4⟩
          have HB4 := Aside0.mk (below_then hb03 hb03.size hb4)
          have HT4 := Aside0.mk (Blk.later (Blk.later hT.out hb3) hb4)
          refine ⟨_, rfl, ⟨HT4.out, HB4.out⟩, ?_⟩
          clear hb4 hb03 hb3 hT hb0
          refine wpAnyH_done (by kernel_rfl) ?_ _
          go_wp2_with fail
          go_roundw
          case rel => exact ⟨k + 1, by omega, by go_num, by rw [HS.out]; rfl, HT4, HB4⟩
          case measure => simp [intOf]; omega
        · rw [hb, if_pos rfl] at hs
          have HS := Aside0.mk hs
          have HQ := Aside0.mk hb
          clear hs hb
          go_wp2_with fail
          refine wp_region_held (S := fun wx => TnN wx w1.heap.size m o ∧ Below w.heap.size w wx) (by kernel_rfl) ?_
          refine wpAnyH_take (i := 0) (v := .agg (tnN m o)) rfl (by kernel_rfl) (by kernel_rfl) (by kernel_rfl) (fun _ _ _ h => h) (yi_at rfl fun wx h => ex_load_tn rfl wx w1.heap.size m o rfl h.1 HK.out.len) ⟨hT.out, hb0.out⟩ ?_
          refine wpAnyH_take (i := 1) (v := .int .i64 (k : Nat)) rfl (by kernel_rfl) (by kernel_rfl) (by kernel_rfl) (fun _ _ _ h => h) (yi_any rfl fun wx => rfl) ⟨hT.out, hb0.out⟩ ?_
          refine wpAnyH_take (i := 2) (v := .agg (tnN m o)) rfl (by kernel_rfl) (by kernel_rfl) (by kernel_rfl) (fun _ _ _ h => h) (yi_at rfl fun wx h => ex_load_tn rfl wx w1.heap.size m o rfl h.1 HK.out.len) ⟨hT.out, hb0.out⟩ ?_
          refine ro_one (i := 3) (by kernel_rfl) (ro_call (f := 57) (args := #[.agg (tnN m o)]) rfl rfl (by kernel_rfl) ?_)
          refine (HEv.out _).mono ?_
          rintro e w3 ⟨rfl, hb3⟩
          have hb03 := below_then hb0.out hb0.out.size hb3
          refine ⟨_, rfl, ⟨Blk.later hT.out hb3, hb03⟩, ?_⟩
          refine ro_one (i := 4) (by kernel_rfl) (ro_call (f := 56) (args := #[.agg (tnN m o), .int .i64 (k : Nat), .int .i64 (N : Nat)]) rfl rfl (by kernel_rfl) ?_)
          refine (kernel_b HQ.out _ HK.out (by omega) (by omega)).mono ?_
          rintro e w4 ⟨rfl, hb4⟩
          have HB4 := Aside0.mk (below_then hb03 hb03.size hb4)
          have HT4 := Aside0.mk (Blk.later (Blk.later hT.out hb3) hb4)
          refine ⟨_, rfl, ⟨HT4.out, HB4.out⟩, ?_⟩
          clear hb4 hb03 hb3 hT hb0
          refine wpAnyH_done (by kernel_rfl) ?_ _
          go_wp2_with fail
          go_roundw
          case rel => exact ⟨k + 1, by omega, by go_num, by rw [HS.out]; go_num, HT4, HB4⟩
          case measure => simp [intOf]; omega
      · obtain rfl : k = N + 1 := by omega
        go_wp2_with fail
        go_ret2
        exact ⟨rfl, HB3.out⟩
  · have hK : KernelsPost n l w = fun e w' => e = .returned (.tuple #[.int .i64 0, .int .i64 (ofE n l)]) ∧ Below w.heap.size w w' := by funext e w'; simp [KernelsPost, he]
    rw [hK]
    have hb : (ofE n l != 0) = true := bne_iff_ne.2 he
    have hb' : (ofE n l == 0) = false := beq_eq_false_iff_ne.2 he
    clear hK he
    generalize ofE n l = er at *
    go_enter Try.func24, Try.ntmps24
    go_wp2_with fail
    refine HO.out.mono ?_
    rintro e w1 ⟨rfl, hb⟩
    have HB := Aside0.mk hb
    clear hb HO
    go_wp2_with (refine wpList_store_row rfl 50 _ _ rfl w1.heap.size (ofA n l) rfl rfl 50 (tnN 0 zero12) (heap_alloc_new w1 _) (by rw [info50, HZ.out]) (by rw [HZ.out]; rfl) H1.out ?_)
    go_ret2
    exact ⟨rfl, by rw [World.setRow_alloc_new]; exact below_alloc HB.out _⟩
end Go.Proofs.Ytmobefgnkiboaaa.Im

namespace Go.Proofs.Ytmobefgnkiboaaa.Im
open Go.RowKit Go.Proofs.YtmobefgnkiboaaaW.PrintWords Go.Proofs.YtmobefgnkiboaaaW.PrintLast Go.Proofs.YtmobefgnkiboaaaW.PrintMore
set_option linter.unusedVariables false
/-- The j-th number of a list is a person, and above the one before. -/
def ascAt (n : Nat) (l : List Int) (j : Nat) : Prop := 0 ≤ rd l j ∧ rd l j < n ∧ (0 < j → rd l ((j : Int) - 1) < rd l j)
def AscTo (n : Nat) (l : List Int) (k : Nat) : Prop := ∀ j, j < k → ascAt n l j
instance (n : Nat) (l : List Int) (j : Nat) : Decidable (ascAt n l j) := by unfold ascAt; infer_instance
instance (n : Nat) (l : List Int) (k : Nat) : Decidable (AscTo n l k) := by unfold AscTo; infer_instance
def setOf (l : List Int) : Nat := l.foldl (fun s x => s ||| 2 ^ x.toNat) 0
theorem setOf_snoc (l : List Int) (k : Nat) (h : k < l.length) : setOf (l.take (k + 1)) = setOf (l.take k) ||| 2 ^ (rd l k).toNat := by
  rw [List.take_succ_eq_append_getElem h]
  unfold setOf
  rw [List.foldl_append]
  simp [rd, h]
theorem setOf_lt (n : Nat) (l : List Int) : ∀ k, k ≤ l.length → AscTo n l k → setOf (l.take k) < 2 ^ n := by
  intro k
  induction k with
  | zero => intro _ _; simp [setOf]; exact Nat.two_pow_pos n
  | succ k ih =>
    intro hk h
    rw [setOf_snoc l k (by omega)]
    have h1 := ih (by omega) (fun j hj => h j (by omega))
    have h2 := h k (by omega)
    exact Nat.or_lt_two_pow h1 (Nat.pow_lt_pow_right (by decide) (by have := h2.1; have := h2.2.1; omega))
def listedV (n : Nat) (l : List Int) : Value := if AscTo n l l.length then .tuple #[.int .i64 (setOf l : Nat), .bool true] else .tuple #[.int .i64 0, .bool false]
theorem AscTo.succ {n : Nat} {l : List Int} {k : Nat} (h : AscTo n l k) (h1 : ascAt n l k) : AscTo n l (k + 1) := fun j hj => by
  rcases Nat.lt_or_ge j k with hlt | hge
  · exact h j hlt
  · obtain rfl : j = k := by omega
    exact h1
theorem listed_no {n : Nat} {l : List Int} {k : Nat} (hk : k < l.length) (h : ¬ ascAt n l k) : listedV n l = .tuple #[.int .i64 0, .bool false] := by
  rw [listedV, if_neg (fun h' => h (h' k hk))]
set_option maxHeartbeats 1600000 in
set_option maxRecDepth 100000 in
theorem listed_any (n : Nat) (o : List Nat) (A : Option Addr) (c : Nat) (l : List Int) (w : World) (ok : Okt n o) (hr : Kd.C (Kd.int .i64) w A l.length l) (hc : l.length ≤ c) (hl : l.length < 4611686018427387904) :
    Calls Try.prog 70 #[.agg (tnN n o), .slice A l.length c] w fun e w' => e = .returned (listedV n l) ∧ Below w.heap.size w w' := by
  have HR := Aside0.mk hr
  have HK := Aside0.mk ok
  have n12 := ok.n12
  have c0 : (w.alloc (.cells (tnN n o) 50)).cell? ⟨w.heap.size, 0, none⟩ = some (.int .i64 n) := (Blk.new w 50 (tnN n o)).cell 0
  have C0 := Aside0.mk c0
  clear hr ok c0
  go_enter Try.func70, Try.ntmps70
  go_wp2_with fail
  go_loopw [6, 11] (fun v6 v wr => ∃ k : Nat, k ≤ l.length ∧ v = .int .i64 (k : Int) ∧ v6 = .int .i64 (setOf (l.take k) : Nat) ∧ Aside0 (AscTo n l k) ∧ wr = w.alloc (.cells (tnN n o) 50)) (fun _ v _ => l.length - (intOf v).toNat)
  case atStart => exact ⟨0, Nat.zero_le _, rfl, rfl, ⟨fun j hj => absurd hj (by omega)⟩, rfl⟩
  case round =>
    obtain ⟨k, hk, rfl, rfl, HA, rfl⟩ := hrel
    have c0 := C0.out
    by_cases hkl : k < l.length
    · obtain ⟨ad, rfl, cx⟩ := Kd.at_int HR.out (k : Int) (by omega) (by omega)
      have hlt := World.block_lt_of_cell? w _ cx
      replace cx := (World.cell?_alloc_lt w (.cells (tnN n o) 50) _ hlt).trans cx
      simp only [Int.toNat_natCast] at cx
      have hprev : 0 < k → (w.alloc (.cells (tnN n o) 50)).cell? (ad.add (k - 1)) = some (.int .i64 (rd l ((k : Int) - 1))) := fun hk0 => by
        obtain ⟨ad', e', cy⟩ := Kd.at_int HR.out ((k : Int) - 1) (by omega) (by omega)
        cases e'
        have h2 := World.block_lt_of_cell? w _ cy
        have := (World.cell?_alloc_lt w (.cells (tnN n o) 50) _ h2).trans cy
        rwa [show ((k : Int) - 1).toNat = k - 1 by omega] at this
      obtain ⟨x, hx⟩ : ∃ x, rd l (k : Int) = x := ⟨_, rfl⟩
      rw [hx] at cx
      have HX := Aside0.mk hx
      clear hx
      by_cases a1 : x < 0
      · have HF := Aside0.mk (listed_no hkl (show ¬ ascAt n l k by intro h; have := h.1; rw [HX.out] at this; omega))
        clear hprev
        go_wp2_with fail
        go_ret2
        exact ⟨by rw [HF.out]; rfl, below_alloc (Below.refl _ _) _⟩
      · by_cases a2 : (n : Int) ≤ x
        · have HF := Aside0.mk (listed_no hkl (show ¬ ascAt n l k by intro h; have := h.2.1; rw [HX.out] at this; omega))
          clear hprev
          go_wp2_with fail
          go_ret2
          exact ⟨by rw [HF.out]; rfl, below_alloc (Below.refl _ _) _⟩
        · obtain ⟨x, rfl⟩ : ∃ y : Nat, x = y := ⟨x.toNat, by omega⟩
          have hs := setOf_snoc l k hkl
          have hb := setOf_lt n l k hk HA.out
          have hx62 : 2 ^ x < 2 ^ 62 := Nat.pow_lt_pow_right (by decide) (by omega)
          have hs2 : ((setOf (l.take (k + 1)) : Nat) : Int) = bits .or .i64 (setOf (l.take k) : Nat) (wrap64 (2 ^ x)) := by
            rw [wr_pow x (by omega), b_or _ _ (lt62_of n12 hb) hx62, hs, HX.out, Int.toNat_natCast]
          have HS := Aside0.mk hs2
          clear hs hb hs2 hx62
          by_cases a3 : k = 0
          · subst a3
            have cx0 : (w.alloc (.cells (tnN n o) 50)).cell? ad = some (.int .i64 (x : Nat)) := by simpa [Addr.add] using cx
            clear cx
            have HA1 := Aside0.mk (HA.out.succ ⟨by rw [HX.out]; omega, by rw [HX.out]; omega, fun h => absurd h (by omega)⟩)
            clear hprev
            generalize setOf (List.take 0 l) = s0 at *
            go_wp2_with fail
            go_roundw
            case rel => exact ⟨1, by omega, by go_num, by rw [HS.out], HA1, trivial⟩
            case measure => simp [intOf]; omega
          · have cp := hprev (by omega)
            clear hprev
            have k0 : (0 : Int) < k := by omega
            obtain ⟨y, hy⟩ : ∃ y, rd l ((k : Int) - 1) = y := ⟨_, rfl⟩
            rw [hy] at cp
            have HY := Aside0.mk hy
            clear hy
            have k1 : ((k : Int) - 1).toNat = k - 1 := by omega
            by_cases a4 : (x : Int) ≤ y
            · have HF := Aside0.mk (listed_no hkl (show ¬ ascAt n l k by intro h; have := h.2.2 (by omega); rw [HX.out, HY.out] at this; omega))
              go_wp2_with fail
              go_ret2
              exact ⟨by rw [HF.out]; rfl, below_alloc (Below.refl _ _) _⟩
            · have HA1 := Aside0.mk (HA.out.succ ⟨by rw [HX.out]; omega, by rw [HX.out]; omega, fun h => by rw [HX.out, HY.out]; omega⟩)
              generalize setOf (List.take k l) = s0 at *
              go_wp2_with fail
              go_roundw
              case rel => exact ⟨k + 1, by omega, by go_num, by rw [HS.out], HA1, trivial⟩
              case measure => simp [intOf]; omega
    · obtain rfl : k = l.length := by omega
      have HF := Aside0.mk (show listedV n l = .tuple #[.int .i64 (setOf l : Nat), .bool true] from if_pos HA.out)
      have htk : setOf (l.take l.length) = setOf l := by rw [List.take_length]
      rw [htk]
      clear htk
      go_wp2_with fail
      go_ret2
      exact ⟨by rw [HF.out]; rfl, below_alloc (Below.refl _ _) _⟩
def isB (n : Nat) (o : List Nat) (l : List Int) : Bool := decide (AscTo n l l.length) && kerB n o (setOf l) (2 ^ n - 1)
def IsPost (n : Int) (l : List S43) (s : List Int) (w : World) (e : Ending) (w' : World) : Prop :=
  e = .returned (.tuple #[.bool (if ofE n l = 0 then isB n.toNat (townO l) s else false), .int .i64 (ofE n l)]) ∧ Below w.heap.size w w'
set_option maxHeartbeats 3200000 in
set_option maxRecDepth 100000 in
theorem Is_any (n : Int) (A : Option Addr) (c : Nat) (l : List S43) (B : Option Addr) (d : Nat) (s : List Int) (w : World) (hr : Kd.C k43 w A l.length l) (hc : l.length ≤ c)
    (hr2 : Kd.C (Kd.int .i64) w B s.length s) (hd : s.length ≤ d) (hs : s.length < 4611686018427387904) :
    Calls Try.prog 32 #[.int .i64 n, .slice A l.length c, .slice B s.length d] w (IsPost n l s w) := by
  have HO := Aside0.mk (of_A n A c l w hr hc)
  have HZ := Aside0.mk (ofA_size n l)
  have H1 := Aside0.mk (ofA_one n l)
  have HR2 := Aside0.mk hr2
  clear hr hc hr2
  by_cases he : ofE n l = 0
  · have ok := okt_of he
    have hA : ofA n l = tnN n.toNat (townO l) := by rw [ofA, if_pos he]
    have hK : IsPost n l s w = fun e w' => e = .returned (.tuple #[.bool (isB n.toNat (townO l) s), .int .i64 0]) ∧ Below w.heap.size w w' := by funext e w'; simp [IsPost, he]
    rw [hK]
    rw [hA] at HO HZ H1
    rw [he] at HO
    clear he hA hK
    generalize townO l = o at *
    generalize n.toNat = m at *
    have HK := Aside0.mk ok
    have n12 := ok.n12
    have hpn := pow12_lt m n12
    clear ok
    by_cases ha : AscTo m s s.length
    · have hS := Nat.lt_of_lt_of_le (by have := setOf_lt m s s.length (Nat.le_refl _) ha; rwa [List.take_length] at this) (Nat.pow_le_pow_right (by decide) n12 : 2 ^ m ≤ 2 ^ 12)
      have hB : isB m o s = kerB m o (setOf s) (2 ^ m - 1) := by simp [isB, ha]
      have hL : listedV m s = .tuple #[.int .i64 (setOf s : Nat), .bool true] := if_pos ha
      rw [hB]
      have HLt := Aside0.mk (fun w' h => hL ▸ listed_any m o B d s w' HK.out h hd hs)
      clear hB hL ha
      generalize setOf s = S at *
      obtain ⟨b, hb⟩ : ∃ b, kerB m o S (2 ^ m - 1) = b := ⟨_, rfl⟩
      rw [hb]
      have HQ := Aside0.mk hb
      have HEv := Aside0.mk (fun w => everybody_any m o w n12)
      clear hb
      go_enter Try.func32, Try.ntmps32
      go_wp2_with fail
      refine HO.out.mono ?_
      rintro e w1 ⟨rfl, hb⟩
      have HB := Aside0.mk hb
      clear hb HO
      have HT : Aside0 (TnN (w1.alloc (.cells (tnN m o) 50)) w1.heap.size m o) := ⟨Blk.new _ _ _⟩
      have HB1 := Aside0.mk (below_alloc HB.out (.cells (tnN m o) 50))
      go_wp2_with (first | (refine wpList_store_row rfl 50 _ _ rfl w1.heap.size (tnN m o) rfl rfl 50 (tnN 0 zero12) (heap_alloc_new w1 _) (by rw [info50, HZ.out]) (by rw [HZ.out]; rfl) H1.out ?_; rw [World.setRow_alloc_new]) | (refine wpList_load_row rfl 50 _ rfl w1.heap.size rfl 50 (tnN m o) (0, 0) _ HT.out Try.underlying50 rfl (by rw [info50, HZ.out]) ?_))
      refine (HLt.out _ (Kd.C_below HR2.out (HB1.out))).mono ?_
      rintro e w2 ⟨rfl, hb2⟩
      have HB2 := Aside0.mk (below_then HB1.out HB1.out.size hb2)
      have HT2 := Aside0.mk (Blk.later HT.out hb2)
      clear hb2
      go_wp2_with fail
      refine wp_region_held (S := fun wx => TnN wx w1.heap.size m o ∧ Below w.heap.size w wx) (by kernel_rfl) ?_
      have hT := Aside0.mk (Blk.drew HT2.out)
      have hb0 := Aside0.mk (below_drew HB2.out)
      refine tk (i := 0) 27 (v := .bool true) rfl rfl (by kernel_rfl) (by kernel_rfl) (by kernel_rfl) (fun _ _ _ h => h) (by kernel_rfl) (fun wx _ => by kernel_rfl) ⟨hT.out, hb0.out⟩ ?_
      simp only [pt_lit, List.set_cons_succ, List.set_cons_zero]
      refine tk (i := 1) 28 (v := .bool true) rfl rfl (by kernel_rfl) (by kernel_rfl) (by kernel_rfl) (fun _ _ _ h => h) (by kernel_rfl) (fun wx _ => by kernel_rfl) ⟨hT.out, hb0.out⟩ ?_
      simp only [pt_lit, List.set_cons_succ, List.set_cons_zero]
      refine tk (i := 2) 29 rfl rfl (by kernel_rfl) (by kernel_rfl) (by kernel_rfl) (fun _ _ _ h => h) (by kernel_rfl) (ld_tn _ rfl w1.heap.size m o rfl HK.out.len (fun _ h => h.1)) ⟨hT.out, hb0.out⟩ ?_
      simp only [pt_lit, List.set_cons_succ, List.set_cons_zero]
      refine tk (i := 3) 30 (v := .int .i64 (S : Nat)) rfl rfl (by kernel_rfl) (by kernel_rfl) (by kernel_rfl) (fun _ _ _ h => h) (by kernel_rfl) (fun wx _ => by kernel_rfl) ⟨hT.out, hb0.out⟩ ?_
      simp only [pt_lit, List.set_cons_succ, List.set_cons_zero]
      refine tk (i := 4) 31 rfl rfl (by kernel_rfl) (by kernel_rfl) (by kernel_rfl) (fun _ _ _ h => h) (by kernel_rfl) (ld_tn _ rfl w1.heap.size m o rfl HK.out.len (fun _ h => h.1)) ⟨hT.out, hb0.out⟩ ?_
      simp only [pt_lit, List.set_cons_succ, List.set_cons_zero]
      refine rc (i := 5) 32 (f := 57) (args := #[.agg (tnN m o)]) (by kernel_rfl) rfl rfl (by kernel_rfl) (by kernel_rfl) ?_
      refine (HEv.out _).mono ?_
      rintro e w3 ⟨rfl, hb3⟩
      have hb03 := below_then hb0.out hb0.out.size hb3
      refine ⟨_, rfl, ⟨Blk.later hT.out hb3, hb03⟩, ?_⟩
      simp only [pt_lit, List.set_cons_succ, List.set_cons_zero]
      refine rc (i := 6) 33 (f := 56) (args := #[.agg (tnN m o), .int .i64 (S : Nat), .int .i64 (2 ^ m - 1 : Nat)]) (by kernel_rfl) rfl rfl (by kernel_rfl) (by kernel_rfl) ?_
      refine (kernel_b HQ.out _ HK.out (by omega) (by omega)).mono ?_
      rintro e w4 ⟨rfl, hb4⟩
      have HB4 := Aside0.mk (below_then hb03 hb03.size hb4)
      have HT4 := Aside0.mk (Blk.later (Blk.later hT.out hb3) hb4)
      refine ⟨_, rfl, ⟨HT4.out, HB4.out⟩, ?_⟩
      clear hb4 hb03 hb3 hT hb0
      simp only [pt_lit, List.set_cons_succ, List.set_cons_zero]
      refine tk (i := 7) 34 (v := .bool b) rfl rfl (by kernel_rfl) (by kernel_rfl) (by kernel_rfl) (fun _ _ _ h => h) (by kernel_rfl) (fun wx _ => by kernel_rfl) ⟨HT4.out, HB4.out⟩ ?_
      simp only [pt_lit, List.set_cons_succ, List.set_cons_zero]
      refine rv (i := 8) 6 (v := .bool b) (w' := w4) (by kernel_rfl) rfl rfl (by kernel_rfl) (by kernel_rfl) ⟨HT4.out, HB4.out⟩ ?_
      simp only [pt_lit, List.set_cons_succ, List.set_cons_zero]
      refine rv (i := 9) 7 (v := .int .i64 0) (w' := w4) (by kernel_rfl) rfl rfl (by kernel_rfl) (by kernel_rfl) ⟨HT4.out, HB4.out⟩ ?_
      simp only [pt_lit, List.set_cons_succ, List.set_cons_zero]
      refine wpAnyH_done (by kernel_rfl) ?_ _
      go_wp2_with fail
      go_ret2
      exact ⟨rfl, HB4.out⟩
    · have hB : isB m o s = false := by simp [isB, ha]
      have hL : listedV m s = .tuple #[.int .i64 0, .bool false] := if_neg ha
      rw [hB]
      have HLt := Aside0.mk (fun w' h => hL ▸ listed_any m o B d s w' HK.out h hd hs)
      clear hB hL ha
      go_enter Try.func32, Try.ntmps32
      go_wp2_with fail
      refine HO.out.mono ?_
      rintro e w1 ⟨rfl, hb⟩
      have HB := Aside0.mk hb
      clear hb HO
      have HT : Aside0 (TnN (w1.alloc (.cells (tnN m o) 50)) w1.heap.size m o) := ⟨Blk.new _ _ _⟩
      have HB1 := Aside0.mk (below_alloc HB.out (.cells (tnN m o) 50))
      go_wp2_with (first | (refine wpList_store_row rfl 50 _ _ rfl w1.heap.size (tnN m o) rfl rfl 50 (tnN 0 zero12) (heap_alloc_new w1 _) (by rw [info50, HZ.out]) (by rw [HZ.out]; rfl) H1.out ?_; rw [World.setRow_alloc_new]) | (refine wpList_load_row rfl 50 _ rfl w1.heap.size rfl 50 (tnN m o) (0, 0) _ HT.out Try.underlying50 rfl (by rw [info50, HZ.out]) ?_))
      refine (HLt.out _ (Kd.C_below HR2.out (HB1.out))).mono ?_
      rintro e w2 ⟨rfl, hb2⟩
      have HB2 := Aside0.mk (below_then HB1.out HB1.out.size hb2)
      clear hb2
      go_wp2_with fail
      go_quiet (fail)
      go_wp2_with fail
      go_ret2
      exact ⟨rfl, pw_below_drewN HB2.out _⟩
  · have hK : IsPost n l s w = fun e w' => e = .returned (.tuple #[.bool false, .int .i64 (ofE n l)]) ∧ Below w.heap.size w w' := by funext e w'; simp [IsPost, he]
    rw [hK]
    have hb : (ofE n l != 0) = true := bne_iff_ne.2 he
    have hb' : (ofE n l == 0) = false := beq_eq_false_iff_ne.2 he
    clear hK he
    generalize ofE n l = er at *
    go_enter Try.func32, Try.ntmps32
    go_wp2_with fail
    refine HO.out.mono ?_
    rintro e w1 ⟨rfl, hb⟩
    have HB := Aside0.mk hb
    clear hb HO
    go_wp2_with (refine wpList_store_row rfl 50 _ _ rfl w1.heap.size (ofA n l) rfl rfl 50 (tnN 0 zero12) (heap_alloc_new w1 _) (by rw [info50, HZ.out]) (by rw [HZ.out]; rfl) H1.out ?_)
    go_ret2
    exact ⟨rfl, by rw [World.setRow_alloc_new]; exact below_alloc HB.out _⟩
end Go.Proofs.Ytmobefgnkiboaaa.Im
namespace Go.Proofs.Ytmobefgnkiboaaa.Im
open Go.RowKit Go.Proofs.YtmobefgnkiboaaaW.PrintWords Go.Proofs.YtmobefgnkiboaaaW.PrintLast Go.Proofs.YtmobefgnkiboaaaW.PrintMore
set_option linter.unusedVariables false
def NotIn (l : List Int) (x : Int) (k : Nat) : Prop := ∀ j, j < k → rd l j ≠ x
def hasI (l : List Int) (x : Int) : Bool := l.contains x
theorem hasI_no {l : List Int} {x : Int} (h : NotIn l x l.length) : hasI l x = false := by
  unfold hasI
  rw [← Bool.not_eq_true]
  intro hc
  obtain ⟨i, hi, he⟩ := List.getElem_of_mem (List.contains_iff_mem.1 hc)
  exact h i hi (by simp [rd, hi, he])
theorem hasI_yes {l : List Int} {x : Int} {k : Nat} (hk : k < l.length) (h : rd l k = x) : hasI l x = true := by
  unfold hasI
  rw [List.contains_iff_mem]
  rw [← h]
  simp [rd, hk]
def IdxPost (l : List Int) (x : Int) (w : World) (e : Ending) (w' : World) : Prop :=
  ∃ r : Int, e = .returned (.int .i64 r) ∧ (decide (r ≥ 0) = hasI l x) ∧ w = w'
set_option maxHeartbeats 1600000 in
theorem index_any (A : Option Addr) (c : Nat) (l : List Int) (x : Int) (w : World) (hr : Kd.C (Kd.int .i64) w A l.length l) (hc : l.length ≤ c) (hl : l.length < 4611686018427387904) :
    Calls Try.prog 89 #[.slice A l.length c, .int .i64 x] w (IdxPost l x w) := by
  have HR := Aside0.mk hr
  clear hr
  go_enter Try.func89, Try.ntmps89
  go_wp2_with fail
  go_loop [8] (fun v => ∃ k : Nat, k ≤ l.length ∧ v = .int .i64 (k : Int) ∧ Aside0 (NotIn l x k)) (fun v => l.length - (intOf v).toNat)
  case atStart => exact ⟨0, Nat.zero_le _, rfl, ⟨fun j hj => absurd hj (by omega)⟩⟩
  case round =>
    obtain ⟨k, hk, rfl, HN⟩ := hrel
    by_cases hkl : k < l.length
    · obtain ⟨ad, rfl, cx⟩ := Kd.at_int HR.out (k : Int) (by omega) (by omega)
      simp only [Int.toNat_natCast] at cx
      obtain ⟨y, hy⟩ : ∃ y, rd l (k : Int) = y := ⟨_, rfl⟩
      rw [hy] at cx
      by_cases he : x = y
      · have HF := Aside0.mk (hasI_yes hkl (hy.trans he.symm))
        have hb : (x == y) = true := beq_iff_eq.2 he
        clear he hy
        go_wp2_with fail
        go_ret
        exact ⟨k, rfl, by rw [HF.out]; simp, rfl⟩
      · have HN1 : Aside0 (NotIn l x (k + 1)) := ⟨fun j hj => by
          rcases Nat.lt_or_ge j k with hlt | hge
          · exact HN.out j hlt
          · obtain rfl : j = k := by omega
            rw [hy]; exact fun e => he e.symm⟩
        have hb : (x == y) = false := beq_eq_false_iff_ne.2 he
        clear he hy
        go_wp2_with fail
        go_round
        case rel => exact ⟨k + 1, by omega, by go_num, HN1⟩
        case measure => simp [intOf]; omega
    · obtain rfl : k = l.length := by omega
      have HF := Aside0.mk (hasI_no HN.out)
      go_wp2_with fail
      go_ret
      exact ⟨-1, rfl, by rw [HF.out]; rfl, rfl⟩
theorem contains_any (A : Option Addr) (c : Nat) (l : List Int) (x : Int) (w : World) (hr : Kd.C (Kd.int .i64) w A l.length l) (hc : l.length ≤ c) (hl : l.length < 4611686018427387904) :
    Calls Try.prog 66 #[.slice A l.length c, .int .i64 x] w fun e w' => e = .returned (.bool (hasI l x)) ∧ w = w' := by
  have HI := Aside0.mk (index_any A c l x w hr hc hl)
  clear hr
  go_enter Try.func66, Try.ntmps66
  go_wp2_with fail
  refine HI.out.mono ?_
  rintro e w' ⟨r, rfl, hr, rfl⟩
  have HR := Aside0.mk hr
  clear hr
  go_wp2_with fail
  go_ret
  exact ⟨by rw [← HR.out]; rfl, rfl⟩
end Go.Proofs.Ytmobefgnkiboaaa.Im
namespace Go.Proofs.Ytmobefgnkiboaaa.Im
open Go.RowKit Go.Proofs.YtmobefgnkiboaaaW.PrintWords Go.Proofs.YtmobefgnkiboaaaW.PrintLast Go.Proofs.YtmobefgnkiboaaaW.PrintMore
set_option linter.unusedVariables false
/-- A way that goes on for so many people, and closes. -/
def oddF (o : List Nat) : Nat → List Nat → Option (List Nat)
  | 0, way => if (o.getD (way.getLastD 0) 0).testBit (way.headD 0) then some way else none
  | d + 1, way => (memL (o.getD (way.getLastD 0) 0)).findSome? fun j => if way.contains j then none else oddF o d (way ++ [j])
/-- What such a search hands back. -/
def FoundP (w : World) (r : Option (List Nat)) (e : Ending) (w' : World) : Prop :=
  match r with
  | some l => ∃ A c, e = .returned (.slice (some A) (ints l).length c) ∧ (ints l).length ≤ c ∧ Kd.C (Kd.int .i64) w' (some A) (ints l).length (ints l) ∧ Below w.heap.size w w'
  | none => e = .returned (.slice none 0 0) ∧ Below w.heap.size w w'
theorem memF_lt (p : Nat) : ∀ d i x, x ∈ memF p d i → x < d + i ∧ p.testBit x = true
  | 0, _, _, h => by simp [memF] at h
  | d + 1, i, x, h => by
    rw [memF] at h
    split at h
    · rename_i hb
      rcases List.mem_cons.1 h with rfl | h
      · exact ⟨by omega, hb⟩
      · obtain ⟨h1, h2⟩ := memF_lt p d (i + 1) x h
        exact ⟨by omega, h2⟩
    · obtain ⟨h1, h2⟩ := memF_lt p d (i + 1) x h
      exact ⟨by omega, h2⟩
theorem memL_lt {p x : Nat} (h : x ∈ memL p) : x < 12 := by
  have := (memF_lt p _ _ x h).1; omega
theorem memF_len (p : Nat) : ∀ d i, (memF p d i).length ≤ d
  | 0, _ => by simp [memF]
  | d + 1, i => by
    rw [memF]
    split
    · simp only [List.length_cons]; have := memF_len p d (i + 1); omega
    · have := memF_len p d (i + 1); omega
theorem memL_len (p : Nat) : (memL p).length ≤ 12 := memF_len p 12 0
theorem hasI_ints (l : List Nat) (j : Nat) : hasI (ints l) (j : Int) = l.contains j := by
  unfold hasI ints
  rw [Bool.eq_iff_iff, List.contains_iff_mem, List.contains_iff_mem, List.mem_map]
  constructor
  · rintro ⟨x, hx, he⟩
    have : x = j := by exact_mod_cast he
    rwa [← this]
  · exact fun h => ⟨j, h, rfl⟩
theorem ints_snoc (l : List Nat) (j : Nat) : ints (l ++ [j]) = ints l ++ [(j : Int)] := by simp [ints]
def noneTo (l : List Nat) (g : Nat → Option (List Nat)) (k : Nat) : Prop := (l.take k).findSome? g = none
theorem noneTo_zero (l : List Nat) (g : Nat → Option (List Nat)) : noneTo l g 0 := by simp [noneTo]
theorem noneTo_succ {l : List Nat} {g : Nat → Option (List Nat)} {k : Nat} (h : noneTo l g k) (hk : k < l.length) (h1 : g l[k] = none) : noneTo l g (k + 1) := by
  unfold noneTo at *
  rw [List.take_succ_eq_append_getElem hk, List.findSome?_append, h]
  simp [h1]
theorem noneTo_some {l : List Nat} {g : Nat → Option (List Nat)} {k : Nat} {r : List Nat} (h : noneTo l g k) (hk : k < l.length) (h1 : g l[k] = some r) : l.findSome? g = some r := by
  unfold noneTo at h
  have e : l = l.take k ++ l[k] :: l.drop (k + 1) := by simp
  have e2 : (l[k] :: l.drop (k + 1)).findSome? g = some r := by rw [List.findSome?_cons, h1]
  rw [e, List.findSome?_append, h, e2]
  rfl
theorem noneTo_all {l : List Nat} {g : Nat → Option (List Nat)} (h : noneTo l g l.length) : l.findSome? g = none := by
  unfold noneTo at h
  rwa [List.take_length] at h
/-- A load of one cell. -/
theorem ex_load1 {a : Act} {o : Oper} {t : TypeId} {x : Operand} (ho : o.op = .load t x) (w : World) (ad : Addr) (v : Value) (hx : a.eval x = .pointer (some ad)) (hc : w.cell? ad = some v) (ht : ∀ w, (isAgg t).run Try.prog w = .ok false w) :
    (execOp a.eval o).run Try.prog w = .ok (.value v) w := by
  have hl : (Instr.loadAt t (.pointer (some ad))).run Try.prog w = .ok v w := by simp [Instr.loadAt, Instr.sureAddr, loadVar, ht, Sem.run_bind, Result.andThen, go_sem, hc]
  unfold execOp
  simp [ho, hx, hl, Result.andThen]
/-- The three boxes of the search. -/
structure OddB (w : World) (gt gl go n long : Nat) (o : List Nat) : Prop where
  bt : TnN w gt n o
  bl : Blk w gl 3 #[.int .i64 (long : Nat)]
  bo : Blk w go 54 #[.func (.func 65) #[] #[.pointer (some ⟨gt, 0, none⟩), .pointer (some ⟨gl, 0, none⟩), .pointer (some ⟨go, 0, none⟩)]]
theorem OddB.later {w w' : World} {gt gl go n long : Nat} {o : List Nat} (h : OddB w gt gl go n long o) (hb : Below w.heap.size w w') : OddB w' gt gl go n long o :=
  ⟨Blk.later h.bt hb, h.bl.later hb, h.bo.later hb⟩
set_option maxHeartbeats 3200000 in
set_option maxRecDepth 100000 in
theorem odd1_any (gt gl go n long : Nat) (o : List Nat) (ok : Okt n o) (hlong : long ≤ 12) (d : Nat) :
    ∀ (way : List Nat) (A : Option Addr) (c : Nat) (w : World), way.length + d = long → 1 ≤ way.length → (∀ x ∈ way, x < 12) → OddB w gt gl go n long o →
      Kd.C (Kd.int .i64) w A (ints way).length (ints way) → (ints way).length ≤ c →
      Calls Try.prog 65 #[.slice A (ints way).length c, .pointer (some ⟨gt, 0, none⟩), .pointer (some ⟨gl, 0, none⟩), .pointer (some ⟨go, 0, none⟩)] w (FoundP w (oddF o d way)) := by
  induction d with
  | zero =>
    intro way A c w hl h1 hx hO hr hc
    have hlen : (ints way).length = way.length := ints_length way
    obtain ⟨ad, rfl⟩ := C_some hr (by omega)
    obtain ⟨_, e0, cl⟩ := Kd.at_int hr ((way.length : Int) - 1) (by omega) (by omega)
    cases e0
    obtain ⟨_, e0, cf⟩ := Kd.at_int hr 0 (by omega) (by omega)
    cases e0
    have hlast : rd (ints way) ((way.length : Int) - 1) = ((way.getLastD 0 : Nat) : Int) := by
      have : ((way.length : Int) - 1) = ((way.length - 1 : Nat) : Int) := by omega
      rw [this, rd_ints]
      congr 1
      rw [List.getD_eq_getElem?_getD, List.getLastD_eq_getLast?, List.getLast?_eq_getElem?]
    have hfirst : rd (ints way) 0 = ((way.headD 0 : Nat) : Int) := by
      have := rd_ints way 0
      rw [show ((0 : Nat) : Int) = 0 from rfl] at this
      rw [this]
      cases way <;> rfl
    rw [hlast, show ((way.length : Int) - 1).toNat = way.length - 1 by omega] at cl
    rw [hfirst] at cf
    have cf' : w.cell? ad = some (.int .i64 (way.headD 0 : Nat)) := by simpa [Addr.add] using cf
    have hla : way.getLastD 0 < 12 := by
      rw [List.getLastD_eq_getLast?]
      cases hg : way.getLast? with
      | none => simp
      | some x => exact hx x (List.mem_of_getLast? hg)
    have hfa : way.headD 0 < 12 := by
      cases way with
      | nil => simp
      | cons a l => exact hx a List.mem_cons_self
    have co := TnN.cellS hO.bt (way.getLastD 0) (by rw [ok.len]; omega)
    have hnx : o.getD (way.getLastD 0) 0 < 4096 := Nat.lt_of_lt_of_le (ok.lt _) (Nat.pow_le_pow_right (by decide) ok.n12 : 2 ^ n ≤ 2 ^ 12)
    have hF : oddF o 0 way = if (o.getD (way.getLastD 0) 0).testBit (way.headD 0) then some way else none := rfl
    rw [hF]
    clear hF cf hlast hfirst
    generalize way.getLastD 0 = la at *
    generalize way.headD 0 = fa at *
    generalize o.getD la 0 = nx at *
    have cg : w.cell? ⟨gl, 0, none⟩ = some (.int .i64 (long : Nat)) := hO.bl.cell 0
    rw [Nat.add_comm] at co
    have la0 : (0 : Int) ≤ la := by omega
    have la1 : (la : Int) < 12 := by omega
    have fa0 : (0 : Int) ≤ fa := by omega
    have wl0 : (0 : Int) ≤ (way.length : Int) - 1 := by omega
    have wl1 : ((way.length : Int) - 1).toNat = way.length - 1 := by omega
    have neq : ((way.length : Int) == (long : Int)) = true := beq_iff_eq.2 (by omega)
    have hb1 := b_bit1 nx fa (by omega)
    rw [hlen] at hr hc ⊢
    have HR := Aside0.mk hr
    clear hr hO hx
    cases hb : nx.testBit fa
    · rw [hb] at hb1
      rw [if_neg (by simp)]
      clear hb
      go_enter Try.func65, Try.ntmps65
      go_wp2_with fail
      go_ret
      exact ⟨rfl, Below.refl _ _⟩
    · rw [hb] at hb1
      rw [if_pos rfl]
      clear hb
      have HL := Aside0.mk hlen
      go_enter Try.func65, Try.ntmps65
      go_wp2_with fail
      go_ret
      exact ⟨ad, c, by rw [HL.out]; rfl, by rw [HL.out]; exact hc, by rw [HL.out]; exact HR.out, Below.refl _ _⟩
  | succ d ih =>
    intro way A c w hl h1 hx hO hr hc
    have IH := Aside0.mk ih
    clear ih
    have hlen : (ints way).length = way.length := ints_length way
    obtain ⟨ad, rfl⟩ := C_some hr (by omega)
    obtain ⟨_, e0, cl⟩ := Kd.at_int hr ((way.length : Int) - 1) (by omega) (by omega)
    cases e0
    have hlast : rd (ints way) ((way.length : Int) - 1) = ((way.getLastD 0 : Nat) : Int) := by
      have : ((way.length : Int) - 1) = ((way.length - 1 : Nat) : Int) := by omega
      rw [this, rd_ints]
      congr 1
      rw [List.getD_eq_getElem?_getD, List.getLastD_eq_getLast?, List.getLast?_eq_getElem?]
    rw [hlast, show ((way.length : Int) - 1).toNat = way.length - 1 by omega] at cl
    have hla : way.getLastD 0 < 12 := by
      rw [List.getLastD_eq_getLast?]
      cases hg : way.getLast? with
      | none => simp
      | some x => exact hx x (List.mem_of_getLast? hg)
    have co := TnN.cellS hO.bt (way.getLastD 0) (by rw [ok.len]; omega)
    have hnx : o.getD (way.getLastD 0) 0 < 4096 := Nat.lt_of_lt_of_le (ok.lt _) (Nat.pow_le_pow_right (by decide) ok.n12 : 2 ^ n ≤ 2 ^ 12)
    have hF : oddF o (d + 1) way = (memL (o.getD (way.getLastD 0) 0)).findSome? fun j => if way.contains j then none else oddF o d (way ++ [j]) := rfl
    rw [hF]
    clear hF
    generalize way.getLastD 0 = la at *
    generalize o.getD la 0 = nx at *
    have cg : w.cell? ⟨gl, 0, none⟩ = some (.int .i64 (long : Nat)) := hO.bl.cell 0
    rw [Nat.add_comm] at co
    have la0 : (0 : Int) ≤ la := by omega
    have la1 : (la : Int) < 12 := by omega
    have wl0 : (0 : Int) ≤ (way.length : Int) - 1 := by omega
    have wl1 : ((way.length : Int) - 1).toNat = way.length - 1 := by omega
    have neq : ((way.length : Int) == (long : Int)) = false := beq_eq_false_iff_ne.2 (by omega)
    rw [hlen] at hr hc ⊢
    have HR := Aside0.mk hr
    have HOO := Aside0.mk hO
    have HX := Aside0.mk hx
    have HM := Aside0.mk (fun w => members_any nx w hnx)
    clear hr hO hx hlast
    have hml := memL_len nx
    have HML := Aside0.mk (fun x (hx : x ∈ memL nx) => memL_lt hx)
    rw [show memL nx = mem12 nx 0 from rfl] at hml HML ⊢
    have qn : ∀ (w : World) (a : Option Addr) (n c n' c' : Nat), (binOp .neq 25 (.slice a n c) (.slice none n' c')).run Try.prog w = .ok (.bool (!a.isNone)) w := fun w a n c n' c' => run_neq_slice_nil_any w _ _ a n c n' c' Try.underlying25
    generalize mem12 nx 0 = M at *
    have hlm : (ints M).length = M.length := ints_length M
    obtain ⟨R, hR⟩ : ∃ R, (M.findSome? fun j => if way.contains j then none else oddF o d (way ++ [j])) = R := ⟨_, rfl⟩
    obtain ⟨gg, hgg⟩ : ∃ gg : Nat → Option (List Nat), gg = fun j => if way.contains j then none else oddF o d (way ++ [j]) := ⟨_, rfl⟩
    rw [← hgg] at hR
    have HGG := Aside0.mk (fun j => congrFun hgg j)
    have HRR := Aside0.mk hR
    rw [← hgg, hR]
    clear hgg hR
    go_enter Try.func65, Try.ntmps65
    go_wp2_with fail
    refine (HM.out w).mono ?_
    rintro e w1 ⟨v1, rfl, hr1, hb1⟩
    obtain ⟨A1, c1, rfl, hl1, hC1⟩ := Kd.R_reads hr1
    have HB1 := Aside0.mk hb1
    have HC1 := Aside0.mk hC1
    rw [hlm] at HC1 hl1 ⊢
    clear hr1 hb1 hC1 HM
    go_wp2_with fail
    go_loopw [34] (fun v wr => ∃ k : Nat, k ≤ M.length ∧ v = .int .i64 (k : Int) ∧ Aside0 (noneTo M gg k) ∧ Aside0 (Below w1.heap.size w1 wr)) (fun v _ => M.length - (intOf v).toNat)
    case atStart => exact ⟨0, Nat.zero_le _, rfl, ⟨noneTo_zero _ _⟩, ⟨Below.refl _ _⟩⟩
    case round =>
      obtain ⟨k, hk, rfl, HN, HB1r⟩ := hrel
      by_cases hkl : k < M.length
      · obtain ⟨ad1, rfl, cx⟩ := Kd.at_int HC1.out (k : Int) (by omega) (by omega)
        replace cx := (HB1r.out.cell (World.block_lt_of_cell? w1 _ cx)).trans cx
        rw [rd_ints, Int.toNat_natCast] at cx
        have hje : M.getD k 0 = M[k] := by simp [hkl]
        have hjn : M[k] < 12 := HML.out _ (List.getElem_mem hkl)
        rw [hje] at cx
        have HGk := Aside0.mk (HGG.out M[k])
        have HNN := Aside0.mk (fun h => noneTo_succ HN.out hkl h)
        have HNS := Aside0.mk (fun r h => noneTo_some (r := r) HN.out hkl h)
        generalize M[k] = jn at *
        have HBw := Aside0.mk (below_then HB1.out HB1.out.size HB1r.out)
        have HCt : Calls Try.prog 66 #[.slice (some ad) way.length c, .int .i64 (jn : Nat)] wr fun e w' => e = .returned (.bool (way.contains jn)) ∧ wr = w' := by
          have := contains_any (some ad) c (ints way) (jn : Nat) wr (by rw [hlen]; exact Kd.C_below HR.out HBw.out) (by rw [hlen]; exact hc) (by rw [hlen]; omega)
          rw [hasI_ints, hlen] at this
          exact this
        have HCC := Aside0.mk HCt
        clear HCt hje
        cases hct : way.contains jn
        · obtain ⟨ro, hro⟩ : ∃ ro, oddF o d (way ++ [jn]) = ro := ⟨_, rfl⟩
          have hgk := HGk.out
          rw [hct, hro, if_neg (by simp)] at hgk
          rw [hct] at HCC
          cases ro with
          | none =>
            have HN1 := Aside0.mk (HNN.out hgk)
            clear hgk HNN HNS HGk hct
            go_wp2_with fail
            refine HCC.out.mono ?_
            rintro e w2 ⟨rfl, rfl⟩
            go_wp2_with fail
            have HO2 := Aside0.mk (HOO.out.later (below_then HBw.out HBw.out.size (below_drew (Below.refl _ _))))
            have HB2 := Aside0.mk (below_drew HBw.out)
            have hb23 : Below wr.drew.heap.size wr.drew (wr.drew.alloc (.cells #[.int .i64 (jn : Nat)] 3)) := below_alloc (Below.refl _ _) _
            have HO3 := Aside0.mk (HO2.out.later hb23)
            have HB3 := Aside0.mk (below_then HB2.out HB2.out.size hb23)
            have HR3 := Aside0.mk (Kd.C_below HR.out HB3.out)
            have HB14 := Aside0.mk (below_then (below_drew HB1r.out) (below_drew HB1r.out).size hb23)
            clear hb23
            refine wp_region_held (S := fun wx => OddB wx gt gl go n long o ∧ Below w.heap.size w wx) (by kernel_rfl) ?_
            refine tk (i := 0) 42 (v := .func (.func 65) #[] #[.pointer (some ⟨gt, 0, none⟩), .pointer (some ⟨gl, 0, none⟩), .pointer (some ⟨go, 0, none⟩)]) rfl rfl (by kernel_rfl) (by kernel_rfl) (by kernel_rfl) (fun _ _ _ h => h) (by kernel_rfl) (fun wx h => ex_load1 rfl wx ⟨go, 0, none⟩ _ rfl (h.1.bo.cell 0) (fun w => by kernel_rfl)) ⟨HO2.out, HB2.out⟩ ?_
            simp only [pt_lit, List.set_cons_succ, List.set_cons_zero]
            refine tk (i := 1) 43 (v := .slice (some ad) way.length c) rfl rfl (by kernel_rfl) (by kernel_rfl) (by kernel_rfl) (fun _ _ _ h => h) (by kernel_rfl) (fun wx _ => by kernel_rfl) ⟨HO2.out, HB2.out⟩ ?_
            simp only [pt_lit, List.set_cons_succ, List.set_cons_zero]
            refine tk (i := 2) 44 (v := .slice (some ad) way.length c) rfl rfl (by kernel_rfl) (by kernel_rfl) (by kernel_rfl) (fun _ _ _ h => h) (by kernel_rfl) (fun wx _ => by kernel_rfl) ⟨HO2.out, HB2.out⟩ ?_
            simp only [pt_lit, List.set_cons_succ, List.set_cons_zero]
            refine tk (i := 3) 45 (v := .int .i64 (way.length : Nat)) rfl rfl (by kernel_rfl) (by kernel_rfl) (by kernel_rfl) (fun _ _ _ h => h) (by kernel_rfl) (fun wx _ => by kernel_rfl) ⟨HO2.out, HB2.out⟩ ?_
            simp only [pt_lit, List.set_cons_succ, List.set_cons_zero]
            refine tk (i := 4) 46 (v := .slice (some ad) way.length c) rfl rfl (by kernel_rfl) (by kernel_rfl) (by kernel_rfl) (fun _ _ _ h => h) (by kernel_rfl) (fun wx _ => by kernel_rfl) ⟨HO2.out, HB2.out⟩ ?_
            simp only [pt_lit, List.set_cons_succ, List.set_cons_zero]
            refine tk (i := 5) 47 (v := .int .i64 (way.length : Nat)) rfl rfl (by kernel_rfl) (by kernel_rfl) (by kernel_rfl) (fun _ _ _ h => h) (by kernel_rfl) (fun wx _ => by kernel_rfl) ⟨HO2.out, HB2.out⟩ ?_
            simp only [pt_lit, List.set_cons_succ, List.set_cons_zero]
            refine tk (i := 6) 48 (v := .slice (some ad) way.length way.length) rfl rfl (by kernel_rfl) (by kernel_rfl) (by kernel_rfl) (fun _ _ _ h => h) (by kernel_rfl) (fun wx _ => ex_slice3 rfl wx (some ad) way.length c rfl rfl rfl hc) ⟨HO2.out, HB2.out⟩ ?_
            simp only [pt_lit, List.set_cons_succ, List.set_cons_zero]
            refine tk (i := 7) 49 (v := .int .i64 (jn : Nat)) rfl rfl (by kernel_rfl) (by kernel_rfl) (by kernel_rfl) (fun _ _ _ h => h) (by kernel_rfl) (fun wx _ => by kernel_rfl) ⟨HO2.out, HB2.out⟩ ?_
            simp only [pt_lit, List.set_cons_succ, List.set_cons_zero]
            refine rv (i := 8) 50 (v := .slice (some ⟨wr.heap.size, 0, none⟩) 1 1) (w' := wr.drew.alloc (.cells #[.int .i64 (jn : Nat)] 3)) (by kernel_rfl) rfl rfl (by kernel_rfl) (by kernel_rfl) ⟨HO3.out, HB3.out⟩ ?_
            simp only [pt_lit, List.set_cons_succ, List.set_cons_zero]
            refine r_app1 (i := 9) 51 (by kernel_rfl) rfl rfl (by kernel_rfl) (s := .tmp 48) (x := .tmp 50) rfl rfl (some ad) (ints way) wr.heap.size (jn : Nat) (by rw [hlen]; rfl) rfl (by rw [hlen]; exact HR3.out) ((Blk.new wr.drew 3 #[.int .i64 (jn : Nat)]).cell 0) (by rw [hlen]; omega) (fun h => by cases h) ?_
            intro v4 w4 hr4 hb4
            rw [← ints_snoc] at hr4
            obtain ⟨A4, c4, rfl, hl4, hC4⟩ := Kd.R_reads hr4
            have HO4 := Aside0.mk (HO3.out.later hb4)
            have HB4 := Aside0.mk (below_then HB3.out HB3.out.size hb4)
            refine ⟨⟨HO4.out, HB4.out⟩, ?_⟩
            simp only [pt_lit, List.set_cons_succ, List.set_cons_zero]
            refine rc (i := 10) 52 (f := 65) (args := #[.slice A4 (ints (way ++ [jn])).length c4, .pointer (some ⟨gt, 0, none⟩), .pointer (some ⟨gl, 0, none⟩), .pointer (some ⟨go, 0, none⟩)]) (by kernel_rfl) rfl rfl (by kernel_rfl) (by kernel_rfl) ?_
            refine (IH.out (way ++ [jn]) A4 c4 _ (by rw [List.length_append]; simp; omega) (by rw [List.length_append]; simp) (fun x hx => by rcases List.mem_append.1 hx with h | h; exact HX.out x h; rw [List.mem_singleton.1 h]; exact hjn) HO4.out hC4 hl4).mono ?_
            rw [hro]
            clear hr4 hC4 hl4
            rintro e w5 ⟨rfl, hb5⟩
            have HO5 := Aside0.mk (HO4.out.later hb5)
            have HB5 := Aside0.mk (below_then HB4.out HB4.out.size hb5)
            have HB15 := Aside0.mk (below_then HB14.out HB14.out.size (below_then hb4 hb4.size hb5))
            refine ⟨_, rfl, ⟨HO5.out, HB5.out⟩, ?_⟩
            clear hb5 hb4
            simp only [pt_lit, List.set_cons_succ, List.set_cons_zero]
            refine rv (i := 11) 9 (v := .slice none 0 0) (w' := w5) (by kernel_rfl) rfl rfl (by kernel_rfl) (by kernel_rfl) ⟨HO5.out, HB5.out⟩ ?_
            simp only [pt_lit, List.set_cons_succ, List.set_cons_zero]
            refine wpAnyH_done (by kernel_rfl) ?_ _
            go_wp2_with fail
            go_roundw
            case rel => exact ⟨k + 1, by omega, by go_num, HN1, HB15⟩
            case measure => simp [intOf]; omega
          | some res =>
            have HF := Aside0.mk (HRR.out.symm.trans (HNS.out res hgk))
            clear hgk HNN HNS HGk hct
            go_wp2_with fail
            refine HCC.out.mono ?_
            rintro e w2 ⟨rfl, rfl⟩
            go_wp2_with fail
            have HO2 := Aside0.mk (HOO.out.later (below_then HBw.out HBw.out.size (below_drew (Below.refl _ _))))
            have HB2 := Aside0.mk (below_drew HBw.out)
            have hb23 : Below wr.drew.heap.size wr.drew (wr.drew.alloc (.cells #[.int .i64 (jn : Nat)] 3)) := below_alloc (Below.refl _ _) _
            have HO3 := Aside0.mk (HO2.out.later hb23)
            have HB3 := Aside0.mk (below_then HB2.out HB2.out.size hb23)
            have HR3 := Aside0.mk (Kd.C_below HR.out HB3.out)
            have HB14 := Aside0.mk (below_then (below_drew HB1r.out) (below_drew HB1r.out).size hb23)
            clear hb23
            refine wp_region_held (S := fun wx => OddB wx gt gl go n long o ∧ Below w.heap.size w wx) (by kernel_rfl) ?_
            refine tk (i := 0) 42 (v := .func (.func 65) #[] #[.pointer (some ⟨gt, 0, none⟩), .pointer (some ⟨gl, 0, none⟩), .pointer (some ⟨go, 0, none⟩)]) rfl rfl (by kernel_rfl) (by kernel_rfl) (by kernel_rfl) (fun _ _ _ h => h) (by kernel_rfl) (fun wx h => ex_load1 rfl wx ⟨go, 0, none⟩ _ rfl (h.1.bo.cell 0) (fun w => by kernel_rfl)) ⟨HO2.out, HB2.out⟩ ?_
            simp only [pt_lit, List.set_cons_succ, List.set_cons_zero]
            refine tk (i := 1) 43 (v := .slice (some ad) way.length c) rfl rfl (by kernel_rfl) (by kernel_rfl) (by kernel_rfl) (fun _ _ _ h => h) (by kernel_rfl) (fun wx _ => by kernel_rfl) ⟨HO2.out, HB2.out⟩ ?_
            simp only [pt_lit, List.set_cons_succ, List.set_cons_zero]
            refine tk (i := 2) 44 (v := .slice (some ad) way.length c) rfl rfl (by kernel_rfl) (by kernel_rfl) (by kernel_rfl) (fun _ _ _ h => h) (by kernel_rfl) (fun wx _ => by kernel_rfl) ⟨HO2.out, HB2.out⟩ ?_
            simp only [pt_lit, List.set_cons_succ, List.set_cons_zero]
            refine tk (i := 3) 45 (v := .int .i64 (way.length : Nat)) rfl rfl (by kernel_rfl) (by kernel_rfl) (by kernel_rfl) (fun _ _ _ h => h) (by kernel_rfl) (fun wx _ => by kernel_rfl) ⟨HO2.out, HB2.out⟩ ?_
            simp only [pt_lit, List.set_cons_succ, List.set_cons_zero]
            refine tk (i := 4) 46 (v := .slice (some ad) way.length c) rfl rfl (by kernel_rfl) (by kernel_rfl) (by kernel_rfl) (fun _ _ _ h => h) (by kernel_rfl) (fun wx _ => by kernel_rfl) ⟨HO2.out, HB2.out⟩ ?_
            simp only [pt_lit, List.set_cons_succ, List.set_cons_zero]
            refine tk (i := 5) 47 (v := .int .i64 (way.length : Nat)) rfl rfl (by kernel_rfl) (by kernel_rfl) (by kernel_rfl) (fun _ _ _ h => h) (by kernel_rfl) (fun wx _ => by kernel_rfl) ⟨HO2.out, HB2.out⟩ ?_
            simp only [pt_lit, List.set_cons_succ, List.set_cons_zero]
            refine tk (i := 6) 48 (v := .slice (some ad) way.length way.length) rfl rfl (by kernel_rfl) (by kernel_rfl) (by kernel_rfl) (fun _ _ _ h => h) (by kernel_rfl) (fun wx _ => ex_slice3 rfl wx (some ad) way.length c rfl rfl rfl hc) ⟨HO2.out, HB2.out⟩ ?_
            simp only [pt_lit, List.set_cons_succ, List.set_cons_zero]
            refine tk (i := 7) 49 (v := .int .i64 (jn : Nat)) rfl rfl (by kernel_rfl) (by kernel_rfl) (by kernel_rfl) (fun _ _ _ h => h) (by kernel_rfl) (fun wx _ => by kernel_rfl) ⟨HO2.out, HB2.out⟩ ?_
            simp only [pt_lit, List.set_cons_succ, List.set_cons_zero]
            refine rv (i := 8) 50 (v := .slice (some ⟨wr.heap.size, 0, none⟩) 1 1) (w' := wr.drew.alloc (.cells #[.int .i64 (jn : Nat)] 3)) (by kernel_rfl) rfl rfl (by kernel_rfl) (by kernel_rfl) ⟨HO3.out, HB3.out⟩ ?_
            simp only [pt_lit, List.set_cons_succ, List.set_cons_zero]
            refine r_app1 (i := 9) 51 (by kernel_rfl) rfl rfl (by kernel_rfl) (s := .tmp 48) (x := .tmp 50) rfl rfl (some ad) (ints way) wr.heap.size (jn : Nat) (by rw [hlen]; rfl) rfl (by rw [hlen]; exact HR3.out) ((Blk.new wr.drew 3 #[.int .i64 (jn : Nat)]).cell 0) (by rw [hlen]; omega) (fun h => by cases h) ?_
            intro v4 w4 hr4 hb4
            rw [← ints_snoc] at hr4
            obtain ⟨A4, c4, rfl, hl4, hC4⟩ := Kd.R_reads hr4
            have HO4 := Aside0.mk (HO3.out.later hb4)
            have HB4 := Aside0.mk (below_then HB3.out HB3.out.size hb4)
            refine ⟨⟨HO4.out, HB4.out⟩, ?_⟩
            simp only [pt_lit, List.set_cons_succ, List.set_cons_zero]
            refine rc (i := 10) 52 (f := 65) (args := #[.slice A4 (ints (way ++ [jn])).length c4, .pointer (some ⟨gt, 0, none⟩), .pointer (some ⟨gl, 0, none⟩), .pointer (some ⟨go, 0, none⟩)]) (by kernel_rfl) rfl rfl (by kernel_rfl) (by kernel_rfl) ?_
            refine (IH.out (way ++ [jn]) A4 c4 _ (by rw [List.length_append]; simp; omega) (by rw [List.length_append]; simp) (fun x hx => by rcases List.mem_append.1 hx with h | h; exact HX.out x h; rw [List.mem_singleton.1 h]; exact hjn) HO4.out hC4 hl4).mono ?_
            rw [hro]
            clear hr4 hC4 hl4
            rintro e w5 ⟨A5, c5, rfl, hl5, hC5, hb5⟩
            have HO5 := Aside0.mk (HO4.out.later hb5)
            have HB5 := Aside0.mk (below_then HB4.out HB4.out.size hb5)
            have HC5 := Aside0.mk hC5
            have HL5 := Aside0.mk hl5
            refine ⟨_, rfl, ⟨HO5.out, HB5.out⟩, ?_⟩
            clear hb5 hC5 hb4 hl5
            simp only [pt_lit, List.set_cons_succ, List.set_cons_zero]
            refine rv (i := 11) 9 (v := .slice (some A5) (ints res).length c5) (w' := w5) (by kernel_rfl) rfl rfl (by kernel_rfl) (by kernel_rfl) ⟨HO5.out, HB5.out⟩ ?_
            simp only [pt_lit, List.set_cons_succ, List.set_cons_zero]
            refine wpAnyH_done (by kernel_rfl) ?_ _
            go_wp2_with fail
            go_ret
            rw [HF.out]
            exact ⟨A5, c5, rfl, HL5.out, HC5.out, HB5.out⟩
        · have hgk := HGk.out
          rw [hct, if_pos rfl] at hgk
          have HN1 := Aside0.mk (HNN.out hgk)
          rw [hct] at HCC
          clear hgk HNN HNS HGk hct
          go_wp2_with fail
          refine HCC.out.mono ?_
          rintro e w2 ⟨rfl, rfl⟩
          go_wp2_with fail
          go_roundw
          case rel => exact ⟨k + 1, by omega, by go_num, HN1, HB1r⟩
          case measure => simp [intOf]; omega
      · obtain rfl : k = M.length := by omega
        have HF := Aside0.mk (HRR.out.symm.trans (noneTo_all HN.out))
        go_wp2_with fail
        go_ret
        rw [HF.out]
        exact ⟨rfl, below_then HB1.out HB1.out.size HB1r.out⟩
end Go.Proofs.Ytmobefgnkiboaaa.Im
namespace Go.Proofs.Ytmobefgnkiboaaa.Im
open Go.RowKit Go.Proofs.YtmobefgnkiboaaaW.PrintWords Go.Proofs.YtmobefgnkiboaaaW.PrintLast Go.Proofs.YtmobefgnkiboaaaW.PrintMore
set_option linter.unusedVariables false
/-- The first odd cycle: the shortest, and of these the first. -/
def oddI (o : List Nat) (n q : Nat) : Option (List Nat) := (List.range n).findSome? fun i => oddF o (2 * q) [i]
def oddS (n : Nat) (o : List Nat) : Option (List Nat) := (List.range ((n + 1) / 2)).findSome? fun q => oddI o n q
/-- What a search for a list hands back beside an error: 0, or 10. -/
def FoundE (w : World) (r : Option (List Nat)) (e : Ending) (w' : World) : Prop :=
  match r with
  | some l => ∃ A c, e = .returned (.tuple #[.slice (some A) (ints l).length c, .int .i64 0]) ∧ (ints l).length ≤ c ∧ Kd.C (Kd.int .i64) w' (some A) (ints l).length (ints l) ∧ Below w.heap.size w w'
  | none => e = .returned (.tuple #[.slice none 0 0, .int .i64 10]) ∧ Below w.heap.size w w'
def OddPost (n : Int) (l : List S43) (w : World) (e : Ending) (w' : World) : Prop :=
  if ofE n l = 0 then FoundE w (oddS n.toNat (townO l)) e w'
  else e = .returned (.tuple #[.slice none 0 0, .int .i64 (ofE n l)]) ∧ Below w.heap.size w w'
/-- A list of one number in a block of its own. -/
theorem C_one (w : World) (i : Nat) : Kd.C (Kd.int .i64) (w.alloc (.cells #[.int .i64 (i : Nat)] 3)) (some ⟨w.heap.size, 0, none⟩) (ints [i]).length (ints [i]) := by
  have h1 : (w.alloc (.cells #[.int .i64 (i : Nat)] 3)).ownsRow w.heap.size 3 1 (.slice (some ⟨w.heap.size, 0, none⟩) 1 1) (ints [i]).length (encs (Value.int .i64) (ints [i])) :=
    ⟨rfl, .inr ⟨w.heap.size, 1, #[.int .i64 (i : Nat)], rfl, Nat.le_refl _, Blk.new w 3 _, by simp [ints], by decide, rfl, rfl⟩⟩
  have h2 : Kd.R (Kd.int .i64) 3 (w.alloc (.cells #[.int .i64 (i : Nat)] 3)) w.heap.size (fun _ => True) (.slice (some ⟨w.heap.size, 0, none⟩) 1 1) (ints [i]) := Kd.R_of_own h1 (fun _ _ => trivial)
  obtain ⟨A, c, e, _, hC⟩ := Kd.R_reads h2
  injection e with e1
  rw [← e1] at hC
  exact hC
set_option maxHeartbeats 3200000 in
set_option maxRecDepth 100000 in
theorem Odd_any (n : Int) (A : Option Addr) (c : Nat) (l : List S43) (w : World) (hr : Kd.C k43 w A l.length l) (hc : l.length ≤ c) :
    Calls Try.prog 28 #[.int .i64 n, .slice A l.length c] w (OddPost n l w) := by
  have hmf : ∀ (fn : Fn) (first cap : Array Value) (w : World), (Instr.makeFunc fn first cap).run Try.prog w = .ok (.func fn first cap) w := fun _ _ _ _ => rfl
  have hsf := fun (a : Addr) (c : Array Value) (w : World) => run_store Try.prog w a (.func (.func 65) #[] c) .plain rfl
  have qn : ∀ (w : World) (a : Option Addr) (n c n' c' : Nat), (binOp .neq 25 (.slice a n c) (.slice none n' c')).run Try.prog w = .ok (.bool (!a.isNone)) w := fun w a n c n' c' => run_neq_slice_nil_any w _ _ a n c n' c' Try.underlying25
  have HO := Aside0.mk (of_A n A c l w hr hc)
  have HZ := Aside0.mk (ofA_size n l)
  have H1 := Aside0.mk (ofA_one n l)
  clear hr hc
  by_cases he : ofE n l = 0
  · have ok := okt_of he
    have hA : ofA n l = tnN n.toNat (townO l) := by rw [ofA, if_pos he]
    have hK : OddPost n l w = FoundE w (oddS n.toNat (townO l)) := by funext e w'; simp [OddPost, he]
    have hnn := (ofE_ok he).1
    rw [hK]
    rw [hA] at HO HZ H1
    rw [he] at HO
    clear he hA hK
    generalize townO l = o at *
    obtain ⟨m, rfl⟩ : ∃ m : Nat, n = m := ⟨n.toNat, by omega⟩
    rw [Int.toNat_natCast] at *
    have HK := Aside0.mk ok
    have n12 := ok.n12
    clear ok hnn
    obtain ⟨R, hR⟩ : ∃ R, oddS m o = R := ⟨_, rfl⟩
    rw [hR]
    have HR := Aside0.mk hR
    clear hR
    go_enter Try.func28, Try.ntmps28
    go_wp2_with fail
    refine HO.out.mono ?_
    rintro e w1 ⟨rfl, hb⟩
    have HB := Aside0.mk hb
    clear hb HO
    have HT : Aside0 (TnN (w1.alloc (.cells (tnN m o) 50)) w1.heap.size m o) := ⟨Blk.new _ _ _⟩
    have HB1 := Aside0.mk (below_alloc HB.out (.cells (tnN m o) 50))
    go_wp2_with (refine wpList_store_row rfl 50 _ _ rfl w1.heap.size (tnN m o) rfl rfl 50 (tnN 0 zero12) (heap_alloc_new w1 _) (by rw [info50, HZ.out]) (by rw [HZ.out]; rfl) H1.out ?_; rw [World.setRow_alloc_new])
    go_loopg [8] 7 (fun kq v wr => ∃ (q gl : Nat), kq + q = 7 ∧ v = .pointer (some ⟨gl, 0, none⟩) ∧ Aside0 (Blk wr gl 3 #[.int .i64 (2 * q + 1 : Nat)]) ∧ Aside0 (TnN wr w1.heap.size m o) ∧ Aside0 (Below w.heap.size w wr) ∧ Aside0 (q ≤ (m + 1) / 2) ∧ Aside0 (noneTo (List.range ((m + 1) / 2)) (oddI o m) q))
    case atStart => exact ⟨0, w1.heap.size + 1, rfl, rfl, ⟨by simpa using Blk.new (w1.alloc (.cells (tnN m o) 50)) 3 #[.int .i64 1]⟩, ⟨Blk.alloc HT.out _⟩, ⟨below_alloc HB1.out _⟩, ⟨by omega⟩, ⟨noneTo_zero _ _⟩⟩
    case round =>
      obtain ⟨q, gl, hq, rfl, HG, HT2, HB2, HQM, HN⟩ := hrel
      have cl := HG.out.cell 0
      simp only [List.getElem?_toArray, List.getElem?_cons_zero] at cl
      by_cases hlm : 2 * q + 1 ≤ m
      · have hlm' : (2 * (q : Int) + 1) ≤ m := by omega
        have hqm : q < (m + 1) / 2 := by omega
        have HNN := Aside0.mk (fun h => noneTo_succ HN.out (by rw [List.length_range]; exact hqm) h)
        have HNS := Aside0.mk (fun r h => noneTo_some (r := r) HN.out (by rw [List.length_range]; exact hqm) h)
        simp only [List.getElem_range] at HNN HNS
        obtain ⟨k1, rfl⟩ : ∃ k1, gk = k1 + 1 := ⟨gk - 1, by omega⟩
        have ha1 : Below wr.heap.size wr (wr.alloc (.cells #[.func (.func 65) #[] #[.pointer (some ⟨w1.heap.size, 0, none⟩), .pointer (some ⟨gl, 0, none⟩), .pointer (some ⟨wr.heap.size, 0, none⟩)]] 54)) := below_alloc (Below.refl _ _) _
        have HOB : Aside0 (OddB (wr.alloc (.cells #[.func (.func 65) #[] #[.pointer (some ⟨w1.heap.size, 0, none⟩), .pointer (some ⟨gl, 0, none⟩), .pointer (some ⟨wr.heap.size, 0, none⟩)]] 54)) w1.heap.size gl wr.heap.size m (2 * q + 1) o) :=
          ⟨⟨Blk.alloc HT2.out _, HG.out.alloc _, Blk.new _ _ _⟩⟩
        have HB3 := Aside0.mk (below_then HB2.out HB2.out.size ha1)
        clear ha1
        go_wp2_with fail
        generalize wr.alloc (.cells #[.func (.func 65) #[] #[.pointer (some ⟨w1.heap.size, 0, none⟩), .pointer (some ⟨gl, 0, none⟩), .pointer (some ⟨wr.heap.size, 0, none⟩)]] 54) = W0 at *
        generalize wr.heap.size = gB at *
        go_loopw [28] (fun v wx => ∃ i : Nat, i ≤ m ∧ v = .int .i64 (i : Int) ∧ Aside0 (noneTo (List.range m) (fun i => oddF o (2 * q) [i]) i) ∧ Aside0 (Below W0.heap.size W0 wx)) (fun v _ => m - (intOf v).toNat)
        case atStart => exact ⟨0, Nat.zero_le _, rfl, ⟨noneTo_zero _ _⟩, ⟨Below.refl _ _⟩⟩
        case round =>
          obtain ⟨i, hi, rfl, HNi, HBx⟩ := hrel
          by_cases him : i < m
          · have HN1 := Aside0.mk (fun h => noneTo_succ HNi.out (by rw [List.length_range]; exact him) h)
            have HN2 := Aside0.mk (fun r h => noneTo_some (r := r) HNi.out (by rw [List.length_range]; exact him) h)
            simp only [List.getElem_range] at HN1 HN2
            have hOx := HOB.out.later HBx.out
            have co : wr.cell? ⟨gB, 0, none⟩ = some (.func (.func 65) #[] #[.pointer (some ⟨w1.heap.size, 0, none⟩), .pointer (some ⟨gl, 0, none⟩), .pointer (some ⟨gB, 0, none⟩)]) := hOx.bo.cell 0
            have hbx2 : Below wr.heap.size wr (wr.alloc (.cells #[.int .i64 (i : Nat)] 3)) := below_alloc (Below.refl _ _) _
            have hC : Kd.C (Kd.int .i64) (wr.alloc (.cells #[.int .i64 (i : Nat)] 3)) (some ⟨wr.heap.size, 0, none⟩) (ints [i]).length (ints [i]) := C_one wr i
            have HCall := Aside0.mk (odd1_any w1.heap.size gl gB m (2 * q + 1) o HK.out (by omega) (2 * q) [i] (some ⟨wr.heap.size, 0, none⟩) 1 _ (by simp; omega) (by simp) (fun x hx => by rw [List.mem_singleton.1 hx]; omega) (hOx.later hbx2) hC (by simp [ints]))
            have HBy := Aside0.mk (below_then HBx.out HBx.out.size hbx2)
            obtain ⟨ro, hro⟩ : ∃ ro, oddF o (2 * q) [i] = ro := ⟨_, rfl⟩
            rw [hro] at HCall HN1 HN2
            clear hbx2 hC hOx hro
            go_wp2_with fail
            refine HCall.out.mono ?_
            cases ro with
            | none =>
              rintro e w5 ⟨rfl, hb5⟩
              have HB5 := Aside0.mk (below_then HBy.out HBy.out.size hb5)
              have HN3 := Aside0.mk (HN1.out rfl)
              clear hb5
              go_wp2_with fail
              go_roundw
              case rel => exact ⟨i + 1, by omega, by go_num, HN3, HB5⟩
              case measure => simp [intOf]; omega
            | some res =>
              rintro e w5 ⟨A5, c5, rfl, hl5, hC5, hb5⟩
              have HB5 := Aside0.mk (below_then HBy.out HBy.out.size hb5)
              have HF := Aside0.mk (HR.out.symm.trans (HNS.out res (HN2.out res rfl)))
              have HC5 := Aside0.mk hC5
              have HL5 := Aside0.mk hl5
              clear hb5 hC5 hl5
              go_wp2_with fail
              go_ret2
              rw [HF.out]
              exact ⟨A5, c5, rfl, HL5.out, HC5.out, below_then HB3.out HB3.out.size HB5.out⟩
          · obtain rfl : i = m := by omega
            have hN0 : oddI o i q = none := by
              have := HNi.out
              have h2 := noneTo_all (l := List.range i) (g := fun i => oddF o (2 * q) [i]) (by rw [List.length_range]; exact this)
              exact h2
            have HNq := Aside0.mk (HNN.out hN0)
            have hOx := HOB.out.later HBx.out
            have cg : wr.cell? ⟨gl, 0, none⟩ = some (.int .i64 (2 * q + 1 : Nat)) := hOx.bl.cell 0
            have HT5 := Aside0.mk hOx.bt
            have HB6 := Aside0.mk (below_then HB3.out HB3.out.size HBx.out)
            clear hOx hN0
            go_wp2_with fail
            go_roundg k1
            case measure => omega
            case rel => exact ⟨q + 1, wr.heap.size, by omega, rfl, ⟨by have := Blk.new wr 3 #[.int .i64 (2 * (q + 1) + 1 : Nat)]; have e : ((2 * (q + 1) + 1 : Nat) : Int) = 2 * (q : Int) + 1 + 2 := (by omega); rw [e] at this; exact this⟩, ⟨Blk.alloc HT5.out _⟩, ⟨below_alloc HB6.out _⟩, ⟨by omega⟩, HNq⟩
      · have hlm' : ¬ ((2 * (q : Int) + 1) ≤ m) := by omega
        have HF := Aside0.mk (show R = none by
          have h1 := HN.out
          have h2 : q = (List.range ((m + 1) / 2)).length := by rw [List.length_range]; have := HQM.out; omega
          rw [h2] at h1
          exact HR.out.symm.trans (noneTo_all h1))
        go_wp2_with fail
        go_ret2
        rw [HF.out]
        exact ⟨rfl, HB2.out⟩
  · have hK : OddPost n l w = fun e w' => e = .returned (.tuple #[.slice none 0 0, .int .i64 (ofE n l)]) ∧ Below w.heap.size w w' := by funext e w'; simp [OddPost, he]
    rw [hK]
    have hb : (ofE n l != 0) = true := bne_iff_ne.2 he
    have hb' : (ofE n l == 0) = false := beq_eq_false_iff_ne.2 he
    clear hK he
    generalize ofE n l = er at *
    go_enter Try.func28, Try.ntmps28
    go_wp2_with fail
    refine HO.out.mono ?_
    rintro e w1 ⟨rfl, hb⟩
    have HB := Aside0.mk hb
    clear hb HO
    go_wp2_with (refine wpList_store_row rfl 50 _ _ rfl w1.heap.size (ofA n l) rfl rfl 50 (tnN 0 zero12) (heap_alloc_new w1 _) (by rw [info50, HZ.out]) (by rw [HZ.out]; rfl) H1.out ?_)
    go_ret2
    exact ⟨rfl, by rw [World.setRow_alloc_new]; exact below_alloc HB.out _⟩
end Go.Proofs.Ytmobefgnkiboaaa.Im

