/- Blocks that are known whole; regions that draw their order, taken by hand; worlds that have grown; bits of an int; one more number behind a list. (Turned from the texts of the chapter on towns.) Plain words of the chapter on truth: formulas, three values, reading, all valuations in order. Plain: Kleene's order, fixed points, the least one, the greatest intrinsic one. Plain: going through all valuations until told to stop; the list of fixed points; the two searches for the greatest intrinsic one. Plain: revision: the first valuation that occurs again; the valuations that occur again; the values that sentences always have in the end. Plain: the program's and the specification's way to the values that sentences always have in the end. Plain: how sentences depend on one another, closed sets, sets without a consistent valuation, the least such sets. Plain: cycles by the signs of occurrences; the search for the first one finds one if there is one. Plain: without an even cycle there is at most one consistent valuation; without an odd one there is one; without any the least fixed point is it. Plain: without an even cycle there is at most one consistent valuation; without an odd one there is one; without any the least fixed point is it. Plain: without an odd cycle there is a consistent valuation. Plain: consistent valuations, sets without one, systems in which the sentences outside of a set say 0. Plain: a visitor with a state that is handed one valuation after another; what First, Count, Fixed and Stable make of it; the program's order of going through them; the cores. Formulas as the program has them: values behind an interface. What a formula's value is. The value of a formula, by its parts. The value of a pair of formulas; of every formula. The values of all formulas of a system. Reading one formula: the first arms. Reading one formula: a pair. Reading one formula. Reading a formula that is all of a string. Functions of Go's library at this program: the shelf's contracts, laid in plain declarations (lay-shelf.mjs, lay-plain.mjs; cut by shelfcut.py). strings.Contains at the operations; reading and parsing without a premise. A system is read. Is a string a valuation? Value. Least. Value; the least fixed point. Going through all valuations: each. First; Count. Count. All fixed points. Revision: the steps to the first valuation that occurs again. Revise. The letters of a formula, handed to a function value. How sentences depend on one another: arcs. The rows of signs. The kinds of the seat's values (first written by print.sh). Functions of the specification and of the statements, each with its calls (first written by print.sh): pomadelaw01_few, pomadelaw01_same, pomadelaw01_texts, truth_members, truth_lists, pomadelaw01_none. Members of a set; with fuel enough. slices.IndexFunc, slices.ContainsFunc over whole numbers, at a function value that may make memory. slices.Compare, slices.MinFunc: the least of lists. Does a sentence depend on one that is not in a set? The tests of Core. Rows of bytes that are values. Has a closed set a consistent valuation? The order of lists; the core, plain. Core. slices.Contains at ints; what a search hands back. (Turned from the texts of the chapter on towns.) The search for a cycle: the last round. The search for a cycle: all other rounds. truth.Cycle: the search called. What every right program knows: alive is true. same, texts, few; alive. The specification's reader: what it leaves; a reader that has failed. Functions of the specification and of the statements, each with its calls (first written by print.sh): pomaderef01_value. Functions of the specification and of the statements, each with its calls (first written by print.sh): pomaderef01_values, pomaderef01_written, pomaderef01_least, pomaderef01_power. Functions of the specification and of the statements, each with its calls (first written by print.sh): pomaderef01_Partial, pomaderef01_Whole, pomaderef01_Extends, pomaderef01_Compatible, truth_compatible. The specification's values, in the words of the theory. The specification's valuations by number; its consistent ones. The specification's Whole and Extends; what the laws on cycles need. The specification's Extends; the order of the valuations. The specification's reader: a formula. The specification's reading: formula, parsed. The specification's reading: a system. The specification's Value, System. What the laws on fixed points need: the letters' lists, plain; the first valuation. Intrinsic. Intrinsic: the walk. Functions of the specification and of the statements, each with its calls (first written by print.sh): pomaderef01_fixed. The specification's fixed points, plain: power, least, fixed, Compatible, Extends. The specification's Least, Fixed and Intrinsic: the walks. The law TruthFixed. Arguments of the laws, opened: a list of texts. -/
import Derived.Test.YtijaefmaceolbaaGreatDoorProg
import Derived.Below
import Derived.Deep.Draws
import Derived.Deep.AppendLies
import Derived.Maps.AppendAt
import Derived.OwnWalk
import Derived.Laws.BytesArg
import Derived.Laws.MakeOwn
import Derived.Laws.OwnMore
import Derived.Deep.OwnRows
import Derived.Tactics
import Derived.Lib.ConvBytes
import Derived.Laws.Slices
import Derived.WalkKit
import Derived.KernelRfl
import Derived.RowKit3
import Derived.Deep.LoopGhost
import Derived.Deep.QuietTactic
import Derived.BigQuiet
import Derived.WideLaws
import Derived.Deep.DeepCutAuto
import Derived.Deep.CutBlock
import Derived.Deep.RegionHeld3
import Derived.Laws.Rows
import Derived.Lib.AppendStr
import Derived.ArgAppend
import Derived.Laws.IdiomCopy
import Derived.OrdersHeld
import Derived.Laws.BitsLemmas
import Derived.RowKit
import Derived.Test.YtijaefmaceolbaaGreatDoorWWords
import Derived.Test.YtijaefmaceolbaaGreatDoorWLast
import Derived.Test.YtijaefmaceolbaaGreatDoorWTab
import Derived.Test.YtijaefmaceolbaaGreatDoorWFour
import Derived.Test.YtijaefmaceolbaaGreatDoorWQPut
import Derived.Test.YtijaefmaceolbaaGreatDoorWApart
import Derived.Test.YtijaefmaceolbaaGreatDoorWArr
import Derived.Test.YtijaefmaceolbaaGreatDoorWZeros
import Derived.Test.YtijaefmaceolbaaGreatDoorWFoot
import Derived.Test.YtijaefmaceolbaaGreatDoorWKept
import Derived.Test.YtijaefmaceolbaaGreatDoorWShare
import Derived.Test.YtijaefmaceolbaaGreatDoorWN
import Derived.Test.YtijaefmaceolbaaGreatDoorWFootNe
import Derived.Test.YtijaefmaceolbaaGreatDoorWAt
import Derived.Test.YtijaefmaceolbaaGreatDoorWEqStruct
import Derived.Test.YtijaefmaceolbaaGreatDoorWRepsOne
import Derived.Test.YtijaefmaceolbaaGreatDoorWInv
import Derived.Test.YtijaefmaceolbaaGreatDoorWInvWords
import Derived.Test.YtijaefmaceolbaaGreatDoorWGuard
import Derived.Test.YtijaefmaceolbaaGreatDoorWNEv
import Derived.Test.YtijaefmaceolbaaGreatDoorWMore
import Derived.Outline
import Derived.StillTailTactics
namespace Go.Proofs.YtijaefmaceolbaaGreatDoor.Im
open Go.RowKit Go.Proofs.YtijaefmaceolbaaGreatDoorW.PrintWords Go.Proofs.YtijaefmaceolbaaGreatDoorW.PrintLast Go.Proofs.YtijaefmaceolbaaGreatDoorW.PrintMore
set_option linter.unusedVariables false
set_option linter.unusedSimpArgs false
theorem info3 : (Tryz.prog.info? 3).map (fun i => (i.zero, i.size, i.bytes)) = some (some (.int .i64 0), 1, 8) := by kernel_rfl
theorem info5 : (Tryz.prog.info? 5).map (fun i => (i.zero, i.size, i.bytes)) = some (some (.int .u8 0), 1, 1) := by kernel_rfl
theorem info9 : (Tryz.prog.info? 9).map (fun i => (i.zero, i.size, i.bytes)) = some (some (.string ⟨#[]⟩), 1, 16) := by kernel_rfl
def Blk (w : World) (g : Nat) (t : TypeId) (cs : Array Value) : Prop := w.heap[g]? = some (.cells cs t (0, 0))
section
variable {w w' : World} {g : Nat} {t : TypeId} {cs : Array Value}
theorem Blk.lt (h : Blk w g t cs) : g < w.heap.size := by
  rcases Nat.lt_or_ge g w.heap.size with hlt | hge
  · exact hlt
  · unfold Blk at h; rw [Array.getElem?_eq_none hge] at h; cases h
theorem Blk.cell (h : Blk w g t cs) (i : Nat) : w.cell? ⟨g, i, none⟩ = cs[i]? := cell_of_row w g i cs t (0, 0) h
theorem Blk.frozen (h : Blk w g t cs) (i : Nat) : w.frozen? ⟨g, i, none⟩ = false := by
  unfold Blk at h
  simp [World.frozen?, h]
theorem Blk.new (w : World) (t : TypeId) (cs : Array Value) : Blk (w.alloc (.cells cs t)) w.heap.size t cs := heap_alloc_new w _
theorem Blk.drew (h : Blk w g t cs) : Blk w.drew g t cs := h
theorem Blk.drewN (h : Blk w g t cs) (n : Nat) : Blk (w.drewN n) g t cs := h
theorem Blk.alloc (h : Blk w g t cs) (o : Obj) : Blk (w.alloc o) g t cs := (Below.heap_alloc w o g h.lt).trans h
theorem Blk.set_ (h : Blk w g t cs) (i : Nat) (u : Value) : Blk (w.setCell ⟨g, i, none⟩ u) g t (cs.setIfInBounds i u) := by
  unfold Blk at h ⊢
  simp [World.setCell, Array.getElem?_modify, h]
theorem Blk.far (h : Blk w g t cs) {p : Addr} (hp : g ≠ p.block) (u : Value) : Blk (w.setCell p u) g t cs := (Below.heap_setCell w p u g hp).trans h
theorem Blk.below {B : Nat} (h : Blk w g t cs) (hb : Below B w w') (hg : g < B) : Blk w' g t cs := (hb.block g hg).trans h
theorem Blk.later (h : Blk w g t cs) (hb : Below w.heap.size w w') : Blk w' g t cs := h.below hb h.lt
end
theorem wr62 (n : Int) (h0 : 0 ≤ n) (h1 : n < 2 ^ 62) : IntKind.i64.wrap n = n := by rw [IntKind.wrap_i64]; omega
theorem wr62' (n : Nat) (h1 : n < 2 ^ 62) : wrap64 n = n := by unfold wrap64; omega
theorem b_and (a b : Nat) (ha : a < 2 ^ 62) (hb : b < 2 ^ 62) : bits .and .i64 a b = ((a &&& b : Nat) : Int) :=
  (bits_nat .i64 62 (by decide) wr62 a b ha hb).1
def andN (a b : Nat) : Nat := a ^^^ (a &&& b)
theorem andN_bit (a b i : Nat) : (andN a b).testBit i = (a.testBit i && !b.testBit i) := by
  unfold andN
  rw [Nat.testBit_xor, Nat.testBit_and]
  cases a.testBit i <;> cases b.testBit i <;> rfl
theorem andN_lt (a b k : Nat) (ha : a < 2 ^ k) : andN a b < 2 ^ k := Nat.xor_lt_two_pow ha (Nat.lt_of_le_of_lt Nat.and_le_left ha)
theorem b_andN (a b : Nat) (ha : a < 2 ^ 62) (_hb : b < 2 ^ 62) : bits .andNot .i64 a b = ((andN a b : Nat) : Int) := by
  have key : (BitVec.ofNat 64 a &&& ~~~ BitVec.ofNat 64 b).toNat = andN a b := by
    apply Nat.eq_of_testBit_eq
    intro i
    rw [andN_bit, BitVec.testBit_toNat, BitVec.getLsbD_and, BitVec.getLsbD_not, BitVec.getLsbD_ofNat, BitVec.getLsbD_ofNat]
    by_cases h : i < 64
    · simp [h]
    · have : a.testBit i = false := Nat.testBit_lt_two_pow (Nat.lt_of_lt_of_le ha (Nat.pow_le_pow_right (by decide) (by omega)))
      simp [h, this]
  have hl : andN a b < 2 ^ 62 := andN_lt a b 62 ha
  have : bits .andNot .i64 a b = IntKind.i64.wrap ((BitVec.ofInt 64 (a : Int) &&& ~~~ BitVec.ofInt 64 (b : Int)).toNat : Int) := rfl
  rw [this, BitVec.ofInt_natCast, BitVec.ofInt_natCast, key]
  exact wr62 _ (Int.natCast_nonneg _) (by exact_mod_cast hl)
theorem shr_nat (s i : Nat) : ((s : Int) / 2 ^ i) = ((s >>> i : Nat) : Int) := by
  rw [Nat.shiftRight_eq_div_pow]; simp
theorem shr_lt (s i : Nat) (h : s < 2 ^ 62) : s >>> i < 2 ^ 62 := by
  rw [Nat.shiftRight_eq_div_pow]
  exact Nat.lt_of_le_of_lt (Nat.div_le_self _ _) h
theorem bit_one (s i : Nat) : (s >>> i) &&& 1 = if s.testBit i then 1 else 0 := by
  rw [Nat.and_comm, Nat.one_and_eq_mod_two, Nat.testBit, Nat.one_and_eq_mod_two]
  rcases Nat.mod_two_eq_zero_or_one (s >>> i) with h | h <;> simp [h]
theorem b_bit (s i : Nat) (h : s < 2 ^ 62) : bits .and .i64 ((s : Int) / 2 ^ i) 1 = if s.testBit i then 1 else 0 := by
  rw [shr_nat, show (1 : Int) = ((1 : Nat) : Int) from rfl, b_and _ _ (shr_lt s i h) (by decide), bit_one]
  split <;> rfl
theorem b_bit0 (s i : Nat) (h : s < 2 ^ 62) : (bits .and .i64 ((s : Int) / 2 ^ i) 1 == 0) = !s.testBit i := by
  rw [b_bit s i h]; cases s.testBit i <;> rfl
theorem two_pow_nat (i : Nat) : ((2 : Int) ^ i) = ((2 ^ i : Nat) : Int) := by simp
theorem wr_pow (i : Nat) (h : i < 62) : wrap64 ((2 : Int) ^ i) = ((2 ^ i : Nat) : Int) := by
  rw [two_pow_nat]; exact wr62' _ (Nat.pow_lt_pow_right (by decide) h)
theorem rd_map (o : List Nat) (i : Nat) : rd (o.map fun x : Nat => (x : Int)) i = ((o.getD i 0 : Nat) : Int) := by
  unfold rd
  rw [Int.toNat_natCast]
  simp only [List.getD_eq_getElem?_getD, List.getElem?_map]
  cases o[i]? <;> rfl
def ints (o : List Nat) : List Int := o.map fun x : Nat => (x : Int)
theorem ints_length (o : List Nat) : (ints o).length = o.length := by simp [ints]
theorem rd_ints (o : List Nat) (i : Nat) : rd (ints o) i = ((o.getD i 0 : Nat) : Int) := rd_map o i
section
variable {P : Program} {ops : Array Oper} {Q : Exit → Act → World → Prop} {md : Region.Mode} {S : World → Prop}
theorem ro_call {i : Nat} {o : Oper} {f : FuncId} {args : Array Value} {a : Act} {w : World} {K : Act → World → Prop} (hi : ops[i]? = some o)
    (hw : Region.wanted o (yielded ops a.tmps) = true) (hr : (execOp a.eval o).run P w = .ok (.enter f args) w)
    (hc : Calls P f args w fun e w' => ∃ v, e = .returned v ∧ K (a.put o.dst v) w') : wpOp P ops Q i K a w := by
  unfold wpOp
  simp only [hi, hw, if_true]
  refine .inl ?_
  unfold Oper.wp
  rw [hr]
  refine hc.mono ?_
  rintro e w' ⟨v, rfl, h⟩
  exact h
theorem ro_val {i : Nat} {o : Oper} {v : Value} {a : Act} {w w' : World} {K : Act → World → Prop} (hi : ops[i]? = some o)
    (hw : Region.wanted o (yielded ops a.tmps) = true) (hr : (execOp a.eval o).run P w = .ok (.value v) w')
    (hc : K (a.put o.dst v) w') : wpOp P ops Q i K a w := by
  unfold wpOp
  simp only [hi, hw, if_true]
  refine .inl ?_
  unfold Oper.wp
  rw [hr]
  exact hc
theorem ro_one {i : Nat} {fuel : Nat} {listed : Array Bool} {a : Act} {w : World} (hr : Region.ready md ops listed = [i])
    (h : wpOp P ops Q i (fun a' w' => S w' ∧ wpAnyH P md ops Q S fuel (listed.setIfInBounds i true) a' w') a w) : wpAnyH P md ops Q S (fuel + 1) listed a w :=
  wpAnyH_all hr (by simp) fun j hj => by
    obtain rfl : j = i := by simpa using hj
    exact h
end
theorem Blk.new' {w : World} {g : Nat} {t : TypeId} {cs : Array Value} (h : g = w.heap.size) : Blk (w.alloc (.cells cs t)) g t cs := h ▸ Blk.new w t cs
theorem gb_below {w w1 : World} {row : Option Nat} (h : Below w.heap.size w w1) : w.grownBy w1 row := ⟨h.os, h.tape, h.output, h.size, fun i hi _ => h.block i hi⟩
theorem below_gb {w w1 : World} (h : w.grownBy w1 none) : Below w.heap.size w w1 := ⟨h.os, h.tape, h.output, h.size, fun i hi => h.block i hi (by simp)⟩
theorem Blk.gb {w w' : World} {g : Nat} {t : TypeId} {cs : Array Value} {row : Option Nat} (h : Blk w g t cs) (hb : w.grownBy w' row) (hg : some g ≠ row) : Blk w' g t cs := (hb.block g h.lt hg).trans h
theorem Blk.row {w : World} {g : Nat} {t : TypeId} {old : Array Value} (h : Blk w g t old) (cs : Array Value) : Blk (w.setRow g cs) g t cs := setRow_heap w g old cs t (0, 0) h
def memF (p : Nat) : Nat → Nat → List Nat
  | 0, _ => []
  | d + 1, i => if p.testBit i then i :: memF p d (i + 1) else memF p d (i + 1)
def mem12 (p i : Nat) : List Nat := memF p (12 - i) i
theorem mem12_step (p i : Nat) (h : i < 12) : mem12 p i = if p.testBit i then i :: mem12 p (i + 1) else mem12 p (i + 1) := by
  unfold mem12
  rw [show 12 - i = (12 - (i + 1)) + 1 by omega]
  rfl
theorem memF_none (p : Nat) : ∀ d i, p >>> i = 0 → memF p d i = []
  | 0, _, _ => rfl
  | d + 1, i, h => by
    have ht : p.testBit i = false := by simp [Nat.testBit, h]
    have hn : p >>> (i + 1) = 0 := by rw [Nat.shiftRight_add, h]; rfl
    rw [memF, ht, memF_none p d (i + 1) hn]
    rfl
theorem mem12_none (p i : Nat) (h : p >>> i = 0) : mem12 p i = [] := memF_none p _ i h
theorem shr12 (p i : Nat) (hp : p < 4096) (h : p >>> i ≠ 0) : i < 12 := by
  rcases Nat.lt_or_ge i 12 with h' | h'
  · exact h'
  · exfalso
    apply h
    rw [Nat.shiftRight_eq_div_pow]
    apply Nat.div_eq_of_lt
    exact Nat.lt_of_lt_of_le hp (Nat.pow_le_pow_right (by decide) h' : 2 ^ 12 ≤ 2 ^ i)
section
variable {P : Program} {ops : Array Oper} {Q : Exit → Act → World → Prop} {md : Region.Mode} {S : World → Prop}
def pt (a : Act) (d : Nat) (v : Value) : Act := ⟨a.tmps.setIfInBounds d v, a.defers⟩
theorem pt_lit (l : List Value) (ds : List Deferred) (d : Nat) (v : Value) : pt ⟨l.toArray, ds⟩ d v = ⟨(l.set d v).toArray, ds⟩ := by simp [pt]
theorem pt_put {a : Act} {o : Oper} {d : Nat} {v : Value} (h : o.dst = some d) : a.put o.dst v = pt a d v := by rw [h]; rfl
theorem tk {i : Nat} (d : Nat) {oi : Oper} {v : Value} {fuel : Nat} {listed : Array Bool} {a : Act} {w : World} (hi : ops[i]? = some oi) (hd : oi.dst = some d)
    (hs : Region.noSelect ops = true) (hf : Region.free md ops listed i = true) (hr : (Region.ready md ops listed).contains i = true)
    (hQ : ∀ c a w, Q (.panic c) (a.put oi.dst v) w → Q (.panic c) a w) (hw : Region.wanted oi (yielded ops a.tmps) = true) (hy : ∀ w, S w → (execOp a.eval oi).run P w = .ok (.value v) w) (hS : S w)
    (h : wpAnyH P md ops Q S fuel (listed.setIfInBounds i true) (pt a d v) w) : wpAnyH P md ops Q S (fuel + 1) listed a w :=
  wpAnyH_take hi hs hf hr hQ (.inl ⟨hw, hy⟩) hS (by rw [pt_put hd]; exact h)
theorem rc {i : Nat} (d : Nat) {o : Oper} {fuel : Nat} {listed : Array Bool} {f : FuncId} {args : Array Value} {a : Act} {w : World} (hr : Region.ready md ops listed = [i]) (hi : ops[i]? = some o) (hd : o.dst = some d)
    (hw : Region.wanted o (yielded ops a.tmps) = true) (hx : (execOp a.eval o).run P w = .ok (.enter f args) w)
    (hc : Calls P f args w fun e w' => ∃ v, e = .returned v ∧ S w' ∧ wpAnyH P md ops Q S fuel (listed.setIfInBounds i true) (pt a d v) w') : wpAnyH P md ops Q S (fuel + 1) listed a w :=
  ro_one hr (ro_call hi hw hx (hc.mono fun _ _ ⟨v, h1, h2, h3⟩ => ⟨v, h1, h2, by rw [pt_put hd]; exact h3⟩))
theorem rv {i : Nat} (d : Nat) {o : Oper} {fuel : Nat} {listed : Array Bool} {v : Value} {a : Act} {w w' : World} (hr : Region.ready md ops listed = [i]) (hi : ops[i]? = some o) (hd : o.dst = some d)
    (hw : Region.wanted o (yielded ops a.tmps) = true) (hx : (execOp a.eval o).run P w = .ok (.value v) w')
    (hS : S w') (h : wpAnyH P md ops Q S fuel (listed.setIfInBounds i true) (pt a d v) w') : wpAnyH P md ops Q S (fuel + 1) listed a w :=
  ro_one hr (ro_val hi hw hx ⟨hS, by rw [pt_put hd]; exact h⟩)
end
theorem shr_i64 (s i : Nat) (h : i ≤ 62) : shr .i64 (s : Int) (i : Int) = ((s >>> i : Nat) : Int) := by
  unfold shr
  rw [Int.toNat_natCast, Nat.min_eq_left (by show i ≤ 64; omega), shr_nat]
theorem b_bitshr (s i : Nat) (h : s < 2 ^ 62) : bits .and .i64 ((s >>> i : Nat) : Int) 1 = if s.testBit i then 1 else 0 := by
  rw [← shr_nat]; exact b_bit s i h
theorem wr_succ (i : Nat) (h : i < 1000000) : wrap64 ((i : Int) + 1) = ((i + 1 : Nat) : Int) := by unfold wrap64; omega
def memL (s : Nat) : List Nat := mem12 s 0
theorem C_cells {w : World} {b : Addr} {l : List Int} (h : Kd.C (Kd.int .i64) w (some b) l.length l) : ∀ j u, (nums .i64 l)[j]? = some u → w.cell? (b.add j) = some u := by
  intro j u hu
  have hj : j < l.length := by
    rcases Nat.lt_or_ge j l.length with h' | h'
    · exact h'
    · rw [List.getElem?_eq_none (by rw [nums_length]; exact h')] at hu; cases hu
  obtain ⟨ad, e, hc⟩ := Kd.at_int h (j : Int) (by omega) (by omega)
  cases e
  rw [Int.toNat_natCast] at hc
  rw [hc, ← hu]
  simp [nums, rd, hj]
theorem C_none {w : World} {l : List Int} (h : Kd.C (Kd.int .i64) w none l.length l) : l = [] := by
  rcases Nat.eq_zero_or_pos l.length with h0 | h0
  · exact List.eq_nil_of_length_eq_zero h0
  · obtain ⟨ad, e, _⟩ := Kd.at_int h 0 (by omega) (by omega)
    cases e
theorem C_some {w : World} {A : Option Addr} {l : List Int} (h : Kd.C (Kd.int .i64) w A l.length l) (h0 : 0 < l.length) : ∃ ad, A = some ad := by
  obtain ⟨ad, e, _⟩ := Kd.at_int h 0 (by omega) (by omega)
  exact ⟨ad, e⟩
theorem run_app1 (w : World) (A : Option Addr) (l : List Int) (g : Nat) (j : Int) (hr : Kd.C (Kd.int .i64) w A l.length l) (hg : w.cell? ⟨g, 0, none⟩ = some (.int .i64 j)) (hl : l.length < 1000000)
    (hA : A = none → l.length = 0) :
    ∃ v' w', (Builtin.append_ #[39, 39] 39 #[.slice A l.length l.length, .slice (some ⟨g, 0, none⟩) 1 1]).run Tryz.prog w = .ok v' w' ∧ Kd.R (Kd.int .i64) 3 w' w.heap.size (fun _ => True) v' (l ++ [j]) ∧ Below w.heap.size w w' := by
  obtain ⟨i0, hi, hzz⟩ := Option.map_eq_some_iff.1 info3
  simp only [Prod.mk.injEq] at hzz
  obtain ⟨hz0, hz1, hz2⟩ := hzz
  have hn : ∀ q u, [Value.int .i64 j][q]? = some u → w.cell? ((⟨g, 0, none⟩ : Addr).add q) = some u := by
    intro q u hu
    match q, hu with
    | 0, hu => simp at hu; subst hu; simpa [Addr.add] using hg
  have one : ∀ u ∈ [Value.int IntKind.i64 j], u.oneCell' = true := by intro u hu; simp at hu; subst hu; rfl
  have fin : ∀ v' w', w'.ownsRow w.heap.size 3 1 v' (l.length + 1) (nums .i64 l ++ [.int .i64 j]) → Kd.R (Kd.int .i64) 3 w' w.heap.size (fun _ => True) v' (l ++ [j]) := by
    intro v' w' h
    refine Kd.R_of_own ?_ (fun _ _ => trivial)
    have e : encs (Value.int .i64) (l ++ [j]) = nums .i64 l ++ [.int .i64 j] := by simp [encs, nums]
    rw [e, List.length_append]
    exact h
  cases A with
  | some b =>
    obtain ⟨v', w', hrun, r1, r2⟩ := run_append_arg_grows (P := Tryz.prog) w 39 39 3 i0 _ 1 8 Tryz.underlying39 hi hz0 hz1 hz2 rfl (by decide) b l.length l.length (nums .i64 l) (by simp [nums_length]) (C_cells hr) ⟨g, 0, none⟩ 1 1 [.int .i64 j] rfl hn (by omega) (by unfold maxLen; omega) (by omega)
    exact ⟨v', w', hrun, fin v' w' r1, below_gb r2⟩
  | none =>
    obtain rfl := C_none hr
    obtain ⟨v', w', hrun, r1, r2, _⟩ := run_append_own (P := Tryz.prog) w w.heap.size 39 39 3 i0 _ 1 8 Tryz.underlying39 hi hz0 hz1 hz2 rfl (by decide) (.slice none 0 0) 0 [] (World.ownsRow_nil w _ 3 1) ⟨g, 0, none⟩ 1 1 [.int .i64 j] rfl hn one (by unfold maxLen; omega) (by omega) (Nat.le_refl _)
    exact ⟨v', w', hrun, fin v' w' r1, below_gb r2⟩
theorem add_zero (b : Addr) : b.add 0 = b := by unfold Addr.add; simp
theorem run_slice3 (w : World) (A : Option Addr) (n c : Nat) (hc : n ≤ c) :
    (Instr.sliceAt 39 (.slice A n c) none (some (.int .i64 (n : Int))) (some (.int .i64 (n : Int)))).run Tryz.prog w = .ok (.slice A n n) w := by
  have hu : Tryz.prog.underlying 39 = some (.slice (Tryz.prog.elem 39)) := by kernel_rfl
  rw [run_sliceAt_slice w _ _ _ _ _ hu, run_slice_hm w 39 A n c hu .i64 .i64 (n : Int) (n : Int) (by omega) (by omega) (by omega)]
  have hs : (sizeOf (Tryz.prog.elem 39)).run Tryz.prog w = .ok 1 w := by kernel_rfl
  rw [hs]
  simp only [Result.andThen_ok, sliced, Int.toNat_natCast]
  cases A with
  | none => simp
  | some b => simp [add_zero]
theorem ex_slice3 {a : Act} {o : Oper} {x y z : Operand} (ho : o.op = .slice 39 x none (some y) (some z)) (w : World) (A : Option Addr) (n c : Nat) (hx : a.eval x = .slice A n c) (hy : a.eval y = .int .i64 n) (hz : a.eval z = .int .i64 n) (hc : n ≤ c) :
    (execOp a.eval o).run Tryz.prog w = .ok (.value (.slice A n n)) w := by
  unfold execOp
  simp [ho, hx, hy, hz, run_slice3 w A n c hc, Result.andThen]
section
variable {ops : Array Oper} {Q : Exit → Act → World → Prop} {md : Region.Mode} {S : World → Prop}
theorem ex_app1 {a : Act} {o : Oper} {s x : Operand} (ho : o.op = .call { callee := .builtin .append, args := #[s, x], argTypes := #[39, 39] }) (ht : o.type = 39) (w : World) (A : Option Addr) (l : List Int) (g : Nat) (j : Int)
    (hs : a.eval s = .slice A l.length l.length) (hx : a.eval x = .slice (some ⟨g, 0, none⟩) 1 1) (hr : Kd.C (Kd.int .i64) w A l.length l) (hg : w.cell? ⟨g, 0, none⟩ = some (.int .i64 j)) (hl : l.length < 1000000) (hA : A = none → l.length = 0) :
    ∃ v' w', (execOp a.eval o).run Tryz.prog w = .ok (.value v') w' ∧ Kd.R (Kd.int .i64) 3 w' w.heap.size (fun _ => True) v' (l ++ [j]) ∧ Below w.heap.size w w' := by
  obtain ⟨v', w', h1, h2, h3⟩ := run_app1 w A l g j hr hg hl hA
  refine ⟨v', w', ?_, h2, h3⟩
  unfold execOp
  simp [ho, ht, resolve, invoke, builtin, hs, hx, h1, Result.andThen]
theorem r_app1 {i : Nat} (d : Nat) {o : Oper} {fuel : Nat} {listed : Array Bool} {a : Act} {w : World} (hrd : Region.ready md ops listed = [i]) (hi : ops[i]? = some o) (hd : o.dst = some d)
    (hw : Region.wanted o (yielded ops a.tmps) = true) {s x : Operand} (ho : o.op = .call { callee := .builtin .append, args := #[s, x], argTypes := #[39, 39] }) (ht : o.type = 39) (A : Option Addr) (l : List Int) (g : Nat) (j : Int)
    (hs : a.eval s = .slice A l.length l.length) (hx : a.eval x = .slice (some ⟨g, 0, none⟩) 1 1) (hr : Kd.C (Kd.int .i64) w A l.length l) (hg : w.cell? ⟨g, 0, none⟩ = some (.int .i64 j)) (hl : l.length < 1000000) (hA : A = none → l.length = 0)
    (h : ∀ v' w', Kd.R (Kd.int .i64) 3 w' w.heap.size (fun _ => True) v' (l ++ [j]) → Below w.heap.size w w' → S w' ∧ wpAnyH Tryz.prog md ops Q S fuel (listed.setIfInBounds i true) (pt a d v') w') : wpAnyH Tryz.prog md ops Q S (fuel + 1) listed a w := by
  obtain ⟨v', w', h1, h2, h3⟩ := ex_app1 (a := a) ho ht w A l g j hs hx hr hg hl hA
  exact rv d hrd hi hd hw h1 (h v' w' h2 h3).1 (h v' w' h2 h3).2
end
end Go.Proofs.YtijaefmaceolbaaGreatDoor.Im

namespace Go.Proofs.YtijaefmaceolbaaGreatDoor.Tr
set_option linter.unusedVariables false
inductive Op where
  | and
  | or
  | eq
  deriving DecidableEq
inductive Fm where
  | con (b : Bool)
  | lt (i : Nat)
  | neg (f : Fm)
  | bin (k : Op) (l r : Fm)
  deriving DecidableEq
abbrev T3 := Option Bool
def byte3 : T3 → UInt8
  | none => 63
  | some false => 48
  | some true => 49
theorem byte3_inj : ∀ {a b : T3}, byte3 a = byte3 b → a = b
  | none, none, _ => rfl
  | some false, some false, _ => rfl
  | some true, some true, _ => rfl
  | none, some false, h => absurd h (by decide)
  | none, some true, h => absurd h (by decide)
  | some false, none, h => absurd h (by decide)
  | some true, none, h => absurd h (by decide)
  | some false, some true, h => absurd h (by decide)
  | some true, some false, h => absurd h (by decide)
def opByte : Op → UInt8
  | .and => 38
  | .or => 124
  | .eq => 61
def opOf (b : UInt8) : Option Op := if b = 38 then some .and else if b = 124 then some .or else if b = 61 then some .eq else none
theorem opOf_byte : ∀ k, opOf (opByte k) = some k
  | .and => rfl
  | .or => rfl
  | .eq => rfl
theorem opOf_some {b : UInt8} {k : Op} (h : opOf b = some k) : b = opByte k := by
  unfold opOf at h
  split at h
  · cases h; assumption
  · split at h
    · cases h; assumption
    · split at h
      · cases h; assumption
      · cases h
def not3 : T3 → T3
  | none => none
  | some b => some (!b)
def and3 (a b : T3) : T3 := if a = some false ∨ b = some false then some false else if a = some true ∧ b = some true then some true else none
def or3 (a b : T3) : T3 := if a = some true ∨ b = some true then some true else if a = some false ∧ b = some false then some false else none
def eq3 (a b : T3) : T3 := if a = none ∨ b = none then none else if a = b then some true else some false
def op3 : Op → T3 → T3 → T3
  | .and => and3
  | .or => or3
  | .eq => eq3
def ev (ρ : Nat → T3) : Fm → T3
  | .con b => some b
  | .lt i => ρ i
  | .neg f => not3 (ev ρ f)
  | .bin k l r => op3 k (ev ρ l) (ev ρ r)
def Fm.low (n : Nat) : Fm → Prop
  | .con _ => True
  | .lt i => i < n
  | .neg f => f.low n
  | .bin _ l r => l.low n ∧ r.low n
def Fm.deep : Fm → Nat
  | .con _ => 0
  | .lt _ => 0
  | .neg f => f.deep + 1
  | .bin _ l r => max l.deep r.deep + 1
def getV (v : List T3) (i : Nat) : T3 := v.getD i none
def nextV (fs : List Fm) (v : List T3) : List T3 := fs.map (ev (getV v))
theorem nextV_len (fs : List Fm) (v : List T3) : (nextV fs v).length = fs.length := List.length_map _
def rdF (n : Nat) : Nat → List UInt8 → Option (Fm × List UInt8)
  | 0, _ => none
  | _ + 1, [] => none
  | k + 1, c :: t =>
    if c = 48 then some (.con false, t)
    else if c = 49 then some (.con true, t)
    else if 97 ≤ c.toNat ∧ c.toNat - 97 < n then some (.lt (c.toNat - 97), t)
    else if c = 33 then
      match rdF n k t with
      | none => none
      | some (f, r) => some (.neg f, r)
    else if c = 40 then
      match rdF n k t with
      | none => none
      | some (_, []) => none
      | some (l, o :: t2) =>
        match opOf o with
        | none => none
        | some op =>
          match rdF n k t2 with
          | none => none
          | some (_, []) => none
          | some (r, e :: t3) => if e = 41 then some (.bin op l r, t3) else none
    else none
theorem rd_spec (n : Nat) : ∀ (k : Nat) (s : List UInt8) (f : Fm) (r : List UInt8), rdF n k s = some (f, r) → f.low n ∧ ∃ p, s = p ++ r ∧ p ≠ [] ∧ f.deep < p.length
  | 0, s, f, r, h => by cases h
  | k + 1, [], f, r, h => by cases h
  | k + 1, c :: t, f, r, h => by
    unfold rdF at h
    split at h
    · cases h; exact ⟨trivial, [c], rfl, by simp, by simp [Fm.deep]⟩
    split at h
    · cases h; exact ⟨trivial, [c], rfl, by simp, by simp [Fm.deep]⟩
    split at h
    · rename_i hc; cases h; exact ⟨hc.2, [c], rfl, by simp, by simp [Fm.deep]⟩
    split at h
    · split at h
      · cases h
      · rename_i g u hg
        cases h
        obtain ⟨h1, p, rfl, hp, hd⟩ := rd_spec n k _ _ _ hg
        exact ⟨h1, c :: p, rfl, by simp, by simp [Fm.deep]; omega⟩
    split at h
    · split at h
      · cases h
      · cases h
      · rename_i l o t2 hl
        split at h
        · cases h
        · rename_i op hop
          split at h
          · cases h
          · cases h
          · rename_i r' e t3 hr
            split at h
            · cases h
              obtain ⟨h1, p, rfl, hp, hd⟩ := rd_spec n k _ _ _ hl
              obtain ⟨h2, q, rfl, hq, hd2⟩ := rd_spec n k _ _ _ hr
              exact ⟨⟨h1, h2⟩, c :: (p ++ o :: (q ++ [e])), by simp, by simp, by simp [Fm.deep]; omega⟩
            · cases h
    · cases h
def parseO (n : Nat) (s : List UInt8) : Option Fm :=
  match rdF n (s.length + 1) s with
  | some (f, []) => some f
  | _ => none
theorem parse_low {n : Nat} {s : List UInt8} {f : Fm} (h : parseO n s = some f) : f.low n := by
  unfold parseO at h
  split at h
  · rename_i g hg; cases h; exact (rd_spec n _ _ _ _ hg).1
  · cases h
def parseE (n : Nat) (s : List UInt8) : Int := if 40 < s.length then 3 else if (parseO n s).isNone then 5 else 0
def firstE (n : Nat) : List (List UInt8) → Int
  | [] => 0
  | s :: l => if parseE n s = 0 then firstE n l else parseE n s
def sysE (l : List (List UInt8)) : Int := if 10 < l.length then 3 else if l.length = 0 then 2 else firstE l.length l
def sysF (l : List (List UInt8)) : List Fm := l.map fun s => (parseO l.length s).getD (.con false)
theorem sysF_len (l : List (List UInt8)) : (sysF l).length = l.length := List.length_map _
theorem firstE_ok {n : Nat} : ∀ {l : List (List UInt8)}, firstE n l = 0 → ∀ s ∈ l, parseE n s = 0
  | [], _, s, hs => by cases hs
  | t :: l, h, s, hs => by
    unfold firstE at h
    split at h
    · rename_i ht
      rcases List.mem_cons.1 hs with rfl | hs
      · exact ht
      · exact firstE_ok h s hs
    · rename_i ht; exact absurd h ht
theorem parseE_ok {n : Nat} {s : List UInt8} (h : parseE n s = 0) : s.length ≤ 40 ∧ ∃ f, parseO n s = some f := by
  unfold parseE at h
  split at h
  · cases h
  · split at h
    · cases h
    · rename_i h1 h2
      refine ⟨by omega, ?_⟩
      cases hp : parseO n s with
      | none => rw [hp] at h2; exact absurd rfl h2
      | some f => exact ⟨f, rfl⟩
structure Sys (n : Nat) (fs : List Fm) : Prop where
  len : fs.length = n
  pos : 0 < n
  n10 : n ≤ 10
  low : ∀ f ∈ fs, f.low n
theorem sys_ok {l : List (List UInt8)} (h : sysE l = 0) : Sys l.length (sysF l) := by
  unfold sysE at h
  split at h
  · cases h
  · split at h
    · cases h
    · refine ⟨sysF_len l, by omega, by omega, ?_⟩
      intro f hf
      obtain ⟨s, hs, rfl⟩ := List.mem_map.1 hf
      obtain ⟨_, g, hg⟩ := parseE_ok (firstE_ok h s hs)
      rw [hg]
      exact parse_low hg
def valsB (B : List T3) : Nat → List (List T3)
  | 0 => [[]]
  | n + 1 => B.flatMap fun c => (valsB B n).map (c :: ·)
theorem mem_valsB {B : List T3} : ∀ {n : Nat} {v : List T3}, v ∈ valsB B n ↔ v.length = n ∧ ∀ x ∈ v, x ∈ B
  | 0, v => by
    unfold valsB
    constructor
    · intro h; rw [List.mem_singleton] at h; subst h; exact ⟨rfl, by simp⟩
    · rintro ⟨h, _⟩; rw [List.length_eq_zero_iff] at h; subst h; simp
  | n + 1, v => by
    unfold valsB
    simp only [List.mem_flatMap, List.mem_map]
    constructor
    · rintro ⟨c, hc, w, hw, rfl⟩
      obtain ⟨h1, h2⟩ := mem_valsB.1 hw
      exact ⟨by simp [h1], by simpa using ⟨hc, h2⟩⟩
    · rintro ⟨h1, h2⟩
      match v, h1, h2 with
      | c :: w, h1, h2 => exact ⟨c, h2 c (by simp), w, mem_valsB.2 ⟨by simpa using h1, fun x hx => h2 x (by simp [hx])⟩, rfl⟩
def base2 : List T3 := [some false, some true]
def base3 : List T3 := [some false, some true, none]
def wrB (B : List T3) : Nat → Nat → List T3
  | 0, _ => []
  | n + 1, x => wrB B n (x / B.length) ++ [B.getD (x % B.length) none]
theorem wrB_len (B : List T3) : ∀ (n x : Nat), (wrB B n x).length = n
  | 0, _ => rfl
  | n + 1, x => by unfold wrB; simp [wrB_len B n]
theorem wrB_front {B : List T3} (hB : 0 < B.length) : ∀ (n c x : Nat), c < B.length → x < B.length ^ n → wrB B (n + 1) (c * B.length ^ n + x) = B.getD c none :: wrB B n x
  | 0, c, x, hc, hx => by
    have : x = 0 := by simpa using hx
    subst this
    simp [wrB, Nat.mod_eq_of_lt hc]
  | n + 1, c, x, hc, hx => by
    have e1 : (c * B.length ^ (n + 1) + x) / B.length = c * B.length ^ n + x / B.length := by
      rw [Nat.pow_succ, ← Nat.mul_assoc, Nat.add_comm, Nat.add_mul_div_right _ _ hB, Nat.add_comm]
    have e2 : (c * B.length ^ (n + 1) + x) % B.length = x % B.length := by
      rw [Nat.pow_succ, ← Nat.mul_assoc, Nat.add_comm, Nat.add_mul_mod_self_right]
    have hx2 : x / B.length < B.length ^ n := by
      rw [Nat.div_lt_iff_lt_mul hB]; rwa [Nat.pow_succ] at hx
    rw [wrB, e1, e2, wrB_front hB n c _ hc hx2]
    conv => rhs; rw [wrB]
    rfl
theorem range_mul_flat (m : Nat) (f : Nat → List T3) : ∀ (b : Nat), (List.range (b * m)).map f = (List.range b).flatMap (fun c => (List.range m).map fun x => f (c * m + x))
  | 0 => by simp
  | b + 1 => by
    rw [List.range_succ, List.flatMap_append, ← range_mul_flat m f b, Nat.succ_mul, List.range_add, List.map_append]
    simp [List.map_map]
theorem flat_get {β : Type} (g : T3 → List β) (B : List T3) : B.flatMap g = (List.range B.length).flatMap (fun c => g (B.getD c none)) := by
  have : B = (List.range B.length).map (fun c => B.getD c none) := by
    apply List.ext_getElem
    · simp
    · intro i h1 h2; simp [h1]
  conv => lhs; rw [this, List.flatMap_map]
theorem vals_wr {B : List T3} (hB : 0 < B.length) : ∀ (n : Nat), (List.range (B.length ^ n)).map (wrB B n) = valsB B n
  | 0 => rfl
  | n + 1 => by
    rw [Nat.pow_succ, Nat.mul_comm, range_mul_flat]
    unfold valsB
    rw [← vals_wr hB n, flat_get]
    apply flat_congr
    intro c hc
    have hc := List.mem_range.1 hc
    rw [List.map_map]
    apply List.map_congr_left
    intro x hx
    have hx := List.mem_range.1 hx
    have := wrB_front hB n c x hc hx
    simpa using this
where
  flat_congr {α β : Type} {f g : α → List β} : ∀ {l : List α}, (∀ a ∈ l, f a = g a) → l.flatMap f = l.flatMap g
    | [], _ => rfl
    | a :: l, h => by
      rw [List.flatMap_cons, List.flatMap_cons, h a (by simp), flat_congr (fun b hb => h b (by simp [hb]))]
end Go.Proofs.YtijaefmaceolbaaGreatDoor.Tr

namespace Go.Proofs.YtijaefmaceolbaaGreatDoor.Tr
set_option linter.unusedVariables false
def leT (a b : T3) : Prop := a = none ∨ a = b
theorem leT.refl (a : T3) : leT a a := .inr rfl
theorem leT.trans {a b c : T3} (h : leT a b) (k : leT b c) : leT a c := by
  rcases h with rfl | rfl
  · exact .inl rfl
  · exact k
theorem leT.anti {a b : T3} (h : leT a b) (k : leT b a) : a = b := by
  rcases h with rfl | rfl
  · rcases k with rfl | rfl <;> rfl
  · rfl
instance (a b : T3) : Decidable (leT a b) := inferInstanceAs (Decidable (_ ∨ _))
theorem all3 {p : T3 → Prop} (h0 : p none) (h1 : p (some false)) (h2 : p (some true)) : ∀ a, p a
  | none => h0
  | some false => h1
  | some true => h2
theorem not3_mono {a b : T3} (h : leT a b) : leT (not3 a) (not3 b) := by
  rcases h with rfl | rfl
  · exact .inl rfl
  · exact .refl _
theorem op3_left (k : Op) (a b : T3) : leT (op3 k none b) (op3 k a b) := by
  rcases a with _ | (_ | _) <;> rcases b with _ | (_ | _) <;> cases k <;> decide
theorem op3_right (k : Op) (a b : T3) : leT (op3 k a none) (op3 k a b) := by
  rcases a with _ | (_ | _) <;> rcases b with _ | (_ | _) <;> cases k <;> decide
theorem op3_mono {a a' b b' : T3} (k : Op) (h : leT a a') (g : leT b b') : leT (op3 k a b) (op3 k a' b') := by
  refine leT.trans (b := op3 k a' b) ?_ ?_
  · rcases h with rfl | rfl
    · exact op3_left k _ _
    · exact .refl _
  · rcases g with rfl | rfl
    · exact op3_right k _ _
    · exact .refl _
theorem ev_mono {ρ σ : Nat → T3} (h : ∀ i, leT (ρ i) (σ i)) : ∀ (f : Fm), leT (ev ρ f) (ev σ f)
  | .con _ => .refl _
  | .lt i => h i
  | .neg f => not3_mono (ev_mono h f)
  | .bin k l r => op3_mono k (ev_mono h l) (ev_mono h r)
theorem not3_some {a : T3} (h : a ≠ none) : not3 a ≠ none := by
  revert h; exact all3 (p := fun a => a ≠ none → not3 a ≠ none) (by decide) (by decide) (by decide) a
theorem op3_some {a b : T3} (k : Op) (h : a ≠ none) (g : b ≠ none) : op3 k a b ≠ none := by
  match a, b, h, g with
  | some false, some false, _, _ => cases k <;> decide
  | some false, some true, _, _ => cases k <;> decide
  | some true, some false, _, _ => cases k <;> decide
  | some true, some true, _, _ => cases k <;> decide
  | none, _, h, _ => exact absurd rfl h
  | _, none, _, h => exact absurd rfl h
theorem ev_some {n : Nat} {ρ : Nat → T3} (h : ∀ i, i < n → ρ i ≠ none) : ∀ {f : Fm}, f.low n → ev ρ f ≠ none
  | .con _, _ => by simp [ev]
  | .lt i, hf => h i hf
  | .neg f, hf => not3_some (ev_some h (f := f) hf)
  | .bin k l r, hf => op3_some k (ev_some h hf.1) (ev_some h hf.2)
def leV (v w : List T3) : Prop := ∀ i, leT (getV v i) (getV w i)
theorem leV.refl (v : List T3) : leV v v := fun _ => .refl _
theorem leV.trans {u v w : List T3} (h : leV u v) (k : leV v w) : leV u w := fun i => (h i).trans (k i)
theorem getV_ext {v w : List T3} (hl : v.length = w.length) (h : ∀ i, i < v.length → getV v i = getV w i) : v = w := by
  apply List.ext_getElem hl
  intro i h1 h2
  have := h i h1
  simpa [getV, h1, h2] using this
theorem leV.anti {v w : List T3} (hl : v.length = w.length) (h : leV v w) (k : leV w v) : v = w := getV_ext hl fun i _ => (h i).anti (k i)
theorem getV_next {fs : List Fm} {v : List T3} {i : Nat} (h : i < fs.length) : getV (nextV fs v) i = ev (getV v) (fs.getD i (.con false)) := by
  simp [getV, nextV, h]
theorem getV_far {v : List T3} {i : Nat} (h : v.length ≤ i) : getV v i = none := by
  simp [getV, h]
theorem nextV_mono {fs : List Fm} {v w : List T3} (h : leV v w) : leV (nextV fs v) (nextV fs w) := fun i => by
  rcases Nat.lt_or_ge i fs.length with hi | hi
  · rw [getV_next hi, getV_next hi]; exact ev_mono h _
  · rw [getV_far (by rw [nextV_len]; exact hi), getV_far (by rw [nextV_len]; exact hi)]; exact .refl _
def cntV (v : List T3) : Nat := v.countP Option.isSome
theorem leV_tail {a b : T3} {v w : List T3} (h : leV (a :: v) (b :: w)) : leT a b ∧ leV v w := ⟨h 0, fun i => h (i + 1)⟩
theorem cntV_mono : ∀ {v w : List T3}, v.length = w.length → leV v w → cntV v ≤ cntV w ∧ (cntV v = cntV w → v = w)
  | [], [], _, _ => ⟨Nat.le_refl _, fun _ => rfl⟩
  | a :: v, b :: w, hl, h => by
    obtain ⟨h1, h2⟩ := leV_tail h
    obtain ⟨h3, h4⟩ := cntV_mono (by simpa using hl) h2
    unfold cntV at h3 h4 ⊢
    rw [List.countP_cons, List.countP_cons]
    rcases h1 with rfl | rfl
    · cases b with
      | none => exact ⟨by simpa using h3, fun e => by rw [h4 (by simpa using e)]⟩
      | some b => exact ⟨by simp; omega, fun e => by simp at e; omega⟩
    · exact ⟨by omega, fun e => by rw [h4 (by omega)]⟩
  | [], _ :: _, hl, _ => by simp at hl
  | _ :: _, [], hl, _ => by simp at hl
theorem cntV_le (v : List T3) : cntV v ≤ v.length := List.countP_le_length
def iterV (fs : List Fm) : Nat → List T3 → List T3
  | 0, v => v
  | k + 1, v => nextV fs (iterV fs k v)
theorem iterV_len {fs : List Fm} {v : List T3} (h : v.length = fs.length) : ∀ k, (iterV fs k v).length = fs.length
  | 0 => h
  | _ + 1 => nextV_len _ _
theorem iterV_up {fs : List Fm} {v : List T3} (hu : leV v (nextV fs v)) : ∀ k, leV (iterV fs k v) (iterV fs (k + 1) v)
  | 0 => hu
  | k + 1 => nextV_mono (iterV_up hu k)
theorem iterV_above {fs : List Fm} {v : List T3} (hu : leV v (nextV fs v)) : ∀ k, leV v (iterV fs k v)
  | 0 => .refl _
  | k + 1 => (iterV_above hu k).trans (iterV_up hu k)
theorem iterV_cnt {fs : List Fm} {v : List T3} (hl : v.length = fs.length) (hu : leV v (nextV fs v)) : ∀ k, iterV fs (k + 1) v = iterV fs k v ∨ k ≤ cntV (iterV fs k v)
  | 0 => .inr (Nat.zero_le _)
  | k + 1 => by
    have h1 := cntV_mono (by rw [iterV_len hl, iterV_len hl]) (iterV_up hu k)
    rcases iterV_cnt hl hu k with h | h
    · exact .inl (congrArg (nextV fs) h)
    · rcases Nat.lt_or_ge (cntV (iterV fs k v)) (cntV (iterV fs (k + 1) v)) with h2 | h2
      · exact .inr (by omega)
      · exact .inl (congrArg (nextV fs) (h1.2 (by omega)).symm)
def isFix (fs : List Fm) (v : List T3) : Prop := nextV fs v = v
instance (fs : List Fm) (v : List T3) : Decidable (isFix fs v) := inferInstanceAs (Decidable (_ = _))
theorem isFix.len {fs : List Fm} {v : List T3} (h : isFix fs v) : v.length = fs.length := by rw [← nextV_len fs v, h]
theorem iterV_fix {fs : List Fm} {v : List T3} (hl : v.length = fs.length) (hu : leV v (nextV fs v)) : isFix fs (iterV fs fs.length v) := by
  rcases iterV_cnt hl hu fs.length with h | h
  · exact h
  · have h1 := cntV_mono (by rw [iterV_len hl, iterV_len hl]) (iterV_up hu fs.length)
    have h2 := cntV_le (iterV fs (fs.length + 1) v)
    rw [iterV_len hl] at h2
    exact (h1.2 (by omega)).symm
theorem iterV_least {fs : List Fm} {v w : List T3} (h : leV v w) (hw : isFix fs w) : ∀ k, leV (iterV fs k v) w
  | 0 => h
  | k + 1 => by
    have := nextV_mono (fs := fs) (iterV_least h hw k)
    rw [hw] at this
    exact this
def noneV (n : Nat) : List T3 := List.replicate n none
theorem noneV_le (n : Nat) (w : List T3) : leV (noneV n) w := fun i => .inl (by
  unfold getV noneV
  rw [List.getD_eq_getElem?_getD, List.getElem?_replicate]
  split <;> rfl)
def leastV (fs : List Fm) : List T3 := iterV fs fs.length (noneV fs.length)
theorem leastV_len (fs : List Fm) : (leastV fs).length = fs.length := iterV_len (by simp [noneV]) _
theorem leastV_fix (fs : List Fm) : isFix fs (leastV fs) := iterV_fix (by simp [noneV]) (noneV_le _ _)
theorem leastV_le {fs : List Fm} {w : List T3} (h : isFix fs w) : leV (leastV fs) w := iterV_least (noneV_le _ _) h _
def comV (v w : List T3) : Prop := ∀ i, getV v i = none ∨ getV w i = none ∨ getV v i = getV w i
theorem comV.symm {v w : List T3} (h : comV v w) : comV w v := fun i => by
  rcases h i with h | h | h
  · exact .inr (.inl h)
  · exact .inl h
  · exact .inr (.inr h.symm)
theorem comV.of_le {v w x : List T3} (h : leV v x) (k : leV w x) : comV v w := fun i => by
  rcases h i with h | h
  · exact .inl h
  · rcases k i with k | k
    · exact .inr (.inl k)
    · exact .inr (.inr (h.trans k.symm))
def intrV (fs : List Fm) (v : List T3) : Prop := isFix fs v ∧ ∀ w, isFix fs w → comV v w
def joinV (v w : List T3) : List T3 := (List.range v.length).map fun i => if getV v i = none then getV w i else getV v i
theorem joinV_len (v w : List T3) : (joinV v w).length = v.length := by simp [joinV]
theorem getV_join (v w : List T3) (hl : w.length = v.length) (i : Nat) : getV (joinV v w) i = if getV v i = none then getV w i else getV v i := by
  rcases Nat.lt_or_ge i v.length with h | h
  · simp [getV, joinV, h]
  · rw [getV_far (by rw [joinV_len]; exact h), if_pos (getV_far h), getV_far (by omega)]
theorem le_join_left (v w : List T3) (hl : w.length = v.length) : leV v (joinV v w) := fun i => by
  rw [getV_join v w hl]
  split
  · rename_i h; exact .inl h
  · exact .refl _
theorem le_join_right {v w : List T3} (hl : w.length = v.length) (hc : comV v w) : leV w (joinV v w) := fun i => by
  rw [getV_join v w hl]
  split
  · exact .refl _
  · rename_i h
    rcases hc i with h1 | h1 | h1
    · exact absurd h1 h
    · exact .inl h1
    · exact .inr h1.symm
theorem join_le {v w x : List T3} (hl : w.length = v.length) (h : leV v x) (k : leV w x) : leV (joinV v w) x := fun i => by
  rw [getV_join v w hl]
  split
  · exact k i
  · exact h i
theorem above_both {fs : List Fm} {v w : List T3} (hv : v.length = fs.length) (hw : w.length = fs.length) (uv : leV v (nextV fs v)) (uw : leV w (nextV fs w)) (hc : comV v w) :
    ∃ x, isFix fs x ∧ leV v x ∧ leV w x ∧ ∀ y, isFix fs y → leV v y → leV w y → leV x y := by
  have hj : leV (joinV v w) (nextV fs (joinV v w)) := join_le (by omega) (uv.trans (nextV_mono (le_join_left v w (by omega)))) (uw.trans (nextV_mono (le_join_right (by omega) hc)))
  have hl : (joinV v w).length = fs.length := by rw [joinV_len, hv]
  have ha := iterV_above hj fs.length
  exact ⟨iterV fs fs.length (joinV v w), iterV_fix hl hj, (le_join_left v w (by omega)).trans ha, (le_join_right (by omega) hc).trans ha,
    fun y hy h1 h2 => iterV_least (join_le (by omega) h1 h2) hy _⟩
theorem fix_up {fs : List Fm} {v : List T3} (h : isFix fs v) : leV v (nextV fs v) := by rw [show nextV fs v = v from h]; exact .refl _
theorem intr_join {fs : List Fm} {v w : List T3} (hv : intrV fs v) (hw : intrV fs w) : ∃ x, intrV fs x ∧ leV v x ∧ leV w x := by
  have lv := hv.1.len
  have lw := hw.1.len
  obtain ⟨x, fx, v1, w1, least⟩ := above_both lv lw (fix_up hv.1) (fix_up hw.1) (hv.2 w hw.1)
  refine ⟨x, ⟨fx, fun z hz => ?_⟩, v1, w1⟩
  obtain ⟨y, fy, vy, zy, _⟩ := above_both lv hz.len (fix_up hv.1) (fix_up hz) (hv.2 z hz)
  obtain ⟨y2, fy2, wy2, yy2, _⟩ := above_both lw fy.len (fix_up hw.1) (fix_up fy) (hw.2 y fy)
  exact .of_le (least y2 fy2 (vy.trans yy2) wy2) (zy.trans yy2)
theorem intr_least (fs : List Fm) : intrV fs (leastV fs) := ⟨leastV_fix fs, fun _ hw => .of_le (leastV_le hw) (.refl _)⟩
theorem intr_top (fs : List Fm) : ∃ g, intrV fs g ∧ ∀ v, intrV fs v → leV v g := by
  have : ∀ (d : Nat) (v : List T3), intrV fs v → fs.length - cntV v ≤ d → ∃ g, intrV fs g ∧ ∀ v, intrV fs v → leV v g := by
    intro d
    induction d with
    | zero =>
      intro v hv hd
      refine ⟨v, hv, fun w hw => ?_⟩
      obtain ⟨x, hx, vx, wx⟩ := intr_join hv hw
      have h1 := cntV_mono (by rw [hv.1.len, hx.1.len]) vx
      have h2 := cntV_le x
      rw [hx.1.len] at h2
      rw [h1.2 (by omega)]
      exact wx
    | succ d ih =>
      intro v hv hd
      by_cases h : ∀ w, intrV fs w → leV w v
      · exact ⟨v, hv, h⟩
      · obtain ⟨w, hw⟩ := Classical.not_forall.1 h
        obtain ⟨hw, hwv⟩ := Classical.not_imp.1 hw
        obtain ⟨x, hx, vx, wx⟩ := intr_join hv hw
        have h1 := cntV_mono (by rw [hv.1.len, hx.1.len]) vx
        refine ih x hx ?_
        rcases Nat.lt_or_ge (cntV v) (cntV x) with h2 | h2
        · omega
        · rw [← h1.2 (by omega)] at wx
          exact absurd wx hwv
  exact this _ _ (intr_least fs) (Nat.le_refl _)
end Go.Proofs.YtijaefmaceolbaaGreatDoor.Tr

namespace Go.Proofs.YtijaefmaceolbaaGreatDoor.Tr
set_option linter.unusedVariables false
def fixB (fs : List Fm) (v : List T3) : Bool := decide (isFix fs v)
def fixL (fs : List Fm) : List (List T3) := (valsB base3 fs.length).filter (fixB fs)
theorem in_base3 : ∀ (x : T3), x ∈ base3
  | none => by decide
  | some false => by decide
  | some true => by decide
theorem mem_fixL {fs : List Fm} {v : List T3} : v ∈ fixL fs ↔ isFix fs v := by
  unfold fixL
  rw [List.mem_filter, mem_valsB]
  constructor
  · rintro ⟨_, h⟩; exact of_decide_eq_true h
  · intro h; exact ⟨⟨h.len, fun x _ => in_base3 x⟩, decide_eq_true h⟩
def comB (v w : List T3) : Bool := (List.range v.length).all fun i => getV v i == none || (getV w i == none || getV v i == getV w i)
theorem comB_iff {v w : List T3} : comB v w = true ↔ comV v w := by
  unfold comB comV
  rw [List.all_eq_true]
  constructor
  · intro h i
    rcases Nat.lt_or_ge i v.length with hi | hi
    · have := h i (List.mem_range.2 hi)
      simpa [Bool.or_eq_true, beq_iff_eq] using this
    · exact .inl (getV_far hi)
  · intro h i _
    have := h i
    simpa [Bool.or_eq_true, beq_iff_eq] using this
def extB (v w : List T3) : Bool := (List.range v.length).all fun i => getV w i == none || getV v i == getV w i
theorem extB_iff {v w : List T3} (hl : v.length = w.length) : extB v w = true ↔ leV w v := by
  unfold extB leV leT
  rw [List.all_eq_true]
  constructor
  · intro h i
    rcases Nat.lt_or_ge i v.length with hi | hi
    · have := h i (List.mem_range.2 hi)
      rcases (by simpa [Bool.or_eq_true, beq_iff_eq] using this : getV w i = none ∨ getV v i = getV w i) with h | h
      · exact .inl h
      · exact .inr h.symm
    · exact .inl (getV_far (by omega))
  · intro h i _
    rcases h i with h | h <;> simp [h]
def intB (all : List (List T3)) (v : List T3) : Bool := all.all (comB v)
theorem intB_iff {fs : List Fm} {v : List T3} (h : isFix fs v) : intB (fixL fs) v = true ↔ intrV fs v := by
  unfold intB intrV
  rw [List.all_eq_true]
  exact ⟨fun k => ⟨h, fun w hw => comB_iff.1 (k w (mem_fixL.2 hw))⟩, fun k w hw => comB_iff.2 (k.2 w (mem_fixL.1 hw))⟩
def stepP (all : List (List T3)) (b : Option (List T3)) (v : List T3) : Option (List T3) :=
  if intB all v then (match b with | none => some v | some c => if cntV c < cntV v then some v else some c) else b
def stepR (all : List (List T3)) (b v : List T3) : List T3 := if extB v b && intB all v then v else b
theorem foldP {fs : List Fm} {g : List T3} (hg : intrV fs g) (top : ∀ v, intrV fs v → leV v g) : ∀ (l : List (List T3)) (b : Option (List T3)), (∀ v ∈ l, isFix fs v) → (∀ c, b = some c → intrV fs c) → (g ∈ l ∨ b = some g) →
    l.foldl (stepP (fixL fs)) b = some g
  | [], b, _, _, h => by
    rcases h with h | h
    · cases h
    · exact h
  | v :: l, b, hl, hb, h => by
    rw [List.foldl_cons]
    have hv := hl v (by simp)
    have hl' : ∀ v ∈ l, isFix fs v := fun w hw => hl w (by simp [hw])
    unfold stepP
    by_cases hi : intB (fixL fs) v = true
    · rw [if_pos hi]
      have iv := (intB_iff hv).1 hi
      have cv := cntV_mono (by rw [hv.len, hg.1.len]) (top v iv)
      cases b with
      | none =>
        refine foldP hg top l _ hl' (fun c hc => by cases hc; exact iv) ?_
        rcases h with h | h
        · rcases List.mem_cons.1 h with rfl | h
          · exact .inr rfl
          · exact .inl h
        · cases h
      | some c =>
        have ic := hb c rfl
        have cc := cntV_mono (by rw [ic.1.len, hg.1.len]) (top c ic)
        show l.foldl _ (if cntV c < cntV v then some v else some c) = _
        split
        · rename_i hlt
          refine foldP hg top l _ hl' (fun d hd => by cases hd; exact iv) ?_
          rcases h with h | h
          · rcases List.mem_cons.1 h with rfl | h
            · exact .inr rfl
            · exact .inl h
          · cases h; omega
        · rename_i hlt
          refine foldP hg top l _ hl' (fun d hd => by cases hd; exact ic) ?_
          rcases h with h | h
          · rcases List.mem_cons.1 h with rfl | h
            · exact .inr (by rw [cc.2 (by omega)])
            · exact .inl h
          · exact .inr h
    · rw [if_neg hi]
      refine foldP hg top l b hl' hb ?_
      rcases h with h | h
      · rcases List.mem_cons.1 h with rfl | h
        · exact absurd ((intB_iff hv).2 hg) hi
        · exact .inl h
      · exact .inr h
theorem foldR {fs : List Fm} {g : List T3} (hg : intrV fs g) (top : ∀ v, intrV fs v → leV v g) : ∀ (l : List (List T3)) (b : List T3), (∀ v ∈ l, isFix fs v) → intrV fs b → (g ∈ l ∨ b = g) →
    l.foldl (stepR (fixL fs)) b = g
  | [], b, _, _, h => by
    rcases h with h | h
    · cases h
    · exact h
  | v :: l, b, hl, ib, h => by
    rw [List.foldl_cons]
    have hv := hl v (by simp)
    have hl' : ∀ v ∈ l, isFix fs v := fun w hw => hl w (by simp [hw])
    have he := extB_iff (v := v) (w := b) (by rw [hv.len, ib.1.len])
    unfold stepR
    by_cases hi : (extB v b && intB (fixL fs) v) = true
    · rw [if_pos hi]
      rw [Bool.and_eq_true] at hi
      have iv := (intB_iff hv).1 hi.2
      refine foldR hg top l _ hl' iv ?_
      rcases h with h | h
      · rcases List.mem_cons.1 h with rfl | h
        · exact .inr rfl
        · exact .inl h
      · subst h
        exact .inr (leV.anti (by rw [hv.len, ib.1.len]) (top v iv) (he.1 hi.1))
    · rw [if_neg hi]
      refine foldR hg top l b hl' ib ?_
      rcases h with h | h
      · rcases List.mem_cons.1 h with rfl | h
        · exact absurd (by rw [Bool.and_eq_true]; exact ⟨he.2 (top b ib), (intB_iff hv).2 hg⟩) hi
        · exact .inl h
      · exact .inr h
noncomputable def topV (fs : List Fm) : List T3 := Classical.choose (intr_top fs)
theorem topV_int (fs : List Fm) : intrV fs (topV fs) := (Classical.choose_spec (intr_top fs)).1
theorem topV_top {fs : List Fm} {v : List T3} (h : intrV fs v) : leV v (topV fs) := (Classical.choose_spec (intr_top fs)).2 v h
theorem prog_top (fs : List Fm) : (fixL fs).foldl (stepP (fixL fs)) none = some (topV fs) :=
  foldP (topV_int fs) (fun _ h => topV_top h) _ _ (fun _ h => mem_fixL.1 h) (fun _ h => by cases h) (.inl (mem_fixL.2 (topV_int fs).1))
theorem ref_top (fs : List Fm) : (fixL fs).foldl (stepR (fixL fs)) (leastV fs) = topV fs :=
  foldR (topV_int fs) (fun _ h => topV_top h) _ _ (fun _ h => mem_fixL.1 h) (intr_least fs) (.inl (mem_fixL.2 (topV_int fs).1))
end Go.Proofs.YtijaefmaceolbaaGreatDoor.Tr

namespace Go.Proofs.YtijaefmaceolbaaGreatDoor.Tr
set_option linter.unusedVariables false
theorem nodup_le : ∀ (N : Nat) (L : List Nat), L.Nodup → (∀ x ∈ L, x < N) → L.length ≤ N
  | 0, [], _, _ => Nat.le_refl _
  | 0, x :: _, _, h => absurd (h x (by simp)) (by omega)
  | N + 1, L, hn, h => by
    have h1 := nodup_le N (L.erase N) (hn.erase N) (fun x hx => by
      have hx := (hn.mem_erase_iff).1 hx
      have := h x hx.2
      have := hx.1
      omega)
    by_cases hm : N ∈ L
    · rw [List.length_erase_of_mem hm] at h1; omega
    · rw [List.erase_of_not_mem hm] at h1; omega
def bit3 : T3 → Nat
  | some true => 1
  | _ => 0
def numFrom (a : Nat) : List T3 → Nat
  | [] => a
  | c :: v => numFrom (2 * a + bit3 c) v
def numV (v : List T3) : Nat := numFrom 0 v
def totV (v : List T3) : Prop := ∀ x ∈ v, x ≠ none
theorem numFrom_snoc : ∀ (v : List T3) (a : Nat) (c : T3), numFrom a (v ++ [c]) = 2 * numFrom a v + bit3 c
  | [], _, _ => rfl
  | d :: v, a, c => by rw [List.cons_append, numFrom, numFrom, numFrom_snoc v]
theorem numV_wr : ∀ (n x : Nat), x < 2 ^ n → numV (wrB base2 n x) = x
  | 0, x, h => by
    have : x = 0 := by simpa using h
    subst this; rfl
  | n + 1, x, h => by
    have hl : base2.length = 2 := rfl
    rw [wrB, hl, numV, numFrom_snoc]
    have ih := numV_wr n (x / 2) (by rw [Nat.pow_succ] at h; omega)
    rw [numV] at ih
    rw [ih]
    have : bit3 (base2.getD (x % 2) none) = x % 2 := by
      rcases Nat.mod_two_eq_zero_or_one x with h | h <;> rw [h] <;> rfl
    rw [this]; omega
theorem wr_tot : ∀ (n x : Nat), totV (wrB base2 n x)
  | 0, _ => by intro y hy; cases hy
  | n + 1, x => by
    intro y hy
    rw [wrB, List.mem_append, List.mem_singleton] at hy
    rcases hy with hy | rfl
    · exact wr_tot n _ y hy
    · have hl : base2.length = 2 := rfl
      rw [hl]
      rcases Nat.mod_two_eq_zero_or_one x with h | h <;> rw [h] <;> simp [base2]
theorem tot_mem {n : Nat} {v : List T3} (hl : v.length = n) (h : totV v) : v ∈ valsB base2 n := mem_valsB.2 ⟨hl, fun x hx => by
  have := h x hx
  rcases x with _ | (_ | _)
  · exact absurd rfl this
  · decide
  · decide⟩
theorem wr_num {n : Nat} {v : List T3} (hl : v.length = n) (h : totV v) : wrB base2 n (numV v) = v ∧ numV v < 2 ^ n := by
  have hm := tot_mem hl h
  rw [← vals_wr (B := base2) (by decide) n] at hm
  obtain ⟨x, hx, rfl⟩ := List.mem_map.1 hm
  have hx : x < 2 ^ n := List.mem_range.1 hx
  rw [numV_wr n x hx]
  exact ⟨rfl, hx⟩
theorem getV_tot {v : List T3} (h : totV v) {i : Nat} (hi : i < v.length) : getV v i ≠ none := by
  have : getV v i = v[i] := by simp [getV, hi]
  rw [this]
  exact h _ (List.getElem_mem hi)
theorem nextV_tot {n : Nat} {fs : List Fm} (S : Sys n fs) {v : List T3} (hl : v.length = n) (h : totV v) : totV (nextV fs v) := by
  intro x hx
  obtain ⟨f, hf, rfl⟩ := List.mem_map.1 hx
  exact ev_some (fun i hi => getV_tot h (by omega)) (S.low f hf)
theorem iterV_tot {n : Nat} {fs : List Fm} (S : Sys n fs) {v : List T3} (hl : v.length = n) (h : totV v) : ∀ k, totV (iterV fs k v)
  | 0 => h
  | k + 1 => nextV_tot S (by rw [iterV_len (by rw [hl, S.len]), S.len]) (iterV_tot S hl h k)
theorem iterV_add (fs : List Fm) (v : List T3) (a : Nat) : ∀ b, iterV fs (b + a) v = iterV fs b (iterV fs a v)
  | 0 => by rw [Nat.zero_add]; rfl
  | b + 1 => by rw [Nat.add_right_comm, iterV, iterV_add fs v a b]; rfl
structure IsRep (fs : List Fm) (v : List T3) (i j : Nat) : Prop where
  lt : i < j
  eq : iterV fs j v = iterV fs i v
  apart : ∀ a b, a < b → b < j → iterV fs a v ≠ iterV fs b v
theorem IsRep.unique {fs : List Fm} {v : List T3} {i j i' j' : Nat} (h : IsRep fs v i j) (h' : IsRep fs v i' j') : i = i' ∧ j = j' := by
  have hj : j = j' := by
    rcases Nat.lt_trichotomy j j' with k | k | k
    · exact absurd h.eq.symm (h'.apart i j h.lt k)
    · exact k
    · exact absurd h'.eq.symm (h.apart i' j' h'.lt k)
  subst hj
  refine ⟨?_, rfl⟩
  rcases Nat.lt_trichotomy i i' with k | k | k
  · exact absurd (h.eq.symm.trans h'.eq) (h.apart i i' k h'.lt)
  · exact k
  · exact absurd (h'.eq.symm.trans h.eq) (h.apart i' i k h.lt)
theorem orbit_bound {n : Nat} {fs : List Fm} (S : Sys n fs) {v : List T3} (hl : v.length = n) (h : totV v) {k : Nat} (ap : ∀ a b, a < b → b < k → iterV fs a v ≠ iterV fs b v) : k ≤ 2 ^ n := by
  have h1 := nodup_le (2 ^ n) ((List.range k).map fun a => numV (iterV fs a v)) (by
    rw [List.nodup_iff_pairwise_ne, List.pairwise_map]
    refine List.Pairwise.imp_of_mem ?_ (List.pairwise_lt_range (n := k))
    intro a b ha hb hab e
    have e1 := (wr_num (by rw [iterV_len (by rw [hl, S.len]), S.len]) (iterV_tot S hl h a)).1
    have e2 := (wr_num (by rw [iterV_len (by rw [hl, S.len]), S.len]) (iterV_tot S hl h b)).1
    rw [e] at e1
    exact ap a b hab (List.mem_range.1 hb) (e1.symm.trans e2)) (fun x hx => by
    obtain ⟨a, _, rfl⟩ := List.mem_map.1 hx
    exact (wr_num (by rw [iterV_len (by rw [hl, S.len]), S.len]) (iterV_tot S hl h a)).2)
  simpa using h1
theorem rep_exists {n : Nat} {fs : List Fm} (S : Sys n fs) {v : List T3} (hl : v.length = n) (h : totV v) : ∃ i j, IsRep fs v i j ∧ j ≤ 2 ^ n := by
  have key : ∀ (d k : Nat), 2 ^ n + 1 - k ≤ d → (∀ a b, a < b → b < k → iterV fs a v ≠ iterV fs b v) → ∃ i j, IsRep fs v i j := by
    intro d
    induction d with
    | zero =>
      intro k hd ap
      have := orbit_bound S hl h ap
      omega
    | succ d ih =>
      intro k hd ap
      by_cases hx : ∃ i, i < k ∧ iterV fs k v = iterV fs i v
      · obtain ⟨i, hi, e⟩ := hx
        exact ⟨i, k, hi, e, ap⟩
      · refine ih (k + 1) (by omega) (fun a b hab hb e => ?_)
        rcases Nat.lt_or_ge b k with hb2 | hb2
        · exact ap a b hab hb2 e
        · have : b = k := by omega
          subst this
          exact hx ⟨a, hab, e.symm⟩
  obtain ⟨i, j, hr⟩ := key _ 0 (Nat.le_refl _) (fun a b _ hb => by omega)
  exact ⟨i, j, hr, orbit_bound S hl h hr.apart⟩
def recV (fs : List Fm) (v : List T3) : Prop := ∃ k, 0 < k ∧ iterV fs k v = v
theorem rec_iter {fs : List Fm} {v : List T3} (h : recV fs v) (a : Nat) : recV fs (iterV fs a v) := by
  obtain ⟨k, hk, e⟩ := h
  refine ⟨k, hk, ?_⟩
  rw [← iterV_add, Nat.add_comm, iterV_add, e]
def IsStab (n : Nat) (fs : List Fm) (out : List T3) : Prop := out.length = n ∧ ∀ i, i < n → ∀ b : Bool, getV out i = some b ↔ ∀ w : List T3, w.length = n → totV w → recV fs w → getV w i = some b
theorem IsStab.unique {n : Nat} {fs : List Fm} {a b : List T3} (ha : IsStab n fs a) (hb : IsStab n fs b) : a = b := by
  refine getV_ext (by rw [ha.1, hb.1]) fun i hi => ?_
  have hi : i < n := by rw [← ha.1]; exact hi
  cases h : getV a i with
  | some x => exact ((hb.2 i hi x).2 ((ha.2 i hi x).1 h)).symm
  | none =>
    cases k : getV b i with
    | none => rfl
    | some x =>
      have := (ha.2 i hi x).2 ((hb.2 i hi x).1 k)
      rw [h] at this
      cases this
def itN (f : Nat → Nat) : Nat → Nat → Nat
  | 0, x => x
  | k + 1, x => f (itN f k x)
theorem itN_add (f : Nat → Nat) (a x : Nat) : ∀ b, itN f (b + a) x = itN f b (itN f a x)
  | 0 => by rw [Nat.zero_add]; rfl
  | b + 1 => by rw [Nat.add_right_comm, itN, itN_add f a x b]; rfl
theorem led_rec (N : Nat) (f : Nat → Nat) (L : Nat → Prop) (hL : ∀ x, L x → x < N) (led : ∀ x, L x → ∃ y, L y ∧ f y = x) : ∀ x, L x → ∃ k, 0 < k ∧ itN f k x = x := by
  intro x hx
  have hch : ∃ p : Nat → Nat, ∀ y, L y → L (p y) ∧ f (p y) = y := by
    classical
    refine ⟨fun y => if h : L y then Classical.choose (led y h) else 0, fun y hy => ?_⟩
    simp only [dif_pos hy]
    exact Classical.choose_spec (led y hy)
  obtain ⟨p, hp⟩ := hch
  have hb : ∀ k, L (itN p k x) := by
    intro k
    induction k with
    | zero => exact hx
    | succ k ih => exact (hp _ ih).1
  have hback : ∀ b a, itN f b (itN p (b + a) x) = itN p a x := by
    intro b
    induction b with
    | zero => intro a; rw [Nat.zero_add]; rfl
    | succ b ih =>
      intro a
      rw [show b + 1 + a = b + (a + 1) by omega, show itN f (b + 1) (itN p (b + (a + 1)) x) = f (itN f b (itN p (b + (a + 1)) x)) from rfl, ih (a + 1)]
      exact (hp _ (hb a)).2
  have hdup : ∃ a b, a < b ∧ itN p a x = itN p b x := by
    refine Classical.byContradiction fun hno => ?_
    have hno : ∀ a b, a < b → itN p a x ≠ itN p b x := fun a b hab e => hno ⟨a, b, hab, e⟩
    have h1 := nodup_le N ((List.range (N + 1)).map fun a => itN p a x) (by
      rw [List.nodup_iff_pairwise_ne, List.pairwise_map]
      exact List.Pairwise.imp (fun {a b} hab => hno a b hab) List.pairwise_lt_range) (fun y hy => by
      obtain ⟨a, _, rfl⟩ := List.mem_map.1 hy
      exact hL _ (hb a))
    rw [List.length_map, List.length_range] at h1
    omega
  obtain ⟨a, b, hab, e⟩ := hdup
  refine ⟨b - a, by omega, ?_⟩
  have e1 := hback a 0
  rw [Nat.add_zero] at e1
  have e2 := hback (b - a) a
  rw [Nat.sub_add_cancel (Nat.le_of_lt hab), ← e] at e2
  have e0 : itN p 0 x = x := rfl
  rw [e0] at e1
  have e3 : itN f (b - a) (itN f a (itN p a x)) = itN f a (itN f (b - a) (itN p a x)) := by rw [← itN_add, ← itN_add, Nat.add_comm]
  rw [e1, e2, e1] at e3
  exact e3
end Go.Proofs.YtijaefmaceolbaaGreatDoor.Tr

namespace Go.Proofs.YtijaefmaceolbaaGreatDoor.Tr
set_option linter.unusedVariables false
def nxN (fs : List Fm) (n x : Nat) : Nat := numV (nextV fs (wrB base2 n x))
theorem nxN_lt {n : Nat} {fs : List Fm} (S : Sys n fs) (x : Nat) : nxN fs n x < 2 ^ n :=
  (wr_num (by rw [nextV_len, S.len]) (nextV_tot S (wrB_len _ _ _) (wr_tot n x))).2
theorem wr_nxN {n : Nat} {fs : List Fm} (S : Sys n fs) (x : Nat) : wrB base2 n (nxN fs n x) = nextV fs (wrB base2 n x) :=
  (wr_num (by rw [nextV_len, S.len]) (nextV_tot S (wrB_len _ _ _) (wr_tot n x))).1
theorem wr_itN {n : Nat} {fs : List Fm} (S : Sys n fs) (x : Nat) : ∀ k, wrB base2 n (itN (nxN fs n) k x) = iterV fs k (wrB base2 n x)
  | 0 => rfl
  | k + 1 => by rw [itN, wr_nxN S, wr_itN S x k]; rfl
theorem itN_lt {n : Nat} {fs : List Fm} (S : Sys n fs) {x : Nat} (hx : x < 2 ^ n) : ∀ k, itN (nxN fs n) k x < 2 ^ n
  | 0 => hx
  | _ + 1 => nxN_lt S _
theorem rec_num {n : Nat} {fs : List Fm} (S : Sys n fs) {x : Nat} (hx : x < 2 ^ n) : recV fs (wrB base2 n x) ↔ ∃ k, 0 < k ∧ itN (nxN fs n) k x = x := by
  constructor
  · rintro ⟨k, hk, e⟩
    rw [← wr_itN S] at e
    refine ⟨k, hk, ?_⟩
    have := congrArg numV e
    rwa [numV_wr n _ (itN_lt S hx k), numV_wr n x hx] at this
  · rintro ⟨k, hk, e⟩
    exact ⟨k, hk, by rw [← wr_itN S, e]⟩
structure Left (fs : List Fm) (n : Nat) (L : Nat → Bool) : Prop where
  lt : ∀ x, L x = true → x < 2 ^ n
  has : ∀ x, x < 2 ^ n → recV fs (wrB base2 n x) → L x = true
def ledN (fs : List Fm) (n : Nat) (L : Nat → Bool) (y : Nat) : Prop := ∃ x, L x = true ∧ nxN fs n x = y
theorem Left.step {n : Nat} {fs : List Fm} (S : Sys n fs) {L M : Nat → Bool} (h : Left fs n L) (hM : ∀ y, M y = true ↔ L y = true ∧ ledN fs n L y) : Left fs n M := by
  refine ⟨fun x hx => h.lt x ((hM x).1 hx).1, fun x hx hr => (hM x).2 ⟨h.has x hx hr, ?_⟩⟩
  obtain ⟨k, hk, e⟩ := (rec_num S hx).1 hr
  match k, hk, e with
  | k + 1, _, e =>
    refine ⟨itN (nxN fs n) k x, h.has _ (itN_lt S hx k) ?_, e⟩
    rw [wr_itN S]
    exact rec_iter hr k
theorem Left.done {n : Nat} {fs : List Fm} (S : Sys n fs) {L : Nat → Bool} (h : Left fs n L) (hd : ∀ y, L y = true → ledN fs n L y) (x : Nat) : L x = true ↔ x < 2 ^ n ∧ recV fs (wrB base2 n x) := by
  constructor
  · intro hx
    refine ⟨h.lt x hx, (rec_num S (h.lt x hx)).2 ?_⟩
    exact led_rec (2 ^ n) (nxN fs n) (fun x => L x = true) h.lt hd x hx
  · rintro ⟨h1, h2⟩; exact h.has x h1 h2
end Go.Proofs.YtijaefmaceolbaaGreatDoor.Tr

namespace Go.Proofs.YtijaefmaceolbaaGreatDoor.Tr
set_option linter.unusedVariables false
def evn (j : Nat) : Fm → Bool → Bool → Bool
  | .con _, _, _ => false
  | .lt i, odd, tw => i == j && (!odd || tw)
  | .neg f, odd, tw => evn j f (!odd) tw
  | .bin k l r, odd, tw => evn j l odd (tw || k == .eq) || evn j r odd (tw || k == .eq)
def odn (j : Nat) : Fm → Bool → Bool → Bool
  | .con _, _, _ => false
  | .lt i, odd, tw => i == j && (odd || tw)
  | .neg f, odd, tw => odn j f (!odd) tw
  | .bin k l r, odd, tw => odn j l odd (tw || k == .eq) || odn j r odd (tw || k == .eq)
def occ (j : Nat) : Fm → Bool
  | .con _ => false
  | .lt i => i == j
  | .neg f => occ j f
  | .bin _ l r => occ j l || occ j r
theorem occ_sign (j : Nat) : ∀ (f : Fm) (odd tw : Bool), (evn j f odd tw || odn j f odd tw) = occ j f
  | .con _, _, _ => rfl
  | .lt i, odd, tw => by
    show ((i == j && (!odd || tw)) || (i == j && (odd || tw))) = (i == j)
    cases i == j <;> cases odd <;> cases tw <;> rfl
  | .neg f, odd, tw => occ_sign j f (!odd) tw
  | .bin k l r, odd, tw => by
    have h1 := occ_sign j l odd (tw || k == .eq)
    have h2 := occ_sign j r odd (tw || k == .eq)
    show ((evn j l odd (tw || k == .eq) || evn j r odd (tw || k == .eq)) || (odn j l odd (tw || k == .eq) || odn j r odd (tw || k == .eq))) = (occ j l || occ j r)
    rw [← h1, ← h2]
    cases evn j l odd (tw || k == .eq) <;> cases evn j r odd (tw || k == .eq) <;> cases odn j l odd (tw || k == .eq) <;> cases odn j r odd (tw || k == .eq) <;> rfl
theorem occ_low {n j : Nat} : ∀ {f : Fm}, f.low n → occ j f = true → j < n
  | .con _, _, h => by cases h
  | .lt i, hf, h => by
    have : i = j := by simpa [occ] using h
    subst this; exact hf
  | .neg f, hf, h => occ_low (f := f) hf h
  | .bin k l r, hf, h => by
    have : occ j l = true ∨ occ j r = true := by simpa [occ] using h
    rcases this with h | h
    · exact occ_low hf.1 h
    · exact occ_low hf.2 h
theorem ev_occ {ρ σ : Nat → T3} : ∀ {f : Fm}, (∀ j, occ j f = true → ρ j = σ j) → ev ρ f = ev σ f
  | .con _, _ => rfl
  | .lt i, h => h i (by simp [occ])
  | .neg f, h => congrArg not3 (ev_occ (f := f) h)
  | .bin k l r, h => by
    show op3 k _ _ = op3 k _ _
    rw [ev_occ (fun j hj => h j (by simp [occ, hj])), ev_occ (fun j hj => h j (by simp [occ, hj]))]
def fmA (fs : List Fm) (i : Nat) : Fm := fs.getD i (.con false)
theorem fmA_low {n : Nat} {fs : List Fm} (S : Sys n fs) (i : Nat) : (fmA fs i).low n := by
  unfold fmA
  rw [List.getD_eq_getElem?_getD]
  rcases Nat.lt_or_ge i fs.length with h | h
  · rw [List.getElem?_eq_getElem h]; exact S.low _ (List.getElem_mem h)
  · rw [List.getElem?_eq_none h]; trivial
def Clo (fs : List Fm) (n s : Nat) : Prop := ∀ i, i < n → s.testBit i = true → ∀ j, occ j (fmA fs i) = true → s.testBit j = true
def Hol (fs : List Fm) (n s : Nat) : Prop := ∃ v : Nat → Bool, (∀ j, s.testBit j = false → v j = false) ∧ ∀ i, i < n → s.testBit i = true → ev (fun j => some (v j)) (fmA fs i) = some (v i)
def Bad (fs : List Fm) (n s : Nat) : Prop := s ≠ 0 ∧ s < 2 ^ n ∧ Clo fs n s ∧ ¬ Hol fs n s
def subN (a b : Nat) : Prop := ∀ j, a.testBit j = true → b.testBit j = true
theorem subN.refl (a : Nat) : subN a a := fun _ h => h
theorem subN.trans {a b c : Nat} (h : subN a b) (k : subN b c) : subN a c := fun j hj => k j (h j hj)
theorem subN.and {a b : Nat} (h : subN a b) : a &&& b = a := Nat.eq_of_testBit_eq fun j => by
  rw [Nat.testBit_and]
  cases ha : a.testBit j with
  | false => rfl
  | true => rw [h j ha]; rfl
theorem subN.le {a b : Nat} (h : subN a b) : a ≤ b := by rw [← h.and]; exact Nat.and_le_right
def MinBad (fs : List Fm) (n s : Nat) : Prop := Bad fs n s ∧ ∀ b, Bad fs n b → subN b s → b = s
theorem min_below {fs : List Fm} {n : Nat} : ∀ (k s : Nat), s ≤ k → Bad fs n s → ∃ m, MinBad fs n m ∧ subN m s
  | 0, s, hk, h => absurd (by omega) h.1
  | k + 1, s, hk, h => by
    by_cases hm : ∀ b, Bad fs n b → subN b s → b = s
    · exact ⟨s, ⟨h, hm⟩, .refl s⟩
    · obtain ⟨b, hb⟩ := Classical.not_forall.1 hm
      obtain ⟨h1, hb⟩ := Classical.not_imp.1 hb
      obtain ⟨h2, h3⟩ := Classical.not_imp.1 hb
      have := h2.le
      obtain ⟨m, hm, ms⟩ := min_below k b (by omega) h1
      exact ⟨m, hm, ms.trans h2⟩
theorem core_step {fs : List Fm} {n s : Nat} (cores : List Nat) (hc : ∀ m, m ∈ cores ↔ m < s ∧ MinBad fs n m) : (Bad fs n s ∧ ∀ c ∈ cores, ¬ subN c s) ↔ MinBad fs n s := by
  constructor
  · rintro ⟨hb, hno⟩
    obtain ⟨m, hm, ms⟩ := min_below s s (Nat.le_refl _) hb
    rcases Nat.lt_or_ge m s with h | h
    · exact absurd ms (hno m ((hc m).2 ⟨h, hm⟩))
    · have : m = s := by have := ms.le; omega
      subst this; exact hm
  · rintro ⟨hb, hm⟩
    refine ⟨hb, fun c hcc hs => ?_⟩
    obtain ⟨h1, h2⟩ := (hc c).1 hcc
    have := hm c h2.1 hs
    omega
theorem bits_of (p : Nat → Bool) : ∀ m, ∃ b, b < 2 ^ m ∧ ∀ k, k < m → b.testBit k = p k
  | 0 => ⟨0, by decide, fun k h => by omega⟩
  | m + 1 => by
    obtain ⟨b, hb, h⟩ := bits_of p m
    cases hp : p m with
    | false =>
      refine ⟨b, Nat.lt_of_lt_of_le hb (Nat.pow_le_pow_right (by decide) (by omega)), fun k hk => ?_⟩
      rcases Nat.lt_or_ge k m with h1 | h1
      · exact h k h1
      · have : k = m := by omega
        subst this
        rw [hp, Nat.testBit_lt_two_pow hb]
    | true =>
      refine ⟨b ||| 2 ^ m, Nat.or_lt_two_pow (Nat.lt_of_lt_of_le hb (Nat.pow_le_pow_right (by decide) (by omega))) (Nat.pow_lt_pow_right (by decide) (by omega)), fun k hk => ?_⟩
      rw [Nat.testBit_or, Nat.testBit_two_pow]
      rcases Nat.lt_or_ge k m with h1 | h1
      · rw [h k h1, decide_eq_false (by omega), Bool.or_false]
      · have : k = m := by omega
        subst this
        simp [hp]
def depB (M : List Nat) (bits j : Nat) : Bool := (List.range M.length).any fun k => M.getD k 0 == j && bits.testBit k
def tryP (fs : List Fm) (M : List Nat) (bits : Nat) : Bool := M.all fun i => ev (fun j => some (depB M bits j)) (fmA fs i) == some (depB M bits i)
def holP (fs : List Fm) (M : List Nat) : Bool := (List.range (2 ^ M.length)).any (tryP fs M)
theorem depB_at {M : List Nat} (hM : M.Nodup) {bits k : Nat} (hk : k < M.length) : depB M bits (M.getD k 0) = bits.testBit k := by
  unfold depB
  rw [Bool.eq_iff_iff, List.any_eq_true]
  constructor
  · rintro ⟨k', hk', h⟩
    rw [Bool.and_eq_true, beq_iff_eq] at h
    have hk' := List.mem_range.1 hk'
    have : k' = k := by
      have e := h.1
      rw [List.getD_eq_getElem?_getD, List.getD_eq_getElem?_getD, List.getElem?_eq_getElem hk, List.getElem?_eq_getElem hk'] at e
      exact (List.getElem_inj hM).1 e
    subst this; exact h.2
  · intro h
    exact ⟨k, List.mem_range.2 hk, by rw [h]; simp⟩
theorem depB_out {M : List Nat} {bits j : Nat} (h : j ∉ M) : depB M bits j = false := by
  unfold depB
  rw [List.any_eq_false]
  intro k hk hb
  rw [Bool.and_eq_true, beq_iff_eq] at hb
  have hk := List.mem_range.1 hk
  apply h
  rw [← hb.1, List.getD_eq_getElem?_getD, List.getElem?_eq_getElem hk]
  exact List.getElem_mem hk
theorem holP_iff {n s : Nat} {fs : List Fm} {M : List Nat} (hn : M.Nodup) (hM : ∀ i, i ∈ M ↔ s.testBit i = true) (hs : s < 2 ^ n) : holP fs M = true ↔ Hol fs n s := by
  unfold holP
  rw [List.any_eq_true]
  constructor
  · rintro ⟨b, _, hb⟩
    unfold tryP at hb
    rw [List.all_eq_true] at hb
    refine ⟨depB M b, fun j hj => depB_out fun hm => ?_, fun i hi his => ?_⟩
    · rw [(hM j).1 hm] at hj; cases hj
    · have := hb i ((hM i).2 his)
      rwa [beq_iff_eq] at this
  · rintro ⟨v, h1, h2⟩
    obtain ⟨b, hb, hv⟩ := bits_of (fun k => v (M.getD k 0)) M.length
    have he : depB M b = v := by
      funext j
      by_cases hj : j ∈ M
      · obtain ⟨k, hk, rfl⟩ := List.getElem_of_mem hj
        have e : M[k] = M.getD k 0 := by simp [hk]
        rw [e, depB_at hn hk, hv k hk]
      · rw [depB_out hj]
        symm
        apply h1
        cases hsj : s.testBit j with
        | false => rfl
        | true => exact absurd ((hM j).2 hsj) hj
    refine ⟨b, List.mem_range.2 hb, ?_⟩
    unfold tryP
    rw [List.all_eq_true]
    intro i hi
    have his := (hM i).1 hi
    rw [he, beq_iff_eq]
    refine h2 i ?_ his
    rcases Nat.lt_or_ge i n with h | h
    · exact h
    · rw [Nat.testBit_lt_two_pow (Nat.lt_of_lt_of_le hs (Nat.pow_le_pow_right (by decide) h))] at his
      cases his
end Go.Proofs.YtijaefmaceolbaaGreatDoor.Tr

namespace Go.Proofs.YtijaefmaceolbaaGreatDoor.Tr
set_option linter.unusedVariables false
def sg1 (fs : List Fm) (i j : Nat) : Bool × Bool := (evn j (fmA fs i) false false, odn j (fmA fs i) false false)
def jn (c a : Bool × Bool) : Bool × Bool := (c.1 && a.1 || c.2 && a.2, c.1 && a.2 || c.2 && a.1)
def hasP (c : Bool × Bool) (s : Bool) : Bool := if s then c.2 else c.1
def cyc (sg : Nat → Nat → Bool × Bool) (n : Nat) (odd : Bool) : Nat → List Nat → Bool × Bool → Option (List Nat)
  | 0, way, can => if hasP (jn can (sg (way.getLastD 0) (way.getD 0 0))) odd then some way else none
  | k + 1, way, can => (List.range n).findSome? fun j =>
    if way.contains j || !((jn can (sg (way.getLastD 0) j)).1 || (jn can (sg (way.getLastD 0) j)).2) then none
    else cyc sg n odd k (way ++ [j]) (jn can (sg (way.getLastD 0) j))
def cycL (sg : Nat → Nat → Bool × Bool) (n : Nat) (odd : Bool) (long : Nat) : Option (List Nat) := (List.range n).findSome? fun i => cyc sg n odd (long - 1) [i] (true, false)
def cycO (sg : Nat → Nat → Bool × Bool) (n : Nat) (odd : Bool) : Option (List Nat) := (List.range n).findSome? fun k => cycL sg n odd (k + 1)
theorem findSome_ne {α β : Type} {f : α → Option β} : ∀ {l : List α} {a : α}, a ∈ l → f a ≠ none → l.findSome? f ≠ none
  | b :: l, a, h, hf => by
    rw [List.findSome?_cons]
    cases hb : f b with
    | some x => simp
    | none =>
      rcases List.mem_cons.1 h with rfl | h
      · exact absurd hb hf
      · exact findSome_ne h hf
def pxr (t : Nat → Bool) : Nat → Bool
  | 0 => false
  | k + 1 => pxr t k ^^ t k
theorem pxr_shift (t : Nat → Bool) (a : Nat) : ∀ k, pxr (fun x => t (a + x)) k = (pxr t (a + k) ^^ pxr t a)
  | 0 => by simp [pxr]
  | k + 1 => by
    rw [pxr, pxr_shift t a k, show a + (k + 1) = a + k + 1 by omega, pxr]
    cases pxr t (a + k) <;> cases t (a + k) <;> cases pxr t a <;> rfl
theorem pxr_same {t u : Nat → Bool} : ∀ {k : Nat}, (∀ x, x < k → t x = u x) → pxr t k = pxr u k
  | 0, _ => rfl
  | k + 1, h => by rw [pxr, pxr, pxr_same (fun x hx => h x (by omega)), h k (by omega)]
theorem pxr_add (t : Nat → Bool) (a k : Nat) : pxr t (a + k) = (pxr t a ^^ pxr (fun x => t (a + x)) k) := by
  rw [pxr_shift]
  cases pxr t (a + k) <;> cases pxr t a <;> rfl
end Go.Proofs.YtijaefmaceolbaaGreatDoor.Tr

namespace Go.Proofs.YtijaefmaceolbaaGreatDoor.Tr
set_option linter.unusedVariables false
def sgF (s : Bool) (j : Nat) (f : Fm) (odd tw : Bool) : Bool := if s then odn j f odd tw else evn j f odd tw
end Go.Proofs.YtijaefmaceolbaaGreatDoor.Tr

namespace Go.Proofs.YtijaefmaceolbaaGreatDoor.Tr
set_option linter.unusedVariables false
def edgeE (fs : List Fm) (n : Nat) (i j : Nat) (s : Bool) : Prop := i < n ∧ hasP (sg1 fs i j) s = true
inductive Wk (fs : List Fm) (n : Nat) (U : Nat → Prop) : Nat → Nat → Bool → Prop where
  | one {i j : Nat} {s : Bool} : edgeE fs n i j s → U i → U j → Wk fs n U i j s
  | more {i j k : Nat} {s t : Bool} : edgeE fs n i j s → U i → Wk fs n U j k t → Wk fs n U i k (s ^^ t)
theorem Wk.trans {fs : List Fm} {n : Nat} {U : Nat → Prop} {i j k : Nat} {s t : Bool} (h : Wk fs n U i j s) (g : Wk fs n U j k t) : Wk fs n U i k (s ^^ t) := by
  induction h with
  | one he hi _ => exact .more he hi g
  | more he hi _ ih => rw [Bool.xor_assoc]; exact .more he hi (ih g)
theorem Wk.walk {fs : List Fm} {n : Nat} {U : Nat → Prop} {i j : Nat} {s : Bool} (h : Wk fs n U i j s) :
    ∃ (v : Nat → Nat) (t : Nat → Bool) (len : Nat), 0 < len ∧ v 0 = i ∧ v len = j ∧ (∀ k, k < len → edgeE fs n (v k) (v (k + 1)) (t k)) ∧ pxr t len = s := by
  induction h with
  | @one i j s he _ _ =>
    refine ⟨fun k => if k = 0 then i else j, fun _ => s, 1, by omega, rfl, rfl, fun k hk => ?_, by simp [pxr]⟩
    have : k = 0 := by omega
    subst this
    exact he
  | @more i j k s t he _ _ ih =>
    obtain ⟨v, u, len, h0, h1, h2, h3, h4⟩ := ih
    refine ⟨fun k => if k = 0 then i else v (k - 1), fun k => if k = 0 then s else u (k - 1), len + 1, by omega, rfl, ?_, fun k hk => ?_, ?_⟩
    · show (if len + 1 = 0 then i else v (len + 1 - 1)) = _
      rw [if_neg (by omega), Nat.add_sub_cancel, h2]
    · rcases Nat.eq_zero_or_pos k with hk0 | hk0
      · subst hk0
        show edgeE fs n i (v 0) s
        rw [h1]; exact he
      · show edgeE fs n (if k = 0 then i else v (k - 1)) (if k + 1 = 0 then i else v (k + 1 - 1)) (if k = 0 then s else u (k - 1))
        rw [if_neg (by omega), if_neg (by omega), if_neg (by omega)]
        have := h3 (k - 1) (by omega)
        rw [Nat.sub_add_cancel hk0] at this
        exact this
    · rw [show len + 1 = 1 + len by omega, pxr_add]
      have a1 : pxr (fun k => if k = 0 then s else u (k - 1)) 1 = s := by simp [pxr]
      have a2 : pxr (fun x => (fun k => if k = 0 then s else u (k - 1)) (1 + x)) len = pxr u len := pxr_same fun x _ => by
        show (if 1 + x = 0 then s else u (1 + x - 1)) = u x
        rw [if_neg (by omega), show 1 + x - 1 = x by omega]
      rw [a1, a2, h4]
def rk3 : T3 → Nat
  | some false => 0
  | none => 1
  | some true => 2
def leR (up : Bool) (a b : T3) : Prop := if up then rk3 a ≤ rk3 b else rk3 b ≤ rk3 a
theorem leR.refl (up : Bool) (a : T3) : leR up a a := by cases up <;> exact Nat.le_refl _
instance (up : Bool) (a b : T3) : Decidable (leR up a b) := by unfold leR; infer_instance
end Go.Proofs.YtijaefmaceolbaaGreatDoor.Tr

namespace Go.Proofs.YtijaefmaceolbaaGreatDoor.Tr
set_option linter.unusedVariables false
def runV {α σ : Type} (vis : σ → α → Bool × σ) : List α → σ → Bool × σ
  | [], st => (false, st)
  | v :: vs, st => if (vis st v).1 then (true, (vis st v).2) else runV vis vs (vis st v).2
theorem runV_append {α σ : Type} (vis : σ → α → Bool × σ) : ∀ (zs bs : List α) (st : σ), runV vis (zs ++ bs) st = if (runV vis zs st).1 then (true, (runV vis zs st).2) else runV vis bs (runV vis zs st).2
  | [], bs, st => by simp [runV]
  | a :: zs, bs, st => by
    rw [List.cons_append, runV, runV]
    split
    · simp
    · exact runV_append vis zs bs _
def onV {σ : Type} (vis : σ → List T3 → Bool × σ) (B : List T3) (k : Nat) (v : List T3) (st : σ) : Bool × σ := runV vis ((valsB B k).map (v ++ ·)) st
def lpV {σ : Type} (vis : σ → List T3 → Bool × σ) (B : List T3) (k : Nat) (v : List T3) : List T3 → σ → Bool × σ
  | [], st => (false, st)
  | c :: cs, st => if (onV vis B k (v ++ [c]) st).1 then (true, (onV vis B k (v ++ [c]) st).2) else lpV vis B k v cs (onV vis B k (v ++ [c]) st).2
theorem onV_zero {σ : Type} (vis : σ → List T3 → Bool × σ) (B : List T3) (v : List T3) (st : σ) : onV vis B 0 v st = vis st v := by
  unfold onV valsB
  rw [List.map_cons, List.map_nil, List.append_nil, runV, runV]
  split
  · rename_i h; exact Prod.ext h.symm rfl
  · rename_i h; exact Prod.ext (by simpa using (Bool.eq_false_iff.2 h).symm) rfl
theorem lpV_eq {σ : Type} (vis : σ → List T3 → Bool × σ) (B : List T3) (k : Nat) (v : List T3) : ∀ (cs : List T3) (st : σ), lpV vis B k v cs st = runV vis ((cs.flatMap fun c => (valsB B k).map (c :: ·)).map (v ++ ·)) st
  | [], st => rfl
  | c :: cs, st => by
    rw [lpV, List.flatMap_cons, List.map_append, runV_append, List.map_map]
    have e : ((fun x => v ++ x) ∘ fun x => c :: x) = fun x => (v ++ [c]) ++ x := by funext x; simp
    rw [e]
    show (if (onV vis B k (v ++ [c]) st).1 then _ else _) = if (onV vis B k (v ++ [c]) st).1 then _ else _
    split
    · rfl
    · exact lpV_eq vis B k v cs _
theorem onV_succ {σ : Type} (vis : σ → List T3 → Bool × σ) (B : List T3) (k : Nat) (v : List T3) (st : σ) : onV vis B (k + 1) v st = lpV vis B k v B st := by
  rw [lpV_eq]; rfl
theorem onV_all {σ : Type} (vis : σ → List T3 → Bool × σ) (B : List T3) (k : Nat) (st : σ) : onV vis B k [] st = runV vis (valsB B k) st := by
  unfold onV
  congr 1
  exact (List.map_congr_left (fun x _ => List.nil_append x)).trans (List.map_id _)
def visF (fs : List Fm) (_ : List T3) (v : List T3) : Bool × List T3 := (fixB fs v, v)
theorem run_first (fs : List Fm) : ∀ (l : List (List T3)) (st : List T3), (runV (visF fs) l st).1 = l.any (fixB fs) ∧ ∀ v, l.find? (fixB fs) = some v → (runV (visF fs) l st).2 = v
  | [], st => ⟨rfl, fun v h => by cases h⟩
  | w :: l, st => by
    rw [runV]
    show (if fixB fs w = true then _ else _ : Bool × List T3).1 = _ ∧ ∀ v, _ → (if fixB fs w = true then _ else _ : Bool × List T3).2 = v
    by_cases h : fixB fs w = true
    · rw [if_pos h]
      exact ⟨by simp [h], fun v hv => by rw [List.find?_cons_of_pos h] at hv; exact Option.some.inj hv⟩
    · rw [if_neg h]
      obtain ⟨h1, h2⟩ := run_first fs l w
      exact ⟨by rw [List.any_cons, Bool.eq_false_iff.2 h, Bool.false_or]; exact h1, fun v hv => by rw [List.find?_cons_of_neg h] at hv; exact h2 v hv⟩
def visX (fs : List Fm) (out : List (List T3)) (v : List T3) : Bool × List (List T3) :=
  (decide (1000 < (if fixB fs v then out ++ [v] else out).length), if fixB fs v then out ++ [v] else out)
theorem run_fixed (fs : List Fm) : ∀ (l out : List (List T3)), out.length ≤ 1000 → (runV (visX fs) l out).1 = decide (1000 < (out ++ l.filter (fixB fs)).length) ∧
    ((runV (visX fs) l out).1 = false → (runV (visX fs) l out).2 = out ++ l.filter (fixB fs)) ∧ (runV (visX fs) l out).2 = (out ++ l.filter (fixB fs)).take 1001
  | [], out, h => by
    rw [List.filter_nil, List.append_nil]
    exact ⟨(decide_eq_false (by omega)).symm, fun _ => rfl, by show out = _; rw [List.take_of_length_le (by omega)]⟩
  | w :: l, out, h => by
    rw [runV]
    by_cases hb : fixB fs w = true
    · have e : (visX fs out w) = (decide (1000 < (out ++ [w]).length), out ++ [w]) := by unfold visX; rw [if_pos hb]
      have ea : out ++ (w :: l).filter (fixB fs) = (out ++ [w]) ++ l.filter (fixB fs) := by rw [List.filter_cons_of_pos hb]; simp
      rw [e, ea]
      by_cases hm : 1000 < (out ++ [w]).length
      · rw [if_pos (decide_eq_true hm)]
        have hl : (out ++ [w]).length = 1001 := by rw [List.length_append] at hm ⊢; simp at hm ⊢; omega
        exact ⟨(decide_eq_true (by rw [List.length_append]; omega)).symm, fun h => (by cases h), by show out ++ [w] = _; rw [List.take_append_of_le_length (by omega), List.take_of_length_le (by omega)]⟩
      · rw [if_neg (by simpa using hm)]
        exact run_fixed fs l (out ++ [w]) (by omega)
    · have e : (visX fs out w) = (decide (1000 < out.length), out) := by unfold visX; rw [if_neg hb]
      rw [e, if_neg (by simpa using h), List.filter_cons_of_neg hb]
      exact run_fixed fs l out h
noncomputable def repI (fs : List Fm) (v : List T3) : Nat := open Classical in if h : ∃ i j, IsRep fs v i j then Classical.choose h else 0
noncomputable def repJ (fs : List Fm) (v : List T3) : Nat := open Classical in if h : ∃ i j, IsRep fs v i j then Classical.choose (Classical.choose_spec h) else 0
theorem rep_spec {n : Nat} {fs : List Fm} (S : Sys n fs) {v : List T3} (hl : v.length = n) (h : totV v) : IsRep fs v (repI fs v) (repJ fs v) := by
  obtain ⟨i, j, hr, _⟩ := rep_exists S hl h
  have hx : ∃ i j, IsRep fs v i j := ⟨i, j, hr⟩
  unfold repI repJ
  rw [dif_pos hx, dif_pos hx]
  exact Classical.choose_spec (Classical.choose_spec hx)
end Go.Proofs.YtijaefmaceolbaaGreatDoor.Tr

