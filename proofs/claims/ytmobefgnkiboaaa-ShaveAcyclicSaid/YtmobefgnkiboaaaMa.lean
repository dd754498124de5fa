/- The kinds of the seat's values (first written by print.sh). Words for the town: a block that is known whole, a town as the cells of a block. Plain facts on sets of people as bits of an int. -/
import Derived.Test.YtmobefgnkiboaaaProg
import Derived.Below
import Derived.Deep.Draws
import Derived.Deep.AppendLies
import Derived.Maps.AppendAt
import Derived.OwnWalk
import Derived.Laws.BytesArg
import Derived.Laws.MakeOwn
import Derived.Laws.OwnMore
import Derived.Deep.OwnRows
import Derived.Tactics
import Derived.Lib.ConvBytes
import Derived.Laws.Slices
import Derived.WalkKit
import Derived.KernelRfl
import Derived.RowKit3
import Derived.Deep.LoopGhost
import Derived.Deep.QuietTactic
import Derived.BigQuiet
import Derived.WideLaws
import Derived.Deep.DeepCutAuto
import Derived.Deep.CutBlock
import Derived.Deep.RegionHeld3
import Derived.Laws.Rows
import Derived.Lib.AppendStr
import Derived.ArgAppend
import Derived.Laws.IdiomCopy
import Derived.OrdersHeld
import Derived.Laws.BitsLemmas
import Derived.RowKit
import Derived.Test.YtmobefgnkiboaaaWWords
import Derived.Test.YtmobefgnkiboaaaWLast
import Derived.Test.YtmobefgnkiboaaaWTab
import Derived.Test.YtmobefgnkiboaaaWFour
import Derived.Test.YtmobefgnkiboaaaWQPut
import Derived.Test.YtmobefgnkiboaaaWApart
import Derived.Test.YtmobefgnkiboaaaWArr
import Derived.Test.YtmobefgnkiboaaaWZeros
import Derived.Test.YtmobefgnkiboaaaWFoot
import Derived.Test.YtmobefgnkiboaaaWKept
import Derived.Test.YtmobefgnkiboaaaWShare
import Derived.Test.YtmobefgnkiboaaaWN
import Derived.Test.YtmobefgnkiboaaaWFootNe
import Derived.Test.YtmobefgnkiboaaaWAt
import Derived.Test.YtmobefgnkiboaaaWEqStruct
import Derived.Test.YtmobefgnkiboaaaWRepsOne
import Derived.Test.YtmobefgnkiboaaaWInv
import Derived.Test.YtmobefgnkiboaaaWInvWords
import Derived.Test.YtmobefgnkiboaaaWGuard
import Derived.Test.YtmobefgnkiboaaaWNEv
import Derived.Test.YtmobefgnkiboaaaWMore
namespace Go.Proofs.Ytmobefgnkiboaaa.Im
open Go.RowKit Go.Proofs.YtmobefgnkiboaaaW.PrintWords Go.Proofs.YtmobefgnkiboaaaW.PrintLast Go.Proofs.YtmobefgnkiboaaaW.PrintMore
attribute [local go_sem] max2_int min2_int max_two min_two max_three min_three max_four min_four
set_option linter.unusedVariables false
set_option linter.unusedSimpArgs false

def errW : Option Int → Value
  | none => .nilIface
  | some c => .iface 0 (.int .i64 c)
theorem errW_none : errW none = .nilIface := rfl
theorem errW_some (c : Int) : errW (some c) = .iface 0 (.int .i64 c) := rfl
theorem info3 : (Try.prog.info? 3).map (fun i => (i.zero, i.size, i.bytes)) = some (some (.int .i64 0), 1, 8) := by kernel_rfl
theorem info43 : (Try.prog.info? 43).map (fun i => (i.zero, i.size, i.bytes)) = some (some (.agg #[(.int .i64 0), (.int .i64 0)]), 2, 16) := by kernel_rfl
theorem info5 : (Try.prog.info? 5).map (fun i => (i.zero, i.size, i.bytes)) = some (some (.int .u8 0), 1, 1) := by kernel_rfl
theorem info9 : (Try.prog.info? 9).map (fun i => (i.zero, i.size, i.bytes)) = some (some (.string ⟨#[]⟩), 1, 16) := by kernel_rfl
/-! #### struct type 43 -/
structure S43 where
  f0 : Int
  f1 : Int
def z43 : S43 := ⟨(0 : Int), (0 : Int)⟩
def k43 : Kd S43 := Kd.iso (Kd.pair (Kd.int .i64) (Kd.int .i64)) (fun x : S43 => (x.f0, x.f1))
theorem k43_open {w : World} {x : S43} {cs : List Value} (h : k43.K w x cs) : cs = [.int .i64 x.f0, .int .i64 x.f1] := by
  obtain ⟨_, _, rfl, rfl, rfl⟩ := h
  exact rfl
theorem k43_openM {w : World} {base : Nat} {ok : Nat → Prop} {x : S43} {cs : List Value} (h : k43.M w base ok x cs) : cs = [.int .i64 x.f0, .int .i64 x.f1] := by
  obtain ⟨_, _, rfl, rfl, rfl⟩ := h
  exact rfl
theorem k43_mk (w : World) (x : S43)  : k43.K w x [.int .i64 x.f0, .int .i64 x.f1] := ⟨[.int .i64 x.f0], [.int .i64 x.f1], rfl, rfl, rfl⟩
theorem k43_mkM (w : World) (base : Nat) (ok : Nat → Prop) (x : S43)  : k43.M w base ok x [.int .i64 x.f0, .int .i64 x.f1] := ⟨[.int .i64 x.f0], [.int .i64 x.f1], rfl, rfl, rfl⟩
def rd_T43 (xs : List S43) (i : Int) : S43 := xs.getD i.toNat z43
theorem at_T43 {w : World} {A : Option Addr} {n : Nat} {xs : List S43} (h : Kd.C k43 w A n xs) (i : Int) (h0 : 0 ≤ i) (h1 : i < n) : ∃ ad , A = some ad ∧ w.cell? (ad.add (i.toNat * 2)) = some (.int .i64 (rd_T43 xs i).f0) ∧ w.cell? ⟨(ad.add (i.toNat * 2)).block, (ad.add (i.toNat * 2)).off + 1, none⟩ = some (.int .i64 (rd_T43 xs i).f1) := by
  obtain ⟨ad, c, e, _, hK, hc0⟩ := Kd.C_get h z43 i h0 h1
  have hc : ∀ j u, c[j]? = some u → w.cell? (ad.add (i.toNat * 2 + j)) = some u := hc0
  obtain rfl := k43_open hK
  exact ⟨ad, e, hc 0 _ rfl, by rw [← add_field _ _ 1 (by omega)]; exact hc 1 _ rfl⟩

end Go.Proofs.Ytmobefgnkiboaaa.Im

namespace Go.Proofs.Ytmobefgnkiboaaa.Im
open Go.RowKit Go.Proofs.YtmobefgnkiboaaaW.PrintWords Go.Proofs.YtmobefgnkiboaaaW.PrintLast Go.Proofs.YtmobefgnkiboaaaW.PrintMore

def Blk (w : World) (g : Nat) (t : TypeId) (cs : Array Value) : Prop := w.heap[g]? = some (.cells cs t (0, 0))
section
variable {w w' : World} {g : Nat} {t : TypeId} {cs : Array Value}
theorem Blk.lt (h : Blk w g t cs) : g < w.heap.size := by
  rcases Nat.lt_or_ge g w.heap.size with hlt | hge
  · exact hlt
  · unfold Blk at h; rw [Array.getElem?_eq_none hge] at h; cases h
theorem Blk.cell (h : Blk w g t cs) (i : Nat) : w.cell? ⟨g, i, none⟩ = cs[i]? := cell_of_row w g i cs t (0, 0) h
theorem Blk.frozen (h : Blk w g t cs) (i : Nat) : w.frozen? ⟨g, i, none⟩ = false := by
  unfold Blk at h
  simp [World.frozen?, h]
theorem Blk.new (w : World) (t : TypeId) (cs : Array Value) : Blk (w.alloc (.cells cs t)) w.heap.size t cs := heap_alloc_new w _
theorem Blk.drew (h : Blk w g t cs) : Blk w.drew g t cs := h
theorem Blk.drewN (h : Blk w g t cs) (n : Nat) : Blk (w.drewN n) g t cs := h
theorem Blk.alloc (h : Blk w g t cs) (o : Obj) : Blk (w.alloc o) g t cs := (Below.heap_alloc w o g h.lt).trans h
theorem Blk.set_ (h : Blk w g t cs) (i : Nat) (u : Value) : Blk (w.setCell ⟨g, i, none⟩ u) g t (cs.setIfInBounds i u) := by
  unfold Blk at h ⊢
  simp [World.setCell, Array.getElem?_modify, h]
theorem Blk.far (h : Blk w g t cs) {p : Addr} (hp : g ≠ p.block) (u : Value) : Blk (w.setCell p u) g t cs := (Below.heap_setCell w p u g hp).trans h
theorem Blk.below {B : Nat} (h : Blk w g t cs) (hb : Below B w w') (hg : g < B) : Blk w' g t cs := (hb.block g hg).trans h
theorem Blk.later (h : Blk w g t cs) (hb : Below w.heap.size w w') : Blk w' g t cs := h.below hb h.lt
end

/-- The cells of a town: its number of people, and the twelve sets. -/
def tnA (n : Int) (o : List Int) : Array Value := (Value.int .i64 n :: o.map (Value.int .i64)).toArray
theorem tnA_zero (n : Int) (o : List Int) : (tnA n o)[0]? = some (.int .i64 n) := rfl
theorem tnA_succ (n : Int) (o : List Int) (i : Nat) (h : i < o.length) : (tnA n o)[i + 1]? = some (.int .i64 (o.getD i 0)) := by
  simp [tnA, h]
theorem tnA_size (n : Int) (o : List Int) : (tnA n o).size = o.length + 1 := by simp [tnA]
theorem tnA_set (n : Int) (o : List Int) (i : Nat) (v : Int) : (tnA n o).setIfInBounds (i + 1) (.int .i64 v) = tnA n (o.set i v) := by
  simp [tnA, List.map_set]
def Tn (w : World) (g : Nat) (n : Int) (o : List Int) : Prop := Blk w g 50 (tnA n o)
theorem Tn.cell0 {w : World} {g : Nat} {n : Int} {o : List Int} (h : Tn w g n o) : w.cell? ⟨g, 0, none⟩ = some (.int .i64 n) := by rw [Blk.cell h]; rfl
theorem Tn.cellS {w : World} {g : Nat} {n : Int} {o : List Int} (h : Tn w g n o) (i : Int) (h0 : 0 ≤ i) (h1 : i < o.length) : w.cell? ⟨g, i.toNat + 1, none⟩ = some (.int .i64 (rd o i)) := by
  rw [Blk.cell h, tnA_succ _ _ _ (by omega)]; rfl
end Go.Proofs.Ytmobefgnkiboaaa.Im

namespace Go.Proofs.Ytmobefgnkiboaaa.Im
open Go.RowKit Go.Proofs.YtmobefgnkiboaaaW.PrintWords Go.Proofs.YtmobefgnkiboaaaW.PrintLast Go.Proofs.YtmobefgnkiboaaaW.PrintMore

theorem wr62 (n : Int) (h0 : 0 ≤ n) (h1 : n < 2 ^ 62) : IntKind.i64.wrap n = n := by rw [IntKind.wrap_i64]; omega
theorem wr62' (n : Nat) (h1 : n < 2 ^ 62) : wrap64 n = n := by unfold wrap64; omega
theorem b_and (a b : Nat) (ha : a < 2 ^ 62) (hb : b < 2 ^ 62) : bits .and .i64 a b = ((a &&& b : Nat) : Int) :=
  (bits_nat .i64 62 (by decide) wr62 a b ha hb).1
theorem b_or (a b : Nat) (ha : a < 2 ^ 62) (hb : b < 2 ^ 62) : bits .or .i64 a b = ((a ||| b : Nat) : Int) :=
  (bits_nat .i64 62 (by decide) wr62 a b ha hb).2
/-- The members of a that are not members of b. -/
def andN (a b : Nat) : Nat := a ^^^ (a &&& b)
theorem andN_bit (a b i : Nat) : (andN a b).testBit i = (a.testBit i && !b.testBit i) := by
  unfold andN
  rw [Nat.testBit_xor, Nat.testBit_and]
  cases a.testBit i <;> cases b.testBit i <;> rfl
theorem and_lt62 (a b : Nat) (ha : a < 2 ^ 62) : a &&& b < 2 ^ 62 := Nat.lt_of_le_of_lt Nat.and_le_left ha
theorem andN_lt (a b k : Nat) (ha : a < 2 ^ k) : andN a b < 2 ^ k := Nat.xor_lt_two_pow ha (Nat.lt_of_le_of_lt Nat.and_le_left ha)
theorem b_andN (a b : Nat) (ha : a < 2 ^ 62) (_hb : b < 2 ^ 62) : bits .andNot .i64 a b = ((andN a b : Nat) : Int) := by
  have key : (BitVec.ofNat 64 a &&& ~~~ BitVec.ofNat 64 b).toNat = andN a b := by
    apply Nat.eq_of_testBit_eq
    intro i
    rw [andN_bit, BitVec.testBit_toNat, BitVec.getLsbD_and, BitVec.getLsbD_not, BitVec.getLsbD_ofNat, BitVec.getLsbD_ofNat]
    by_cases h : i < 64
    · simp [h]
    · have : a.testBit i = false := Nat.testBit_lt_two_pow (Nat.lt_of_lt_of_le ha (Nat.pow_le_pow_right (by decide) (by omega)))
      simp [h, this]
  have hl : andN a b < 2 ^ 62 := andN_lt a b 62 ha
  have : bits .andNot .i64 a b = IntKind.i64.wrap ((BitVec.ofInt 64 (a : Int) &&& ~~~ BitVec.ofInt 64 (b : Int)).toNat : Int) := rfl
  rw [this, BitVec.ofInt_natCast, BitVec.ofInt_natCast, key]
  exact wr62 _ (Int.natCast_nonneg _) (by exact_mod_cast hl)
theorem shr_nat (s i : Nat) : ((s : Int) / 2 ^ i) = ((s >>> i : Nat) : Int) := by
  rw [Nat.shiftRight_eq_div_pow]; simp
theorem shr_lt (s i : Nat) (h : s < 2 ^ 62) : s >>> i < 2 ^ 62 := by
  rw [Nat.shiftRight_eq_div_pow]
  exact Nat.lt_of_le_of_lt (Nat.div_le_self _ _) h
theorem bit_one (s i : Nat) : (s >>> i) &&& 1 = if s.testBit i then 1 else 0 := by
  rw [Nat.and_comm, Nat.one_and_eq_mod_two, Nat.testBit, Nat.one_and_eq_mod_two]
  rcases Nat.mod_two_eq_zero_or_one (s >>> i) with h | h <;> simp [h]
theorem b_bit (s i : Nat) (h : s < 2 ^ 62) : bits .and .i64 ((s : Int) / 2 ^ i) 1 = if s.testBit i then 1 else 0 := by
  rw [shr_nat, show (1 : Int) = ((1 : Nat) : Int) from rfl, b_and _ _ (shr_lt s i h) (by decide), bit_one]
  split <;> rfl
theorem b_bit0 (s i : Nat) (h : s < 2 ^ 62) : (bits .and .i64 ((s : Int) / 2 ^ i) 1 == 0) = !s.testBit i := by
  rw [b_bit s i h]; cases s.testBit i <;> rfl
theorem b_bit1 (s i : Nat) (h : s < 2 ^ 62) : (bits .and .i64 ((s : Int) / 2 ^ i) 1 == 1) = s.testBit i := by
  rw [b_bit s i h]; cases s.testBit i <;> rfl
theorem two_pow_nat (i : Nat) : ((2 : Int) ^ i) = ((2 ^ i : Nat) : Int) := by simp
theorem wr_pow (i : Nat) (h : i < 62) : wrap64 ((2 : Int) ^ i) = ((2 ^ i : Nat) : Int) := by
  rw [two_pow_nat]; exact wr62' _ (Nat.pow_lt_pow_right (by decide) h)
theorem b_and0 (a b : Nat) (ha : a < 2 ^ 62) (hb : b < 2 ^ 62) : (bits .and .i64 a b == 0) = (a &&& b == 0) := by
  rw [b_and a b ha hb]
  by_cases h : a &&& b = 0
  · simp [h]
  · rw [beq_eq_false_iff_ne.2 h, beq_eq_false_iff_ne.2 (by omega)]
theorem rd_map (o : List Nat) (i : Nat) : rd (o.map fun x : Nat => (x : Int)) i = ((o.getD i 0 : Nat) : Int) := by
  unfold rd
  rw [Int.toNat_natCast]
  simp only [List.getD_eq_getElem?_getD, List.getElem?_map]
  cases o[i]? <;> rfl
/-- The cells of a town whose sets are plain numbers. -/
def ints (o : List Nat) : List Int := o.map fun x : Nat => (x : Int)
theorem ints_length (o : List Nat) : (ints o).length = o.length := by simp [ints]
theorem rd_ints (o : List Nat) (i : Nat) : rd (ints o) i = ((o.getD i 0 : Nat) : Int) := rd_map o i
def TnN (w : World) (g n : Nat) (o : List Nat) : Prop := Tn w g n (ints o)
def tnN (n : Nat) (o : List Nat) : Array Value := tnA n (ints o)
theorem TnN.cell0 {w : World} {g : Nat} {n : Nat} {o : List Nat} (h : TnN w g n o) : w.cell? ⟨g, 0, none⟩ = some (.int .i64 n) := Tn.cell0 h
theorem TnN.cellS {w : World} {g : Nat} {n : Nat} {o : List Nat} (h : TnN w g n o) (i : Nat) (h1 : i < o.length) : w.cell? ⟨g, i + 1, none⟩ = some (.int .i64 (o.getD i 0 : Nat)) := by
  have := Tn.cellS h (i : Int) (by omega) (by rw [ints_length]; omega)
  rw [rd_ints] at this
  exact this
/-- A town: its people, each with the set of those to whom an arc leads. -/
structure Okt (n : Nat) (o : List Nat) : Prop where
  n1 : 1 ≤ n
  n12 : n ≤ 12
  len : o.length = 12
  lt : ∀ i, o.getD i 0 < 2 ^ n
theorem Okt.lt62 {n : Nat} {o : List Nat} (h : Okt n o) (i : Nat) : o.getD i 0 < 2 ^ 62 :=
  Nat.lt_of_lt_of_le (h.lt i) (Nat.pow_le_pow_right (by decide) (by have := h.n12; omega))
theorem lt62_of {n s : Nat} (hn : n ≤ 12) (h : s < 2 ^ n) : s < 2 ^ 62 := Nat.lt_of_lt_of_le h (Nat.pow_le_pow_right (by decide) (by omega))
end Go.Proofs.Ytmobefgnkiboaaa.Im
