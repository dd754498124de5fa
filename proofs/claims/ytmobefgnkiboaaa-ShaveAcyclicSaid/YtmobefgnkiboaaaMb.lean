/- A region that draws its order, taken by hand: small laws. Worlds that have grown, one block apart; visitors of sets. A region that draws its order, taken by hand: the slots written out. The members of a set. One more number behind a list, in new memory. -/
import Derived.Test.YtmobefgnkiboaaaMa
import Derived.Outline
import Derived.StillTailTactics
import Derived.Test.YtmobefgnkiboaaaIm1
namespace Go.Proofs.Ytmobefgnkiboaaa.Im
open Go.RowKit Go.Proofs.YtmobefgnkiboaaaW.PrintWords Go.Proofs.YtmobefgnkiboaaaW.PrintLast Go.Proofs.YtmobefgnkiboaaaW.PrintMore
section
variable {P : Program} {ops : Array Oper} {Q : Exit → Act → World → Prop} {md : Region.Mode} {S : World → Prop}
theorem ro_call {i : Nat} {o : Oper} {f : FuncId} {args : Array Value} {a : Act} {w : World} {K : Act → World → Prop} (hi : ops[i]? = some o)
    (hw : Region.wanted o (yielded ops a.tmps) = true) (hr : (execOp a.eval o).run P w = .ok (.enter f args) w)
    (hc : Calls P f args w fun e w' => ∃ v, e = .returned v ∧ K (a.put o.dst v) w') : wpOp P ops Q i K a w := by
  unfold wpOp
  simp only [hi, hw, if_true]
  refine .inl ?_
  unfold Oper.wp
  rw [hr]
  refine hc.mono ?_
  rintro e w' ⟨v, rfl, h⟩
  exact h
theorem ro_val {i : Nat} {o : Oper} {v : Value} {a : Act} {w w' : World} {K : Act → World → Prop} (hi : ops[i]? = some o)
    (hw : Region.wanted o (yielded ops a.tmps) = true) (hr : (execOp a.eval o).run P w = .ok (.value v) w')
    (hc : K (a.put o.dst v) w') : wpOp P ops Q i K a w := by
  unfold wpOp
  simp only [hi, hw, if_true]
  refine .inl ?_
  unfold Oper.wp
  rw [hr]
  exact hc
theorem ro_skip {i : Nat} {o : Oper} {a : Act} {w w' : World} {K : Act → World → Prop} (hi : ops[i]? = some o)
    (hw : Region.wanted o (yielded ops a.tmps) = true) (hr : (execOp a.eval o).run P w = .ok .skip w')
    (hc : K (a.put o.dst undef) w') : wpOp P ops Q i K a w := by
  unfold wpOp
  simp only [hi, hw, if_true]
  refine .inl ?_
  unfold Oper.wp
  rw [hr]
  exact hc
theorem ro_one {i : Nat} {fuel : Nat} {listed : Array Bool} {a : Act} {w : World} (hr : Region.ready md ops listed = [i])
    (h : wpOp P ops Q i (fun a' w' => S w' ∧ wpAnyH P md ops Q S fuel (listed.setIfInBounds i true) a' w') a w) : wpAnyH P md ops Q S (fuel + 1) listed a w :=
  wpAnyH_all hr (by simp) fun j hj => by
    obtain rfl : j = i := by simpa using hj
    exact h
/-- What yields in every world. -/
theorem yi_any {o : Oper} {v : Value} {a : Act} (hw : Region.wanted o (yielded ops a.tmps) = true) (h : ∀ w, (execOp a.eval o).run P w = .ok (.value v) w) : YieldsIf P ops S o v a := .inl ⟨hw, fun w _ => h w⟩
theorem yi_at {o : Oper} {v : Value} {a : Act} (hw : Region.wanted o (yielded ops a.tmps) = true) (h : ∀ w, S w → (execOp a.eval o).run P w = .ok (.value v) w) : YieldsIf P ops S o v a := .inl ⟨hw, h⟩
theorem yi_not {o : Oper} {a : Act} (hw : Region.wanted o (yielded ops a.tmps) = false) : YieldsIf P ops S o undef a := .inr ⟨hw, rfl⟩
end
/-- The whole town is read. -/
theorem info50 : (Try.prog.info? 50).map (·.size) = some 13 := by kernel_rfl
theorem ex_load_tn {ev : Operand → Value} {o : Oper} {x : Operand} (ho : o.op = .load 50 x) (w : World) (g n : Nat) (l : List Nat) (hx : ev x = .pointer (some ⟨g, 0, none⟩)) (h : TnN w g n l) (hl : l.length = 12) :
    (execOp ev o).run Try.prog w = .ok (.value (.agg (tnN n l))) w := by
  have := run_loadVar_row (P := Try.prog) w g 50 50 (tnN n l) (0, 0) _ h Try.underlying50 rfl (by rw [info50, tnN, tnA_size, ints_length, hl])
  unfold execOp
  simp only [ho, hx, Instr.loadAt, Instr.sureAddr, Sem.run_bind, Sem.run_pure, Result.andThen_ok, this]
end Go.Proofs.Ytmobefgnkiboaaa.Im

namespace Go.Proofs.Ytmobefgnkiboaaa.Im
open Go.RowKit Go.Proofs.YtmobefgnkiboaaaW.PrintWords Go.Proofs.YtmobefgnkiboaaaW.PrintLast Go.Proofs.YtmobefgnkiboaaaW.PrintMore

theorem tn_size (m : Nat) (o : List Nat) (h : o.length = 12) : (tnN m o).size = 13 := by rw [tnN, tnA_size, ints_length, h]
theorem tn_one (m : Nat) (o : List Nat) : (tnN m o).all (·.oneCell') = true := by
  rw [Array.all_eq_true_iff_forall_mem]
  intro x hx
  simp only [tnN, tnA, List.mem_toArray, List.mem_cons, List.mem_map] at hx
  rcases hx with rfl | ⟨y, _, rfl⟩ <;> rfl
theorem tn_info (m : Nat) (o : List Nat) (h : o.length = 12) : (Try.prog.info? 50).map (·.size) = some (tnN m o).size := by rw [info50, tn_size m o h]
theorem tn_old (m m' : Nat) (o o' : List Nat) (h : o.length = 12) (h' : o'.length = 12) : (tnN m o).size = (tnN m' o').size := by rw [tn_size m o h, tn_size m' o' h']
theorem wp_still_tail {P : Program} {id : Nat} {Q : Exit → Act → World → Prop} {a : Act} {w : World} {l : List Oper} (n : Nat) (hm : P.follows .mixedOrders = true) (hB : Region.lexTailB .any l.toArray n = true)
    (h : wpStill P l.toArray w.drew (fun a' => wpList P l.toArray Q (l.drop n) a' w.drew) (l.take n) a) : (Code.region id l.toArray true).wp P Q a w := wp_region_still_tail n hm hB h
theorem Blk.new' {w : World} {g : Nat} {t : TypeId} {cs : Array Value} (h : g = w.heap.size) : Blk (w.alloc (.cells cs t)) g t cs := h ▸ Blk.new w t cs
theorem gb_trans {w w1 w2 : World} {row : Option Nat} (h : w.grownBy w1 row) (k : w1.grownBy w2 row) : w.grownBy w2 row :=
  ⟨k.os.trans h.os, k.tape.trans h.tape, k.output.trans h.output, Nat.le_trans h.size k.size, fun i hi hne => (k.block i (Nat.lt_of_lt_of_le hi h.size) hne).trans (h.block i hi hne)⟩
theorem gb_none {w w1 : World} {row : Option Nat} (h : w.grownBy w1 none) : w.grownBy w1 row := ⟨h.os, h.tape, h.output, h.size, fun i hi _ => h.block i hi (by simp)⟩
theorem gb_below {w w1 : World} {row : Option Nat} (h : Below w.heap.size w w1) : w.grownBy w1 row := ⟨h.os, h.tape, h.output, h.size, fun i hi _ => h.block i hi⟩
theorem below_gb {w w1 : World} (h : w.grownBy w1 none) : Below w.heap.size w w1 := ⟨h.os, h.tape, h.output, h.size, fun i hi => h.block i hi (by simp)⟩
theorem gb_drew (w : World) (row : Option Nat) : w.grownBy w.drew row := gb_below (below_drew (Below.refl _ _))
theorem gb_drewN (w : World) (n : Nat) (row : Option Nat) : w.grownBy (w.drewN n) row := gb_below (pw_below_drewN (Below.refl _ _) n)
theorem gb_alloc (w : World) (o : Obj) (row : Option Nat) : w.grownBy (w.alloc o) row := gb_below (below_alloc (Below.refl _ _) o)
theorem gb_set (w : World) (p : Addr) (v : Value) : w.grownBy (w.setCell p v) (some p.block) :=
  ⟨rfl, rfl, rfl, by simp [World.setCell], fun i hi hne => Below.heap_setCell w p v i (fun e => hne (by rw [e]))⟩
theorem Blk.gb {w w' : World} {g : Nat} {t : TypeId} {cs : Array Value} {row : Option Nat} (h : Blk w g t cs) (hb : w.grownBy w' row) (hg : some g ≠ row) : Blk w' g t cs := (hb.block g h.lt hg).trans h
theorem Blk.row {w : World} {g : Nat} {t : TypeId} {old : Array Value} (h : Blk w g t old) (cs : Array Value) : Blk (w.setRow g cs) g t cs := setRow_heap w g old cs t (0, 0) h
theorem Blk.rowFar {w : World} {g g' : Nat} {t : TypeId} {cs : Array Value} (h : Blk w g t cs) (cs' : Array Value) (hne : g ≠ g') : Blk (w.setRow g' cs') g t cs := (setRow_other w g' g cs' hne).trans h
theorem gb_row (w : World) (g : Nat) (cs : Array Value) : w.grownBy (w.setRow g cs) (some g) :=
  ⟨rfl, rfl, rfl, by simp [World.setRow], fun i _ hne => setRow_other w g i cs (fun e => hne (by rw [e]))⟩
theorem gb_below_new {w w1 w2 : World} {row : Option Nat} (h : Below w.heap.size w w1) (k : w1.grownBy w2 row) (hr : ∀ g, row = some g → w.heap.size ≤ g) : Below w.heap.size w w2 := h.grown k h.size hr

/-- A function value that is called with sets; 'vis' says what it answers and what state it leaves. -/
structure Visit {σ : Type} (I : σ → World → Prop) (row : Option Nat) (f : FuncId) (cap : Array Value) (vis : σ → Nat → Bool × σ) : Prop where
  enter : ∀ (args : Array Value) (w : World), (callFunc f args).run Try.prog w = .ok (.enter f args) w
  keep : ∀ st w w', I st w → w.grownBy w' none → I st w'
  calls : ∀ st s w, s < 4096 → I st w → Calls Try.prog f (#[.int .i64 (s : Nat)] ++ cap) w (fun e w' => e = .returned (.bool (vis st s).1) ∧ I (vis st s).2 w' ∧ w.grownBy w' row)

/-- All sets that contain a set and some of the people of a list, in their order, until one is answered true. -/
def lpL {σ : Type} (vis : σ → Nat → Bool × σ) : List Nat → Nat → σ → Bool × σ
  | [], _, st => (false, st)
  | i :: rest, s, st =>
    let r := vis st (s ||| 2 ^ i)
    if r.1 then (true, r.2) else
    let q := lpL vis rest (s ||| 2 ^ i) r.2
    if q.1 then (true, q.2) else lpL vis rest s q.2
def onL {σ : Type} (vis : σ → Nat → Bool × σ) (l : List Nat) (s : Nat) (st : σ) : Bool × σ :=
  let r := vis st s
  if r.1 then (true, r.2) else lpL vis l s r.2
theorem lpL_cons {σ : Type} (vis : σ → Nat → Bool × σ) (i : Nat) (rest : List Nat) (s : Nat) (st : σ) :
    lpL vis (i :: rest) s st = if (onL vis rest (s ||| 2 ^ i) st).1 then (true, (onL vis rest (s ||| 2 ^ i) st).2) else lpL vis rest s (onL vis rest (s ||| 2 ^ i) st).2 := by
  simp only [lpL, onL]
  by_cases h : (vis st (s ||| 2 ^ i)).1 = true <;> simp [h]
/-- The members of a set from a number on. -/
def memF (p : Nat) : Nat → Nat → List Nat
  | 0, _ => []
  | d + 1, i => if p.testBit i then i :: memF p d (i + 1) else memF p d (i + 1)
def mem12 (p i : Nat) : List Nat := memF p (12 - i) i
theorem mem12_step (p i : Nat) (h : i < 12) : mem12 p i = if p.testBit i then i :: mem12 p (i + 1) else mem12 p (i + 1) := by
  unfold mem12
  rw [show 12 - i = (12 - (i + 1)) + 1 by omega]
  rfl
theorem memF_none (p : Nat) : ∀ d i, p >>> i = 0 → memF p d i = []
  | 0, _, _ => rfl
  | d + 1, i, h => by
    have ht : p.testBit i = false := by simp [Nat.testBit, h]
    have hn : p >>> (i + 1) = 0 := by rw [Nat.shiftRight_add, h]; rfl
    rw [memF, ht, memF_none p d (i + 1) hn]
    rfl
theorem mem12_none (p i : Nat) (h : p >>> i = 0) : mem12 p i = [] := memF_none p _ i h
theorem shr12 (p i : Nat) (hp : p < 4096) (h : p >>> i ≠ 0) : i < 12 := by
  rcases Nat.lt_or_ge i 12 with h' | h'
  · exact h'
  · exfalso
    apply h
    rw [Nat.shiftRight_eq_div_pow]
    apply Nat.div_eq_of_lt
    exact Nat.lt_of_lt_of_le hp (Nat.pow_le_pow_right (by decide) h' : 2 ^ 12 ≤ 2 ^ i)
theorem or_lt12 (s i : Nat) (hs : s < 4096) (hi : i < 12) : s ||| 2 ^ i < 4096 :=
  Nat.or_lt_two_pow (n := 12) hs (Nat.pow_lt_pow_right (by decide) hi)
end Go.Proofs.Ytmobefgnkiboaaa.Im

namespace Go.Proofs.Ytmobefgnkiboaaa.Im
open Go.RowKit
section
variable {P : Program} {ops : Array Oper} {Q : Exit → Act → World → Prop} {md : Region.Mode} {S : World → Prop}
/-- A slot is written. -/
def pt (a : Act) (d : Nat) (v : Value) : Act := ⟨a.tmps.setIfInBounds d v, a.defers⟩
theorem pt_lit (l : List Value) (ds : List Deferred) (d : Nat) (v : Value) : pt ⟨l.toArray, ds⟩ d v = ⟨(l.set d v).toArray, ds⟩ := by simp [pt]
theorem pt_put {a : Act} {o : Oper} {d : Nat} {v : Value} (h : o.dst = some d) : a.put o.dst v = pt a d v := by rw [h]; rfl
theorem tk {i : Nat} (d : Nat) {oi : Oper} {v : Value} {fuel : Nat} {listed : Array Bool} {a : Act} {w : World} (hi : ops[i]? = some oi) (hd : oi.dst = some d)
    (hs : Region.noSelect ops = true) (hf : Region.free md ops listed i = true) (hr : (Region.ready md ops listed).contains i = true)
    (hQ : ∀ c a w, Q (.panic c) (a.put oi.dst v) w → Q (.panic c) a w) (hw : Region.wanted oi (yielded ops a.tmps) = true) (hy : ∀ w, S w → (execOp a.eval oi).run P w = .ok (.value v) w) (hS : S w)
    (h : wpAnyH P md ops Q S fuel (listed.setIfInBounds i true) (pt a d v) w) : wpAnyH P md ops Q S (fuel + 1) listed a w :=
  wpAnyH_take hi hs hf hr hQ (.inl ⟨hw, hy⟩) hS (by rw [pt_put hd]; exact h)
theorem tk_not {i : Nat} (d : Nat) {oi : Oper} {fuel : Nat} {listed : Array Bool} {a : Act} {w : World} (hi : ops[i]? = some oi) (hd : oi.dst = some d)
    (hs : Region.noSelect ops = true) (hf : Region.free md ops listed i = true) (hr : (Region.ready md ops listed).contains i = true)
    (hQ : ∀ c a w, Q (.panic c) (a.put oi.dst undef) w → Q (.panic c) a w) (hw : Region.wanted oi (yielded ops a.tmps) = false) (hS : S w)
    (h : wpAnyH P md ops Q S fuel (listed.setIfInBounds i true) (pt a d undef) w) : wpAnyH P md ops Q S (fuel + 1) listed a w :=
  wpAnyH_take hi hs hf hr hQ (.inr ⟨hw, rfl⟩) hS (by rw [pt_put hd]; exact h)
theorem rc {i : Nat} (d : Nat) {o : Oper} {fuel : Nat} {listed : Array Bool} {f : FuncId} {args : Array Value} {a : Act} {w : World} (hr : Region.ready md ops listed = [i]) (hi : ops[i]? = some o) (hd : o.dst = some d)
    (hw : Region.wanted o (yielded ops a.tmps) = true) (hx : (execOp a.eval o).run P w = .ok (.enter f args) w)
    (hc : Calls P f args w fun e w' => ∃ v, e = .returned v ∧ S w' ∧ wpAnyH P md ops Q S fuel (listed.setIfInBounds i true) (pt a d v) w') : wpAnyH P md ops Q S (fuel + 1) listed a w :=
  ro_one hr (ro_call hi hw hx (hc.mono fun _ _ ⟨v, h1, h2, h3⟩ => ⟨v, h1, h2, by rw [pt_put hd]; exact h3⟩))
theorem rv {i : Nat} (d : Nat) {o : Oper} {fuel : Nat} {listed : Array Bool} {v : Value} {a : Act} {w w' : World} (hr : Region.ready md ops listed = [i]) (hi : ops[i]? = some o) (hd : o.dst = some d)
    (hw : Region.wanted o (yielded ops a.tmps) = true) (hx : (execOp a.eval o).run P w = .ok (.value v) w')
    (hS : S w') (h : wpAnyH P md ops Q S fuel (listed.setIfInBounds i true) (pt a d v) w') : wpAnyH P md ops Q S (fuel + 1) listed a w :=
  ro_one hr (ro_val hi hw hx ⟨hS, by rw [pt_put hd]; exact h⟩)
end
/-- A load of a town, the program's own reading. -/
theorem ld_tn {a : Act} {o : Oper} (x : Operand) (ho : o.op = .load 50 x) {S : World → Prop} (g n : Nat) (l : List Nat) (hx : a.eval x = .pointer (some ⟨g, 0, none⟩)) (hl : l.length = 12) (hS : ∀ w, S w → TnN w g n l) :
    ∀ w, S w → (execOp a.eval o).run Try.prog w = .ok (.value (.agg (tnN n l))) w := fun w h => ex_load_tn ho w g n l hx (hS w h) hl
end Go.Proofs.Ytmobefgnkiboaaa.Im

namespace Go.Proofs.Ytmobefgnkiboaaa.Im
open Go.RowKit Go.Proofs.YtmobefgnkiboaaaW.PrintWords Go.Proofs.YtmobefgnkiboaaaW.PrintLast Go.Proofs.YtmobefgnkiboaaaW.PrintMore

theorem shr_i64 (s i : Nat) (h : i ≤ 62) : shr .i64 (s : Int) (i : Int) = ((s >>> i : Nat) : Int) := by
  unfold shr
  rw [Int.toNat_natCast, Nat.min_eq_left (by show i ≤ 64; omega), shr_nat]
theorem b_bitshr (s i : Nat) (h : s < 2 ^ 62) : bits .and .i64 ((s >>> i : Nat) : Int) 1 = if s.testBit i then 1 else 0 := by
  rw [← shr_nat]; exact b_bit s i h
theorem wr_succ (i : Nat) (h : i < 1000000) : wrap64 ((i : Int) + 1) = ((i + 1 : Nat) : Int) := by unfold wrap64; omega
theorem members_loop (s : Nat) (hs : s < 4096) : ∀ (d i k : Nat) (acc : List Int), 12 - i = d → i ≤ 12 → acc.length ≤ i → d < k → shave_members.l0 k s acc i = some (acc ++ ints (mem12 s i)) := by
  intro d
  induction d with
  | zero =>
    intro i k acc hd hi ha hk
    obtain ⟨k, rfl⟩ : ∃ m, k = m + 1 := ⟨k - 1, by omega⟩
    have hz : s >>> i = 0 := by
      rcases Nat.eq_zero_or_pos (s >>> i) with h | h
      · exact h
      · have := shr12 s i hs (by omega); omega
    simp only [shave_members.l0]
    rw [if_pos (by omega), shr_i64 s i (by omega), hz, if_neg (by simp), mem12_none s i hz]
    simp [ints]
  | succ d ih =>
    intro i k acc hd hi ha hk
    obtain ⟨k, rfl⟩ : ∃ m, k = m + 1 := ⟨k - 1, by omega⟩
    simp only [shave_members.l0]
    rw [if_pos (by omega), shr_i64 s i (by omega)]
    by_cases hz : s >>> i = 0
    · rw [hz, if_neg (by simp), mem12_none s i hz]
      simp [ints]
    · rw [if_pos (show ((s >>> i : Nat) : Int) > 0 by have : 0 < s >>> i := Nat.pos_of_ne_zero hz; exact_mod_cast this), b_bitshr s i (by omega), mem12_step s i (by omega), wr_succ i (by omega)]
      cases hb : s.testBit i
      · rw [if_neg (by simp), if_neg (by simp)]
        exact ih (i + 1) k acc (by omega) (by omega) (by omega) (by omega)
      · rw [if_pos (by simp), if_pos (by omega), if_pos rfl, ih (i + 1) k _ (by omega) (by omega) (by simp; omega) (by omega)]
        simp [ints]
theorem members_f (s : Nat) (hs : s < 4096) : shave_members.f 13 s = some (ints (mem12 s 0)) := by
  have := members_loop s hs 12 0 13 [] (by omega) (by omega) (by simp) (by omega)
  simpa [shave_members.f] using this
def MemPost (l : List Nat) (w : World) (e : Ending) (w' : World) : Prop :=
  ∃ v, e = .returned v ∧ Kd.R (Kd.int .i64) 3 w' w.heap.size (fun _ => True) v (ints l) ∧ Below w.heap.size w w'
theorem members_any (s : Nat) (w : World) (hs : s < 4096) : Calls Try.prog 46 #[.int .i64 s] w (MemPost (mem12 s 0) w) :=
  (shave_members.calls 13 s _ w (members_f s hs)).mono fun _ _ ⟨v, h1, h2, h3⟩ => ⟨v, h1, h2, h3⟩
/-- The members, ascending. -/
def memL (s : Nat) : List Nat := mem12 s 0
end Go.Proofs.Ytmobefgnkiboaaa.Im

namespace Go.Proofs.Ytmobefgnkiboaaa.Im
open Go.RowKit Go.Proofs.YtmobefgnkiboaaaW.PrintWords Go.Proofs.YtmobefgnkiboaaaW.PrintLast Go.Proofs.YtmobefgnkiboaaaW.PrintMore
set_option linter.unusedVariables false

theorem C_cells {w : World} {b : Addr} {l : List Int} (h : Kd.C (Kd.int .i64) w (some b) l.length l) : ∀ j u, (nums .i64 l)[j]? = some u → w.cell? (b.add j) = some u := by
  intro j u hu
  have hj : j < l.length := by
    rcases Nat.lt_or_ge j l.length with h' | h'
    · exact h'
    · rw [List.getElem?_eq_none (by rw [nums_length]; exact h')] at hu; cases hu
  obtain ⟨ad, e, hc⟩ := Kd.at_int h (j : Int) (by omega) (by omega)
  cases e
  rw [Int.toNat_natCast] at hc
  rw [hc, ← hu]
  simp [nums, rd, hj]
theorem C_none {w : World} {l : List Int} (h : Kd.C (Kd.int .i64) w none l.length l) : l = [] := by
  rcases Nat.eq_zero_or_pos l.length with h0 | h0
  · exact List.eq_nil_of_length_eq_zero h0
  · obtain ⟨ad, e, _⟩ := Kd.at_int h 0 (by omega) (by omega)
    cases e
theorem C_some {w : World} {A : Option Addr} {l : List Int} (h : Kd.C (Kd.int .i64) w A l.length l) (h0 : 0 < l.length) : ∃ ad, A = some ad := by
  obtain ⟨ad, e, _⟩ := Kd.at_int h 0 (by omega) (by omega)
  exact ⟨ad, e⟩
theorem nums_encs (l : List Int) : nums .i64 l = encs (Value.int .i64) l := rfl
/-- The run of the append. -/
theorem run_app1 (w : World) (A : Option Addr) (l : List Int) (g : Nat) (j : Int) (hr : Kd.C (Kd.int .i64) w A l.length l) (hg : w.cell? ⟨g, 0, none⟩ = some (.int .i64 j)) (hl : l.length < 1000000)
    (hA : A = none → l.length = 0) :
    ∃ v' w', (Builtin.append_ #[25, 25] 25 #[.slice A l.length l.length, .slice (some ⟨g, 0, none⟩) 1 1]).run Try.prog w = .ok v' w' ∧ Kd.R (Kd.int .i64) 3 w' w.heap.size (fun _ => True) v' (l ++ [j]) ∧ Below w.heap.size w w' := by
  obtain ⟨i0, hi, hzz⟩ := Option.map_eq_some_iff.1 info3
  simp only [Prod.mk.injEq] at hzz
  obtain ⟨hz0, hz1, hz2⟩ := hzz
  have hn : ∀ q u, [Value.int .i64 j][q]? = some u → w.cell? ((⟨g, 0, none⟩ : Addr).add q) = some u := by
    intro q u hu
    match q, hu with
    | 0, hu => simp at hu; subst hu; simpa [Addr.add] using hg
  have one : ∀ u ∈ [Value.int IntKind.i64 j], u.oneCell' = true := by intro u hu; simp at hu; subst hu; rfl
  have fin : ∀ v' w', w'.ownsRow w.heap.size 3 1 v' (l.length + 1) (nums .i64 l ++ [.int .i64 j]) → Kd.R (Kd.int .i64) 3 w' w.heap.size (fun _ => True) v' (l ++ [j]) := by
    intro v' w' h
    refine Kd.R_of_own ?_ (fun _ _ => trivial)
    have e : encs (Value.int .i64) (l ++ [j]) = nums .i64 l ++ [.int .i64 j] := by simp [encs, nums]
    rw [e, List.length_append]
    exact h
  cases A with
  | some b =>
    obtain ⟨v', w', hrun, r1, r2⟩ := run_append_arg_grows (P := Try.prog) w 25 25 3 i0 _ 1 8 Try.underlying25 hi hz0 hz1 hz2 rfl (by decide) b l.length l.length (nums .i64 l) (by simp [nums_length]) (C_cells hr) ⟨g, 0, none⟩ 1 1 [.int .i64 j] rfl hn (by omega) (by unfold maxLen; omega) (by omega)
    exact ⟨v', w', hrun, fin v' w' r1, below_gb r2⟩
  | none =>
    obtain rfl := C_none hr
    obtain ⟨v', w', hrun, r1, r2, _⟩ := run_append_own (P := Try.prog) w w.heap.size 25 25 3 i0 _ 1 8 Try.underlying25 hi hz0 hz1 hz2 rfl (by decide) (.slice none 0 0) 0 [] (World.ownsRow_nil w _ 3 1) ⟨g, 0, none⟩ 1 1 [.int .i64 j] rfl hn one (by unfold maxLen; omega) (by omega) (Nat.le_refl _)
    exact ⟨v', w', hrun, fin v' w' r1, below_gb r2⟩
theorem add_zero (b : Addr) : b.add 0 = b := by unfold Addr.add; simp
theorem run_slice3 (w : World) (A : Option Addr) (n c : Nat) (hc : n ≤ c) :
    (Instr.sliceAt 25 (.slice A n c) none (some (.int .i64 (n : Int))) (some (.int .i64 (n : Int)))).run Try.prog w = .ok (.slice A n n) w := by
  have hu : Try.prog.underlying 25 = some (.slice (Try.prog.elem 25)) := by rw [Try.underlying25]; rfl
  rw [run_sliceAt_slice w _ _ _ _ _ hu, run_slice_hm w 25 A n c hu .i64 .i64 (n : Int) (n : Int) (by omega) (by omega) (by omega)]
  have hs : (sizeOf (Try.prog.elem 25)).run Try.prog w = .ok 1 w := by kernel_rfl
  rw [hs]
  simp only [Result.andThen_ok, sliced, Int.toNat_natCast]
  cases A with
  | none => simp
  | some b => simp [add_zero]
theorem ex_slice3 {a : Act} {o : Oper} {x y z : Operand} (ho : o.op = .slice 25 x none (some y) (some z)) (w : World) (A : Option Addr) (n c : Nat) (hx : a.eval x = .slice A n c) (hy : a.eval y = .int .i64 n) (hz : a.eval z = .int .i64 n) (hc : n ≤ c) :
    (execOp a.eval o).run Try.prog w = .ok (.value (.slice A n n)) w := by
  unfold execOp
  simp [ho, hx, hy, hz, run_slice3 w A n c hc, Result.andThen]
section
variable {ops : Array Oper} {Q : Exit → Act → World → Prop} {md : Region.Mode} {S : World → Prop}
theorem ex_app1 {a : Act} {o : Oper} {s x : Operand} (ho : o.op = .call { callee := .builtin .append, args := #[s, x], argTypes := #[25, 25] }) (ht : o.type = 25) (w : World) (A : Option Addr) (l : List Int) (g : Nat) (j : Int)
    (hs : a.eval s = .slice A l.length l.length) (hx : a.eval x = .slice (some ⟨g, 0, none⟩) 1 1) (hr : Kd.C (Kd.int .i64) w A l.length l) (hg : w.cell? ⟨g, 0, none⟩ = some (.int .i64 j)) (hl : l.length < 1000000) (hA : A = none → l.length = 0) :
    ∃ v' w', (execOp a.eval o).run Try.prog w = .ok (.value v') w' ∧ Kd.R (Kd.int .i64) 3 w' w.heap.size (fun _ => True) v' (l ++ [j]) ∧ Below w.heap.size w w' := by
  obtain ⟨v', w', h1, h2, h3⟩ := run_app1 w A l g j hr hg hl hA
  refine ⟨v', w', ?_, h2, h3⟩
  unfold execOp
  simp [ho, ht, resolve, invoke, builtin, hs, hx, h1, Result.andThen]
/-- In a region that draws. -/
theorem r_app1 {i : Nat} (d : Nat) {o : Oper} {fuel : Nat} {listed : Array Bool} {a : Act} {w : World} (hrd : Region.ready md ops listed = [i]) (hi : ops[i]? = some o) (hd : o.dst = some d)
    (hw : Region.wanted o (yielded ops a.tmps) = true) {s x : Operand} (ho : o.op = .call { callee := .builtin .append, args := #[s, x], argTypes := #[25, 25] }) (ht : o.type = 25) (A : Option Addr) (l : List Int) (g : Nat) (j : Int)
    (hs : a.eval s = .slice A l.length l.length) (hx : a.eval x = .slice (some ⟨g, 0, none⟩) 1 1) (hr : Kd.C (Kd.int .i64) w A l.length l) (hg : w.cell? ⟨g, 0, none⟩ = some (.int .i64 j)) (hl : l.length < 1000000) (hA : A = none → l.length = 0)
    (h : ∀ v' w', Kd.R (Kd.int .i64) 3 w' w.heap.size (fun _ => True) v' (l ++ [j]) → Below w.heap.size w w' → S w' ∧ wpAnyH Try.prog md ops Q S fuel (listed.setIfInBounds i true) (pt a d v') w') : wpAnyH Try.prog md ops Q S (fuel + 1) listed a w := by
  obtain ⟨v', w', h1, h2, h3⟩ := ex_app1 (a := a) ho ht w A l g j hs hx hr hg hl hA
  exact rv d hrd hi hd hw h1 (h v' w' h2 h3).1 (h v' w' h2 h3).2
theorem l_slice3 {rest : List Oper} {o : Oper} {a : Act} {w : World} (hgd : o.guard = none) {x y z : Operand} (ho : o.op = .slice 25 x none (some y) (some z)) (A : Option Addr) (n c : Nat) (hx : a.eval x = .slice A n c) (hy : a.eval y = .int .i64 n) (hz : a.eval z = .int .i64 n) (hc : n ≤ c)
    (h : wpList Try.prog ops Q rest (a.put o.dst (.slice A n n)) w) : wpList Try.prog ops Q (o :: rest) a w := by
  refine wpList_plain hgd fun K hK => ?_
  unfold Oper.wp
  rw [ex_slice3 ho w A n c hx hy hz hc]
  exact hK _ _ h
/-- In the order of the text. -/
theorem l_app1 {rest : List Oper} {o : Oper} {a : Act} {w : World} (hgd : o.guard = none) {s x : Operand} (ho : o.op = .call { callee := .builtin .append, args := #[s, x], argTypes := #[25, 25] }) (ht : o.type = 25) (A : Option Addr) (l : List Int) (g : Nat) (j : Int)
    (hs : a.eval s = .slice A l.length l.length) (hx : a.eval x = .slice (some ⟨g, 0, none⟩) 1 1) (hr : Kd.C (Kd.int .i64) w A l.length l) (hg : w.cell? ⟨g, 0, none⟩ = some (.int .i64 j)) (hl : l.length < 1000000) (hA : A = none → l.length = 0)
    (h : ∀ v' w', Kd.R (Kd.int .i64) 3 w' w.heap.size (fun _ => True) v' (l ++ [j]) → Below w.heap.size w w' → wpList Try.prog ops Q rest (a.put o.dst v') w') : wpList Try.prog ops Q (o :: rest) a w := by
  obtain ⟨v', w', h1, h2, h3⟩ := ex_app1 (a := a) ho ht w A l g j hs hx hr hg hl hA
  refine wpList_plain hgd fun K hK => ?_
  unfold Oper.wp
  rw [h1]
  exact hK _ _ (h v' w' h2 h3)
end
end Go.Proofs.Ytmobefgnkiboaaa.Im
