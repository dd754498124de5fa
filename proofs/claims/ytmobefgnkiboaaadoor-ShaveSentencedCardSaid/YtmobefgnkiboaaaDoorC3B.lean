/- Further parts of the same walk: contracts of the functions that the law reaches, each under the conditions that it states. -/
import Derived.Test.YtmobefgnkiboaaaDoorC3A
import Derived.Outline
import Derived.StillTailTactics
namespace Go.Proofs.YtmobefgnkiboaaaDoor.Sh
open Go.RowKit Go.Proofs.YtmobefgnkiboaaaDoorW.PrintWords Go.Proofs.YtmobefgnkiboaaaDoorW.PrintLast Go.Proofs.YtmobefgnkiboaaaDoorW.PrintMore
section
variable {P : Program} {ops : Array Oper} {Q : Exit → Act → World → Prop} {md : Region.Mode} {S : World → Prop}
theorem ro_call {i : Nat} {o : Oper} {f : FuncId} {args : Array Value} {a : Act} {w : World} {K : Act → World → Prop} (hi : ops[i]? = some o)
    (hw : Region.wanted o (yielded ops a.tmps) = true) (hr : (execOp a.eval o).run P w = .ok (.enter f args) w)
    (hc : Calls P f args w fun e w' => ∃ v, e = .returned v ∧ K (a.put o.dst v) w') : wpOp P ops Q i K a w := by
  unfold wpOp
  simp only [hi, hw, if_true]
  refine .inl ?_
  unfold Oper.wp
  rw [hr]
  refine hc.mono ?_
  rintro e w' ⟨v, rfl, h⟩
  exact h
theorem ro_val {i : Nat} {o : Oper} {v : Value} {a : Act} {w w' : World} {K : Act → World → Prop} (hi : ops[i]? = some o)
    (hw : Region.wanted o (yielded ops a.tmps) = true) (hr : (execOp a.eval o).run P w = .ok (.value v) w')
    (hc : K (a.put o.dst v) w') : wpOp P ops Q i K a w := by
  unfold wpOp
  simp only [hi, hw, if_true]
  refine .inl ?_
  unfold Oper.wp
  rw [hr]
  exact hc
theorem ro_skip {i : Nat} {o : Oper} {a : Act} {w w' : World} {K : Act → World → Prop} (hi : ops[i]? = some o)
    (hw : Region.wanted o (yielded ops a.tmps) = true) (hr : (execOp a.eval o).run P w = .ok .skip w')
    (hc : K (a.put o.dst undef) w') : wpOp P ops Q i K a w := by
  unfold wpOp
  simp only [hi, hw, if_true]
  refine .inl ?_
  unfold Oper.wp
  rw [hr]
  exact hc
theorem ro_one {i : Nat} {fuel : Nat} {listed : Array Bool} {a : Act} {w : World} (hr : Region.ready md ops listed = [i])
    (h : wpOp P ops Q i (fun a' w' => S w' ∧ wpAnyH P md ops Q S fuel (listed.setIfInBounds i true) a' w') a w) : wpAnyH P md ops Q S (fuel + 1) listed a w :=
  wpAnyH_all hr (by simp) fun j hj => by
    obtain rfl : j = i := by simpa using hj
    exact h
theorem yi_any {o : Oper} {v : Value} {a : Act} (hw : Region.wanted o (yielded ops a.tmps) = true) (h : ∀ w, (execOp a.eval o).run P w = .ok (.value v) w) : YieldsIf P ops S o v a := .inl ⟨hw, fun w _ => h w⟩
theorem yi_at {o : Oper} {v : Value} {a : Act} (hw : Region.wanted o (yielded ops a.tmps) = true) (h : ∀ w, S w → (execOp a.eval o).run P w = .ok (.value v) w) : YieldsIf P ops S o v a := .inl ⟨hw, h⟩
end
theorem info50 : (Tryd.prog.info? 47).map (·.size) = some 13 := by kernel_rfl
theorem ex_load_tn {ev : Operand → Value} {o : Oper} {x : Operand} (ho : o.op = .load 47 x) (w : World) (g n : Nat) (l : List Nat) (hx : ev x = .pointer (some ⟨g, 0, none⟩)) (h : TnN w g n l) (hl : l.length = 12) :
    (execOp ev o).run Tryd.prog w = .ok (.value (.agg (tnN n l))) w := by
  have := run_loadVar_row (P := Tryd.prog) w g 47 47 (tnN n l) (0, 0) _ h Tryd.underlying47 rfl (by rw [info50, tnN, tnA_size, ints_length, hl])
  unfold execOp
  simp only [ho, hx, Instr.loadAt, Instr.sureAddr, Sem.run_bind, Sem.run_pure, Result.andThen_ok, this]
end Go.Proofs.YtmobefgnkiboaaaDoor.Sh
namespace Go.Proofs.YtmobefgnkiboaaaDoor.Sh
open Go.RowKit Go.Proofs.YtmobefgnkiboaaaDoorW.PrintWords Go.Proofs.YtmobefgnkiboaaaDoorW.PrintLast Go.Proofs.YtmobefgnkiboaaaDoorW.PrintMore
theorem tn_size (m : Nat) (o : List Nat) (h : o.length = 12) : (tnN m o).size = 13 := by rw [tnN, tnA_size, ints_length, h]
theorem tn_one (m : Nat) (o : List Nat) : (tnN m o).all (·.oneCell') = true := by
  rw [Array.all_eq_true_iff_forall_mem]
  intro x hx
  simp only [tnN, tnA, List.mem_toArray, List.mem_cons, List.mem_map] at hx
  rcases hx with rfl | ⟨y, _, rfl⟩ <;> rfl
theorem tn_info (m : Nat) (o : List Nat) (h : o.length = 12) : (Tryd.prog.info? 47).map (·.size) = some (tnN m o).size := by rw [info50, tn_size m o h]
theorem tn_old (m m' : Nat) (o o' : List Nat) (h : o.length = 12) (h' : o'.length = 12) : (tnN m o).size = (tnN m' o').size := by rw [tn_size m o h, tn_size m' o' h']
theorem wp_still_tail {P : Program} {id : Nat} {Q : Exit → Act → World → Prop} {a : Act} {w : World} {l : List Oper} (n : Nat) (hm : P.follows .mixedOrders = true) (hB : Region.lexTailB .any l.toArray n = true)
    (h : wpStill P l.toArray w.drew (fun a' => wpList P l.toArray Q (l.drop n) a' w.drew) (l.take n) a) : (Code.region id l.toArray true).wp P Q a w := wp_region_still_tail n hm hB h
theorem Blk.new' {w : World} {g : Nat} {t : TypeId} {cs : Array Value} (h : g = w.heap.size) : Blk (w.alloc (.cells cs t)) g t cs := h ▸ Blk.new w t cs
theorem gb_trans {w w1 w2 : World} {row : Option Nat} (h : w.grownBy w1 row) (k : w1.grownBy w2 row) : w.grownBy w2 row :=
  ⟨k.os.trans h.os, k.tape.trans h.tape, k.output.trans h.output, Nat.le_trans h.size k.size, fun i hi hne => (k.block i (Nat.lt_of_lt_of_le hi h.size) hne).trans (h.block i hi hne)⟩
theorem gb_below {w w1 : World} {row : Option Nat} (h : Below w.heap.size w w1) : w.grownBy w1 row := ⟨h.os, h.tape, h.output, h.size, fun i hi _ => h.block i hi⟩
theorem below_gb {w w1 : World} (h : w.grownBy w1 none) : Below w.heap.size w w1 := ⟨h.os, h.tape, h.output, h.size, fun i hi => h.block i hi (by simp)⟩
theorem gb_drew (w : World) (row : Option Nat) : w.grownBy w.drew row := gb_below (below_drew (Below.refl _ _))
theorem gb_drewN (w : World) (n : Nat) (row : Option Nat) : w.grownBy (w.drewN n) row := gb_below (pw_below_drewN (Below.refl _ _) n)
theorem gb_set (w : World) (p : Addr) (v : Value) : w.grownBy (w.setCell p v) (some p.block) :=
  ⟨rfl, rfl, rfl, by simp [World.setCell], fun i hi hne => Below.heap_setCell w p v i (fun e => hne (by rw [e]))⟩
theorem Blk.gb {w w' : World} {g : Nat} {t : TypeId} {cs : Array Value} {row : Option Nat} (h : Blk w g t cs) (hb : w.grownBy w' row) (hg : some g ≠ row) : Blk w' g t cs := (hb.block g h.lt hg).trans h
theorem Blk.row {w : World} {g : Nat} {t : TypeId} {old : Array Value} (h : Blk w g t old) (cs : Array Value) : Blk (w.setRow g cs) g t cs := setRow_heap w g old cs t (0, 0) h
theorem gb_row (w : World) (g : Nat) (cs : Array Value) : w.grownBy (w.setRow g cs) (some g) :=
  ⟨rfl, rfl, rfl, by simp [World.setRow], fun i _ hne => setRow_other w g i cs (fun e => hne (by rw [e]))⟩
theorem gb_below_new {w w1 w2 : World} {row : Option Nat} (h : Below w.heap.size w w1) (k : w1.grownBy w2 row) (hr : ∀ g, row = some g → w.heap.size ≤ g) : Below w.heap.size w w2 := h.grown k h.size hr
structure Visit {σ : Type} (I : σ → World → Prop) (row : Option Nat) (f : FuncId) (cap : Array Value) (vis : σ → Nat → Bool × σ) : Prop where
  enter : ∀ (args : Array Value) (w : World), (callFunc f args).run Tryd.prog w = .ok (.enter f args) w
  keep : ∀ st w w', I st w → w.grownBy w' none → I st w'
  calls : ∀ st s w, s < 4096 → I st w → Calls Tryd.prog f (#[.int .i64 (s : Nat)] ++ cap) w (fun e w' => e = .returned (.bool (vis st s).1) ∧ I (vis st s).2 w' ∧ w.grownBy w' row)
def lpL {σ : Type} (vis : σ → Nat → Bool × σ) : List Nat → Nat → σ → Bool × σ
  | [], _, st => (false, st)
  | i :: rest, s, st =>
    let r := vis st (s ||| 2 ^ i)
    if r.1 then (true, r.2) else
    let q := lpL vis rest (s ||| 2 ^ i) r.2
    if q.1 then (true, q.2) else lpL vis rest s q.2
def onL {σ : Type} (vis : σ → Nat → Bool × σ) (l : List Nat) (s : Nat) (st : σ) : Bool × σ :=
  let r := vis st s
  if r.1 then (true, r.2) else lpL vis l s r.2
theorem lpL_cons {σ : Type} (vis : σ → Nat → Bool × σ) (i : Nat) (rest : List Nat) (s : Nat) (st : σ) :
    lpL vis (i :: rest) s st = if (onL vis rest (s ||| 2 ^ i) st).1 then (true, (onL vis rest (s ||| 2 ^ i) st).2) else lpL vis rest s (onL vis rest (s ||| 2 ^ i) st).2 := by
  simp only [lpL, onL]
  by_cases h : (vis st (s ||| 2 ^ i)).1 = true <;> simp [h]
def memF (p : Nat) : Nat → Nat → List Nat
  | 0, _ => []
  | d + 1, i => if p.testBit i then i :: memF p d (i + 1) else memF p d (i + 1)
def mem12 (p i : Nat) : List Nat := memF p (12 - i) i
theorem mem12_step (p i : Nat) (h : i < 12) : mem12 p i = if p.testBit i then i :: mem12 p (i + 1) else mem12 p (i + 1) := by
  unfold mem12
  rw [show 12 - i = (12 - (i + 1)) + 1 by omega]
  rfl
theorem memF_none (p : Nat) : ∀ d i, p >>> i = 0 → memF p d i = []
  | 0, _, _ => rfl
  | d + 1, i, h => by
    have ht : p.testBit i = false := by simp [Nat.testBit, h]
    have hn : p >>> (i + 1) = 0 := by rw [Nat.shiftRight_add, h]; rfl
    rw [memF, ht, memF_none p d (i + 1) hn]
    rfl
theorem mem12_none (p i : Nat) (h : p >>> i = 0) : mem12 p i = [] := memF_none p _ i h
theorem shr12 (p i : Nat) (hp : p < 4096) (h : p >>> i ≠ 0) : i < 12 := by
  rcases Nat.lt_or_ge i 12 with h' | h'
  · exact h'
  · exfalso
    apply h
    rw [Nat.shiftRight_eq_div_pow]
    apply Nat.div_eq_of_lt
    exact Nat.lt_of_lt_of_le hp (Nat.pow_le_pow_right (by decide) h' : 2 ^ 12 ≤ 2 ^ i)
theorem or_lt12 (s i : Nat) (hs : s < 4096) (hi : i < 12) : s ||| 2 ^ i < 4096 :=
  Nat.or_lt_two_pow (n := 12) hs (Nat.pow_lt_pow_right (by decide) hi)
end Go.Proofs.YtmobefgnkiboaaaDoor.Sh
namespace Go.Proofs.YtmobefgnkiboaaaDoor.Sh
open Go.RowKit
section
variable {P : Program} {ops : Array Oper} {Q : Exit → Act → World → Prop} {md : Region.Mode} {S : World → Prop}
def pt (a : Act) (d : Nat) (v : Value) : Act := ⟨a.tmps.setIfInBounds d v, a.defers⟩
theorem pt_lit (l : List Value) (ds : List Deferred) (d : Nat) (v : Value) : pt ⟨l.toArray, ds⟩ d v = ⟨(l.set d v).toArray, ds⟩ := by simp [pt]
theorem pt_put {a : Act} {o : Oper} {d : Nat} {v : Value} (h : o.dst = some d) : a.put o.dst v = pt a d v := by rw [h]; rfl
theorem tk {i : Nat} (d : Nat) {oi : Oper} {v : Value} {fuel : Nat} {listed : Array Bool} {a : Act} {w : World} (hi : ops[i]? = some oi) (hd : oi.dst = some d)
    (hs : Region.noSelect ops = true) (hf : Region.free md ops listed i = true) (hr : (Region.ready md ops listed).contains i = true)
    (hQ : ∀ c a w, Q (.panic c) (a.put oi.dst v) w → Q (.panic c) a w) (hw : Region.wanted oi (yielded ops a.tmps) = true) (hy : ∀ w, S w → (execOp a.eval oi).run P w = .ok (.value v) w) (hS : S w)
    (h : wpAnyH P md ops Q S fuel (listed.setIfInBounds i true) (pt a d v) w) : wpAnyH P md ops Q S (fuel + 1) listed a w :=
  wpAnyH_take hi hs hf hr hQ (.inl ⟨hw, hy⟩) hS (by rw [pt_put hd]; exact h)
theorem rc {i : Nat} (d : Nat) {o : Oper} {fuel : Nat} {listed : Array Bool} {f : FuncId} {args : Array Value} {a : Act} {w : World} (hr : Region.ready md ops listed = [i]) (hi : ops[i]? = some o) (hd : o.dst = some d)
    (hw : Region.wanted o (yielded ops a.tmps) = true) (hx : (execOp a.eval o).run P w = .ok (.enter f args) w)
    (hc : Calls P f args w fun e w' => ∃ v, e = .returned v ∧ S w' ∧ wpAnyH P md ops Q S fuel (listed.setIfInBounds i true) (pt a d v) w') : wpAnyH P md ops Q S (fuel + 1) listed a w :=
  ro_one hr (ro_call hi hw hx (hc.mono fun _ _ ⟨v, h1, h2, h3⟩ => ⟨v, h1, h2, by rw [pt_put hd]; exact h3⟩))
theorem rv {i : Nat} (d : Nat) {o : Oper} {fuel : Nat} {listed : Array Bool} {v : Value} {a : Act} {w w' : World} (hr : Region.ready md ops listed = [i]) (hi : ops[i]? = some o) (hd : o.dst = some d)
    (hw : Region.wanted o (yielded ops a.tmps) = true) (hx : (execOp a.eval o).run P w = .ok (.value v) w')
    (hS : S w') (h : wpAnyH P md ops Q S fuel (listed.setIfInBounds i true) (pt a d v) w') : wpAnyH P md ops Q S (fuel + 1) listed a w :=
  ro_one hr (ro_val hi hw hx ⟨hS, by rw [pt_put hd]; exact h⟩)
end
theorem ld_tn {a : Act} {o : Oper} (x : Operand) (ho : o.op = .load 47 x) {S : World → Prop} (g n : Nat) (l : List Nat) (hx : a.eval x = .pointer (some ⟨g, 0, none⟩)) (hl : l.length = 12) (hS : ∀ w, S w → TnN w g n l) :
    ∀ w, S w → (execOp a.eval o).run Tryd.prog w = .ok (.value (.agg (tnN n l))) w := fun w h => ex_load_tn ho w g n l hx (hS w h) hl
end Go.Proofs.YtmobefgnkiboaaaDoor.Sh
namespace Go.Proofs.YtmobefgnkiboaaaDoor.Sh
open Go.RowKit Go.Proofs.YtmobefgnkiboaaaDoorW.PrintWords Go.Proofs.YtmobefgnkiboaaaDoorW.PrintLast Go.Proofs.YtmobefgnkiboaaaDoorW.PrintMore
theorem shr_i64 (s i : Nat) (h : i ≤ 62) : shr .i64 (s : Int) (i : Int) = ((s >>> i : Nat) : Int) := by
  unfold shr
  rw [Int.toNat_natCast, Nat.min_eq_left (by show i ≤ 64; omega), shr_nat]
theorem b_bitshr (s i : Nat) (h : s < 2 ^ 62) : bits .and .i64 ((s >>> i : Nat) : Int) 1 = if s.testBit i then 1 else 0 := by
  rw [← shr_nat]; exact b_bit s i h
theorem wr_succ (i : Nat) (h : i < 1000000) : wrap64 ((i : Int) + 1) = ((i + 1 : Nat) : Int) := by unfold wrap64; omega
theorem members_loop (s : Nat) (hs : s < 4096) : ∀ (d i k : Nat) (acc : List Int), 12 - i = d → i ≤ 12 → acc.length ≤ i → d < k → shave_members.l0 k s acc i = some (acc ++ ints (mem12 s i)) := by
  intro d
  induction d with
  | zero =>
    intro i k acc hd hi ha hk
    obtain ⟨k, rfl⟩ : ∃ m, k = m + 1 := ⟨k - 1, by omega⟩
    have hz : s >>> i = 0 := by
      rcases Nat.eq_zero_or_pos (s >>> i) with h | h
      · exact h
      · have := shr12 s i hs (by omega); omega
    simp only [shave_members.l0]
    rw [if_pos (by omega), shr_i64 s i (by omega), hz, if_neg (by simp), mem12_none s i hz]
    simp [ints]
  | succ d ih =>
    intro i k acc hd hi ha hk
    obtain ⟨k, rfl⟩ : ∃ m, k = m + 1 := ⟨k - 1, by omega⟩
    simp only [shave_members.l0]
    rw [if_pos (by omega), shr_i64 s i (by omega)]
    by_cases hz : s >>> i = 0
    · rw [hz, if_neg (by simp), mem12_none s i hz]
      simp [ints]
    · rw [if_pos (show ((s >>> i : Nat) : Int) > 0 by have : 0 < s >>> i := Nat.pos_of_ne_zero hz; exact_mod_cast this), b_bitshr s i (by omega), mem12_step s i (by omega), wr_succ i (by omega)]
      cases hb : s.testBit i
      · rw [if_neg (by simp), if_neg (by simp)]
        exact ih (i + 1) k acc (by omega) (by omega) (by omega) (by omega)
      · rw [if_pos (by simp), if_pos (by omega), if_pos rfl, ih (i + 1) k _ (by omega) (by omega) (by simp; omega) (by omega)]
        simp [ints]
theorem members_f (s : Nat) (hs : s < 4096) : shave_members.f 13 s = some (ints (mem12 s 0)) := by
  have := members_loop s hs 12 0 13 [] (by omega) (by omega) (by simp) (by omega)
  simpa [shave_members.f] using this
def MemPost (l : List Nat) (w : World) (e : Ending) (w' : World) : Prop :=
  ∃ v, e = .returned v ∧ Kd.R (Kd.int .i64) 3 w' w.heap.size (fun _ => True) v (ints l) ∧ Below w.heap.size w w'
theorem members_any (s : Nat) (w : World) (hs : s < 4096) : Calls Tryd.prog 20 #[.int .i64 s] w (MemPost (mem12 s 0) w) :=
  (shave_members.calls 13 s _ w (members_f s hs)).mono fun _ _ ⟨v, h1, h2, h3⟩ => ⟨v, h1, h2, h3⟩
def memL (s : Nat) : List Nat := mem12 s 0
end Go.Proofs.YtmobefgnkiboaaaDoor.Sh
namespace Go.Proofs.YtmobefgnkiboaaaDoor.Sh
open Go.RowKit Go.Proofs.YtmobefgnkiboaaaDoorW.PrintWords Go.Proofs.YtmobefgnkiboaaaDoorW.PrintLast Go.Proofs.YtmobefgnkiboaaaDoorW.PrintMore
set_option linter.unusedVariables false
theorem C_cells {w : World} {b : Addr} {l : List Int} (h : Kd.C (Kd.int .i64) w (some b) l.length l) : ∀ j u, (nums .i64 l)[j]? = some u → w.cell? (b.add j) = some u := by
  intro j u hu
  have hj : j < l.length := by
    rcases Nat.lt_or_ge j l.length with h' | h'
    · exact h'
    · rw [List.getElem?_eq_none (by rw [nums_length]; exact h')] at hu; cases hu
  obtain ⟨ad, e, hc⟩ := Kd.at_int h (j : Int) (by omega) (by omega)
  cases e
  rw [Int.toNat_natCast] at hc
  rw [hc, ← hu]
  simp [nums, rd, hj]
theorem C_none {w : World} {l : List Int} (h : Kd.C (Kd.int .i64) w none l.length l) : l = [] := by
  rcases Nat.eq_zero_or_pos l.length with h0 | h0
  · exact List.eq_nil_of_length_eq_zero h0
  · obtain ⟨ad, e, _⟩ := Kd.at_int h 0 (by omega) (by omega)
    cases e
theorem C_some {w : World} {A : Option Addr} {l : List Int} (h : Kd.C (Kd.int .i64) w A l.length l) (h0 : 0 < l.length) : ∃ ad, A = some ad := by
  obtain ⟨ad, e, _⟩ := Kd.at_int h 0 (by omega) (by omega)
  exact ⟨ad, e⟩
theorem run_app1 (w : World) (A : Option Addr) (l : List Int) (g : Nat) (j : Int) (hr : Kd.C (Kd.int .i64) w A l.length l) (hg : w.cell? ⟨g, 0, none⟩ = some (.int .i64 j)) (hl : l.length < 1000000)
    (hA : A = none → l.length = 0) :
    ∃ v' w', (Builtin.append_ #[23, 23] 23 #[.slice A l.length l.length, .slice (some ⟨g, 0, none⟩) 1 1]).run Tryd.prog w = .ok v' w' ∧ Kd.R (Kd.int .i64) 3 w' w.heap.size (fun _ => True) v' (l ++ [j]) ∧ Below w.heap.size w w' := by
  obtain ⟨i0, hi, hzz⟩ := Option.map_eq_some_iff.1 info3
  simp only [Prod.mk.injEq] at hzz
  obtain ⟨hz0, hz1, hz2⟩ := hzz
  have hn : ∀ q u, [Value.int .i64 j][q]? = some u → w.cell? ((⟨g, 0, none⟩ : Addr).add q) = some u := by
    intro q u hu
    match q, hu with
    | 0, hu => simp at hu; subst hu; simpa [Addr.add] using hg
  have one : ∀ u ∈ [Value.int IntKind.i64 j], u.oneCell' = true := by intro u hu; simp at hu; subst hu; rfl
  have fin : ∀ v' w', w'.ownsRow w.heap.size 3 1 v' (l.length + 1) (nums .i64 l ++ [.int .i64 j]) → Kd.R (Kd.int .i64) 3 w' w.heap.size (fun _ => True) v' (l ++ [j]) := by
    intro v' w' h
    refine Kd.R_of_own ?_ (fun _ _ => trivial)
    have e : encs (Value.int .i64) (l ++ [j]) = nums .i64 l ++ [.int .i64 j] := by simp [encs, nums]
    rw [e, List.length_append]
    exact h
  cases A with
  | some b =>
    obtain ⟨v', w', hrun, r1, r2⟩ := run_append_arg_grows (P := Tryd.prog) w 23 23 3 i0 _ 1 8 Tryd.underlying23 hi hz0 hz1 hz2 rfl (by decide) b l.length l.length (nums .i64 l) (by simp [nums_length]) (C_cells hr) ⟨g, 0, none⟩ 1 1 [.int .i64 j] rfl hn (by omega) (by unfold maxLen; omega) (by omega)
    exact ⟨v', w', hrun, fin v' w' r1, below_gb r2⟩
  | none =>
    obtain rfl := C_none hr
    obtain ⟨v', w', hrun, r1, r2, _⟩ := run_append_own (P := Tryd.prog) w w.heap.size 23 23 3 i0 _ 1 8 Tryd.underlying23 hi hz0 hz1 hz2 rfl (by decide) (.slice none 0 0) 0 [] (World.ownsRow_nil w _ 3 1) ⟨g, 0, none⟩ 1 1 [.int .i64 j] rfl hn one (by unfold maxLen; omega) (by omega) (Nat.le_refl _)
    exact ⟨v', w', hrun, fin v' w' r1, below_gb r2⟩
theorem add_zero (b : Addr) : b.add 0 = b := by unfold Addr.add; simp
theorem run_slice3 (w : World) (A : Option Addr) (n c : Nat) (hc : n ≤ c) :
    (Instr.sliceAt 23 (.slice A n c) none (some (.int .i64 (n : Int))) (some (.int .i64 (n : Int)))).run Tryd.prog w = .ok (.slice A n n) w := by
  have hu : Tryd.prog.underlying 23 = some (.slice (Tryd.prog.elem 23)) := by kernel_rfl
  rw [run_sliceAt_slice w _ _ _ _ _ hu, run_slice_hm w 23 A n c hu .i64 .i64 (n : Int) (n : Int) (by omega) (by omega) (by omega)]
  have hs : (sizeOf (Tryd.prog.elem 23)).run Tryd.prog w = .ok 1 w := by kernel_rfl
  rw [hs]
  simp only [Result.andThen_ok, sliced, Int.toNat_natCast]
  cases A with
  | none => simp
  | some b => simp [add_zero]
theorem ex_slice3 {a : Act} {o : Oper} {x y z : Operand} (ho : o.op = .slice 23 x none (some y) (some z)) (w : World) (A : Option Addr) (n c : Nat) (hx : a.eval x = .slice A n c) (hy : a.eval y = .int .i64 n) (hz : a.eval z = .int .i64 n) (hc : n ≤ c) :
    (execOp a.eval o).run Tryd.prog w = .ok (.value (.slice A n n)) w := by
  unfold execOp
  simp [ho, hx, hy, hz, run_slice3 w A n c hc, Result.andThen]
section
variable {ops : Array Oper} {Q : Exit → Act → World → Prop} {md : Region.Mode} {S : World → Prop}
theorem ex_app1 {a : Act} {o : Oper} {s x : Operand} (ho : o.op = .call { callee := .builtin .append, args := #[s, x], argTypes := #[23, 23] }) (ht : o.type = 23) (w : World) (A : Option Addr) (l : List Int) (g : Nat) (j : Int)
    (hs : a.eval s = .slice A l.length l.length) (hx : a.eval x = .slice (some ⟨g, 0, none⟩) 1 1) (hr : Kd.C (Kd.int .i64) w A l.length l) (hg : w.cell? ⟨g, 0, none⟩ = some (.int .i64 j)) (hl : l.length < 1000000) (hA : A = none → l.length = 0) :
    ∃ v' w', (execOp a.eval o).run Tryd.prog w = .ok (.value v') w' ∧ Kd.R (Kd.int .i64) 3 w' w.heap.size (fun _ => True) v' (l ++ [j]) ∧ Below w.heap.size w w' := by
  obtain ⟨v', w', h1, h2, h3⟩ := run_app1 w A l g j hr hg hl hA
  refine ⟨v', w', ?_, h2, h3⟩
  unfold execOp
  simp [ho, ht, resolve, invoke, builtin, hs, hx, h1, Result.andThen]
theorem r_app1 {i : Nat} (d : Nat) {o : Oper} {fuel : Nat} {listed : Array Bool} {a : Act} {w : World} (hrd : Region.ready md ops listed = [i]) (hi : ops[i]? = some o) (hd : o.dst = some d)
    (hw : Region.wanted o (yielded ops a.tmps) = true) {s x : Operand} (ho : o.op = .call { callee := .builtin .append, args := #[s, x], argTypes := #[23, 23] }) (ht : o.type = 23) (A : Option Addr) (l : List Int) (g : Nat) (j : Int)
    (hs : a.eval s = .slice A l.length l.length) (hx : a.eval x = .slice (some ⟨g, 0, none⟩) 1 1) (hr : Kd.C (Kd.int .i64) w A l.length l) (hg : w.cell? ⟨g, 0, none⟩ = some (.int .i64 j)) (hl : l.length < 1000000) (hA : A = none → l.length = 0)
    (h : ∀ v' w', Kd.R (Kd.int .i64) 3 w' w.heap.size (fun _ => True) v' (l ++ [j]) → Below w.heap.size w w' → S w' ∧ wpAnyH Tryd.prog md ops Q S fuel (listed.setIfInBounds i true) (pt a d v') w') : wpAnyH Tryd.prog md ops Q S (fuel + 1) listed a w := by
  obtain ⟨v', w', h1, h2, h3⟩ := ex_app1 (a := a) ho ht w A l g j hs hx hr hg hl hA
  exact rv d hrd hi hd hw h1 (h v' w' h2 h3).1 (h v' w' h2 h3).2
theorem l_slice3 {rest : List Oper} {o : Oper} {a : Act} {w : World} (hgd : o.guard = none) {x y z : Operand} (ho : o.op = .slice 23 x none (some y) (some z)) (A : Option Addr) (n c : Nat) (hx : a.eval x = .slice A n c) (hy : a.eval y = .int .i64 n) (hz : a.eval z = .int .i64 n) (hc : n ≤ c)
    (h : wpList Tryd.prog ops Q rest (a.put o.dst (.slice A n n)) w) : wpList Tryd.prog ops Q (o :: rest) a w := by
  refine wpList_plain hgd fun K hK => ?_
  unfold Oper.wp
  rw [ex_slice3 ho w A n c hx hy hz hc]
  exact hK _ _ h
theorem l_app1 {rest : List Oper} {o : Oper} {a : Act} {w : World} (hgd : o.guard = none) {s x : Operand} (ho : o.op = .call { callee := .builtin .append, args := #[s, x], argTypes := #[23, 23] }) (ht : o.type = 23) (A : Option Addr) (l : List Int) (g : Nat) (j : Int)
    (hs : a.eval s = .slice A l.length l.length) (hx : a.eval x = .slice (some ⟨g, 0, none⟩) 1 1) (hr : Kd.C (Kd.int .i64) w A l.length l) (hg : w.cell? ⟨g, 0, none⟩ = some (.int .i64 j)) (hl : l.length < 1000000) (hA : A = none → l.length = 0)
    (h : ∀ v' w', Kd.R (Kd.int .i64) 3 w' w.heap.size (fun _ => True) v' (l ++ [j]) → Below w.heap.size w w' → wpList Tryd.prog ops Q rest (a.put o.dst v') w') : wpList Tryd.prog ops Q (o :: rest) a w := by
  obtain ⟨v', w', h1, h2, h3⟩ := ex_app1 (a := a) ho ht w A l g j hs hx hr hg hl hA
  refine wpList_plain hgd fun K hK => ?_
  unfold Oper.wp
  rw [h1]
  exact hK _ _ (h v' w' h2 h3)
end
end Go.Proofs.YtmobefgnkiboaaaDoor.Sh

namespace Go.Proofs.YtmobefgnkiboaaaDoor.Sh
open Go.RowKit Go.Proofs.YtmobefgnkiboaaaDoorW.PrintWords Go.Proofs.YtmobefgnkiboaaaDoorW.PrintLast Go.Proofs.YtmobefgnkiboaaaDoorW.PrintMore
set_option linter.unusedVariables false
attribute [local go_sem] tnA_zero
theorem everybody_fin (n : Nat) (h1 : n ≤ 12) : wrap64 (wrap64 ((2 : Int) ^ n) - 1) = ((2 ^ n - 1 : Nat) : Int) := by
  have h : 2 ^ n ≤ 2 ^ 12 := Nat.pow_le_pow_right (by decide) h1
  have h0 : 0 < 2 ^ n := Nat.two_pow_pos n
  rw [wr_pow n (by omega), show ((2 ^ n : Nat) : Int) - 1 = ((2 ^ n - 1 : Nat) : Int) by omega, wr62' _ (by omega)]
set_option maxHeartbeats 400000 in
theorem everybody_any (n : Nat) (o : List Nat) (w : World) (h1 : n ≤ 12) :
    Calls Tryd.prog 26 #[.agg (tnN n o)] w fun e w' => e = .returned (.int .i64 (2 ^ n - 1 : Nat)) ∧ Below w.heap.size w w' := by
  have hf := Aside0.mk (everybody_fin n h1)
  unfold tnN
  go_enter Tryd.func26, Tryd.ntmps26
  go_wp2
  go_ret
  exact ⟨by rw [← hf.out]; simp, below_alloc (Below.refl _ _) _⟩
def indB (o : List Nat) (s i : Nat) : Bool := !s.testBit i || (o.getD i 0 &&& s == 0)
set_option maxHeartbeats 800000 in
theorem indep1_any (n : Nat) (o : List Nat) (s i : Nat) (g1 g2 : Nat) (w : World) (h1 : i < 12) (ok : Okt n o) (hs62 : s < 2 ^ 62)
    (hs : Blk w g1 3 #[.int .i64 s]) (ht : TnN w g2 n o) :
    Calls Tryd.prog 53 #[.int .i64 i, .pointer (some ⟨g1, 0, none⟩), .pointer (some ⟨g2, 0, none⟩)] w fun e w' => e = .returned (.bool (indB o s i)) ∧ Drawn0 w w' := by
  have c0 : w.cell? ⟨g1, 0, none⟩ = some (.int .i64 s) := by rw [hs.cell 0]; rfl
  have c1 := ht.cellS i (by rw [ok.len]; omega)
  rw [Nat.add_comm] at c1
  have e1 := b_bit0 s i hs62
  have e2 := b_and0 (o.getD i 0) s (ok.lt62 i) hs62
  have er : indB o s i = (!s.testBit i || (o.getD i 0 &&& s == 0)) := rfl
  generalize o.getD i 0 = oi at *
  clear hs ht ok
  have i0 : (0 : Int) ≤ i := by omega
  have i1 : (i : Int) < 12 := by omega
  cases c : s.testBit i
  · have hr : indB o s i = true := by simp [er, c]
    have Hr := Aside0.mk hr; clear hr er
    have cb : (Go.bits .and .i64 ((s : Int) / 2 ^ i) 1 == 0) = true := by rw [e1, c]; rfl
    clear e1 e2 c
    go_enter Tryd.func53, Tryd.ntmps53
    go_wp2
    go_quiet (fail)
    go_wp2
    go_ret
    exact ⟨by rw [Hr.out]; rfl, ⟨_, rfl⟩⟩
  · have hr : indB o s i = (bits .and .i64 oi s == 0) := by rw [er, c, e2]; rfl
    have Hr := Aside0.mk hr; clear hr er
    have cb : (Go.bits .and .i64 ((s : Int) / 2 ^ i) 1 == 0) = false := by rw [e1, c]; rfl
    clear e1 e2 c
    go_enter Tryd.func53, Tryd.ntmps53
    go_wp2
    go_quiet (fail)
    go_wp2
    go_ret
    exact ⟨by rw [Hr.out]; rfl, ⟨_, rfl⟩⟩
def absB (o : List Nat) (s p i : Nat) : Bool := !(p.testBit i && !s.testBit i) || (o.getD i 0 &&& s != 0)
set_option maxHeartbeats 800000 in
theorem absb1_any (n : Nat) (o : List Nat) (s p i : Nat) (g0 g1 g2 : Nat) (w : World) (h1 : i < 12) (ok : Okt n o) (hs62 : s < 2 ^ 62) (hp62 : p < 2 ^ 62)
    (hp : Blk w g0 3 #[.int .i64 p]) (hs : Blk w g1 3 #[.int .i64 s]) (ht : TnN w g2 n o) :
    Calls Tryd.prog 54 #[.int .i64 i, .pointer (some ⟨g0, 0, none⟩), .pointer (some ⟨g1, 0, none⟩), .pointer (some ⟨g2, 0, none⟩)] w fun e w' => e = .returned (.bool (absB o s p i)) ∧ Drawn0 w w' := by
  have cp : w.cell? ⟨g0, 0, none⟩ = some (.int .i64 p) := by rw [hp.cell 0]; rfl
  have c0 : w.cell? ⟨g1, 0, none⟩ = some (.int .i64 s) := by rw [hs.cell 0]; rfl
  have c1 := ht.cellS i (by rw [ok.len]; omega)
  rw [Nat.add_comm] at c1
  have e1 := b_bit0 (andN p s) i (andN_lt p s 62 hp62)
  rw [← b_andN p s hp62 hs62, andN_bit] at e1
  have e2 := b_and0 (o.getD i 0) s (ok.lt62 i) hs62
  have er : absB o s p i = (!(p.testBit i && !s.testBit i) || !(o.getD i 0 &&& s == 0)) := rfl
  generalize o.getD i 0 = oi at *
  clear hs ht ok hp
  have i0 : (0 : Int) ≤ i := by omega
  have i1 : (i : Int) < 12 := by omega
  generalize (p.testBit i && !s.testBit i) = c at *
  cases c
  · have hr : absB o s p i = true := by simp [er]
    have Hr := Aside0.mk hr; clear hr er
    have cb : (Go.bits .and .i64 ((Go.bits .andNot .i64 (p : Int) s) / 2 ^ i) 1 == 0) = true := by rw [e1]; rfl
    clear e1 e2
    go_enter Tryd.func54, Tryd.ntmps54
    go_wp2
    go_quiet (fail)
    go_wp2
    go_ret
    exact ⟨by rw [Hr.out]; rfl, ⟨_, rfl⟩⟩
  · have hr : absB o s p i = (bits .and .i64 oi s != 0) := by rw [er, ← e2]; rfl
    have Hr := Aside0.mk hr; clear hr er
    have cb : (Go.bits .and .i64 ((Go.bits .andNot .i64 (p : Int) s) / 2 ^ i) 1 == 0) = false := by rw [e1]; rfl
    clear e1 e2
    go_enter Tryd.func54, Tryd.ntmps54
    go_wp2
    go_quiet (fail)
    go_wp2
    go_ret
    exact ⟨by rw [Hr.out]; rfl, ⟨_, rfl⟩⟩
structure TestC (w : World) (n : Nat) (f : FuncId) (cap : Array Value) (p : Nat → Bool) : Prop where
  enter : ∀ (args : Array Value) (w : World), (callFunc f args).run Tryd.prog w = .ok (.enter f args) w
  calls : ∀ i, i < n → ∀ w', Below w.heap.size w w' → Calls Tryd.prog f (#[.int .i64 (i : Nat)] ++ cap) w' (fun e w'' => e = .returned (.bool (p i)) ∧ Drawn0 w' w'')
theorem TestC.later {w w1 : World} {n : Nat} {f : FuncId} {cap : Array Value} {p : Nat → Bool} (h : TestC w n f cap p) (hb : Below w.heap.size w w1) : TestC w1 n f cap p :=
  ⟨h.enter, fun i hi w' hw => h.calls i hi w' (below_then hb hb.size hw)⟩
theorem cf86 (args : Array Value) (w : World) : (callFunc 53 args).run Tryd.prog w = .ok (.enter 53 args) w := by kernel_rfl
theorem cf87 (args : Array Value) (w : World) : (callFunc 54 args).run Tryd.prog w = .ok (.enter 54 args) w := by kernel_rfl
def IndepPost (n : Nat) (o : List Nat) (s : Nat) (w : World) (e : Ending) (w' : World) : Prop :=
  ∃ cap, e = .returned (.func (.func 53) #[] cap) ∧ TestC w' n 53 cap (indB o s) ∧ Below w.heap.size w w'
set_option maxHeartbeats 800000 in
theorem indep_any (n : Nat) (o : List Nat) (s : Nat) (w : World) (ok : Okt n o) (hs62 : s < 2 ^ 62) :
    Calls Tryd.prog 43 #[.agg (tnN n o), .int .i64 s] w (IndepPost n o s w) := by
  have hmf : ∀ (fn : Fn) (first cap : Array Value) (w : World), (Instr.makeFunc fn first cap).run Tryd.prog w = .ok (.func fn first cap) w := fun _ _ _ _ => rfl
  have k : ∀ w', Below w.heap.size w w' → True := fun _ _ => trivial
  have hfin : ∀ (g1 g2 : Nat) (w1 : World), Blk w1 g1 3 #[.int .i64 s] → TnN w1 g2 n o → TestC w1 n 53 #[.pointer (some ⟨g1, 0, none⟩), .pointer (some ⟨g2, 0, none⟩)] (indB o s) :=
    fun g1 g2 w1 hb ht => ⟨cf86, fun i hi w' hw => indep1_any n o s i g1 g2 w' (by have := ok.n12; omega) ok hs62 (hb.later hw) (Blk.later ht hw)⟩
  have Hf := Aside0.mk hfin
  clear hfin k
  unfold tnN
  go_enter Tryd.func43, Tryd.ntmps43
  go_wp2
  go_ret
  refine ⟨_, rfl, Hf.out (w.heap.size + 1) w.heap.size _ ?_ ?_, below_alloc (below_alloc (Below.refl _ _) _) _⟩
  · have := Blk.new (w.alloc (.cells (tnA n (ints o)) 47)) 3 #[.int .i64 s]
    simpa using this
  · exact (Blk.new w 47 (tnA n (ints o))).alloc _
def AbsbPost (n : Nat) (o : List Nat) (s p : Nat) (w : World) (e : Ending) (w' : World) : Prop :=
  ∃ cap, e = .returned (.func (.func 54) #[] cap) ∧ TestC w' n 54 cap (absB o s p) ∧ Below w.heap.size w w'
set_option maxHeartbeats 800000 in
theorem absb_any (n : Nat) (o : List Nat) (s p : Nat) (w : World) (ok : Okt n o) (hs62 : s < 2 ^ 62) (hp62 : p < 2 ^ 62) :
    Calls Tryd.prog 44 #[.agg (tnN n o), .int .i64 s, .int .i64 p] w (AbsbPost n o s p w) := by
  have hmf : ∀ (fn : Fn) (first cap : Array Value) (w : World), (Instr.makeFunc fn first cap).run Tryd.prog w = .ok (.func fn first cap) w := fun _ _ _ _ => rfl
  have hfin : ∀ (g0 g1 g2 : Nat) (w1 : World), Blk w1 g0 3 #[.int .i64 p] → Blk w1 g1 3 #[.int .i64 s] → TnN w1 g2 n o → TestC w1 n 54 #[.pointer (some ⟨g0, 0, none⟩), .pointer (some ⟨g1, 0, none⟩), .pointer (some ⟨g2, 0, none⟩)] (absB o s p) :=
    fun g0 g1 g2 w1 ha hb ht => ⟨cf87, fun i hi w' hw => absb1_any n o s p i g0 g1 g2 w' (by have := ok.n12; omega) ok hs62 hp62 (ha.later hw) (hb.later hw) (Blk.later ht hw)⟩
  have Hf := Aside0.mk hfin
  clear hfin
  unfold tnN
  go_enter Tryd.func44, Tryd.ntmps44
  go_wp2
  go_ret
  refine ⟨_, rfl, Hf.out (w.heap.size + 1 + 1) (w.heap.size + 1) w.heap.size _ ?_ ?_ ?_, below_alloc (below_alloc (below_alloc (Below.refl _ _) _) _) _⟩
  · have := Blk.new ((w.alloc (.cells (tnA n (ints o)) 47)).alloc (.cells #[.int .i64 s] 3)) 3 #[.int .i64 p]
    simpa using this
  · have := (Blk.new (w.alloc (.cells (tnA n (ints o)) 47)) 3 #[.int .i64 s]).alloc (.cells #[.int .i64 p] 3)
    simpa using this
  · exact ((Blk.new w 47 (tnA n (ints o))).alloc _).alloc _
end Go.Proofs.YtmobefgnkiboaaaDoor.Sh
namespace Go.Proofs.YtmobefgnkiboaaaDoor.Sh
open Go.RowKit Go.Proofs.YtmobefgnkiboaaaDoorW.PrintWords Go.Proofs.YtmobefgnkiboaaaDoorW.PrintLast Go.Proofs.YtmobefgnkiboaaaDoorW.PrintMore
set_option linter.unusedVariables false
attribute [local go_sem] tnA_zero
def AllB (n : Nat) (p q : Nat → Bool) : Bool := (List.range n).all fun i => p i && q i
def Upto (k : Nat) (p q : Nat → Bool) : Prop := ∀ j, j < k → (p j && q j) = true
theorem Upto.succ {k : Nat} {p q : Nat → Bool} (h : Upto k p q) (h1 : p k = true) (h2 : q k = true) : Upto (k + 1) p q := fun j hj => by
  rcases Nat.lt_or_ge j k with hlt | hge
  · exact h j hlt
  · obtain rfl : j = k := by omega
    rw [h1, h2]; rfl
theorem AllB_true {n : Nat} {p q : Nat → Bool} (h : Upto n p q) : AllB n p q = true := by
  unfold AllB
  rw [List.all_eq_true]
  exact fun x hx => h x (List.mem_range.1 hx)
theorem AllB_false {n k : Nat} {p q : Nat → Bool} (hk : k < n) (h : (p k && q k) = false) : AllB n p q = false := by
  unfold AllB
  rw [List.all_eq_false]
  exact ⟨k, List.mem_range.2 hk, by rw [h]; simp⟩
set_option maxHeartbeats 1600000 in
set_option maxRecDepth 100000 in
theorem all_any (n : Nat) (o : List Nat) (f0 f1 : FuncId) (d0 d1 : Array Value) (p q : Nat → Bool) (b : Nat) (w : World) (ok : Okt n o)
    (hb0 : w.cell? ⟨b, 0, none⟩ = some (.func (.func f0) #[] d0)) (hb1 : w.cell? ⟨b, 1, none⟩ = some (.func (.func f1) #[] d1))
    (T0 : TestC w n f0 d0 p) (T1 : TestC w n f1 d1 q) :
    Calls Tryd.prog 42 #[.agg (tnN n o), .slice (some ⟨b, 0, none⟩) 2 2] w fun e w' => e = .returned (.bool (AllB n p q)) ∧ Below w.heap.size w w' := by
  have hlt := World.block_lt_of_cell? w _ hb0
  have n12 := ok.n12
  clear ok
  unfold tnN
  have H0 := Aside0.mk hb0
  have H1 := Aside0.mk hb1
  clear hb0 hb1
  go_enter Tryd.func42, Tryd.ntmps42
  go_wp2_with fail
  go_loopw [10] (fun v wr => ∃ k : Nat, k ≤ n ∧ v = .int .i64 (k : Int) ∧ Aside0 (Upto k p q) ∧ Aside0 (Below w.heap.size w wr)) (fun v _ => n - (intOf v).toNat)
  case atStart => exact ⟨0, Nat.zero_le _, rfl, ⟨fun j hj => absurd hj (by omega)⟩, ⟨below_alloc (Below.refl _ _) _⟩⟩
  case round =>
    obtain ⟨k, hk, rfl, HU, HB⟩ := hrel
    by_cases hkn : k < n
    · have r0 := (HB.out.cell (p := ⟨b, 0, none⟩) hlt).trans H0.out
      have r1 := (HB.out.cell (p := ⟨b, 1, none⟩) hlt).trans H1.out
      have E0 := T0.enter
      have E1 := T1.enter
      have C0 := T0.calls k hkn
      have C1 := T1.calls k hkn
      have HC0 := Aside0.mk C0
      have HC1 := Aside0.mk C1
      clear C0 C1 T0 T1
      cases hp : p k
      · have HF := Aside0.mk (AllB_false (p := p) (q := q) hkn (by rw [hp]; rfl))
        rw [hp] at HC0
        clear hp
        go_wp2_with fail
        refine wp_loop_rounds 3 ?_
        rw [rounds_succ]
        go_wp2_with fail
        refine (HC0.out _ HB.out).mono ?_
        rintro e w1 ⟨rfl, hd⟩
        go_wp2_with fail
        go_ret
        exact ⟨by rw [HF.out]; rfl, below_then HB.out HB.out.size hd.below⟩
      · cases hq : q k
        · have HF := Aside0.mk (AllB_false (p := p) (q := q) hkn (by rw [hp, hq]; rfl))
          rw [hp] at HC0
          rw [hq] at HC1
          clear hp hq
          go_wp2_with fail
          refine wp_loop_rounds 3 ?_
          rw [rounds_succ]
          go_wp2_with fail
          refine (HC0.out _ HB.out).mono ?_
          rintro e w1 ⟨rfl, ⟨n1, rfl⟩⟩
          go_wp2_with fail
          rw [rounds_succ]
          go_wp2_with fail
          refine (HC1.out _ (pw_below_drewN HB.out _)).mono ?_
          rintro e w2 ⟨rfl, hd⟩
          go_wp2_with fail
          go_ret
          exact ⟨by rw [HF.out]; rfl, below_then (pw_below_drewN HB.out _) HB.out.size hd.below⟩
        · have HU' := Aside0.mk (HU.out.succ hp hq)
          rw [hp] at HC0
          rw [hq] at HC1
          clear hp hq
          go_wp2_with fail
          refine wp_loop_rounds 3 ?_
          rw [rounds_succ]
          go_wp2_with fail
          refine (HC0.out _ HB.out).mono ?_
          rintro e w1 ⟨rfl, ⟨n1, rfl⟩⟩
          go_wp2_with fail
          rw [rounds_succ]
          go_wp2_with fail
          refine (HC1.out _ (pw_below_drewN HB.out _)).mono ?_
          rintro e w2 ⟨rfl, ⟨n2, rfl⟩⟩
          go_wp2_with fail
          rw [rounds_succ]
          go_wp2_with fail
          go_roundw
          case rel => exact ⟨k + 1, by omega, by go_num, HU', ⟨pw_below_drewN HB.out _⟩⟩
          case measure => simp [intOf]; omega
    · obtain rfl : k = n := by omega
      have HF := Aside0.mk (AllB_true HU.out)
      go_wp2_with fail
      go_ret
      exact ⟨by rw [HF.out]; rfl, HB.out⟩
end Go.Proofs.YtmobefgnkiboaaaDoor.Sh
namespace Go.Proofs.YtmobefgnkiboaaaDoor.Sh
open Go.RowKit Go.Proofs.YtmobefgnkiboaaaDoorW.PrintWords Go.Proofs.YtmobefgnkiboaaaDoorW.PrintLast Go.Proofs.YtmobefgnkiboaaaDoorW.PrintMore
set_option linter.unusedVariables false
set_option maxHeartbeats 1600000 in
set_option maxRecDepth 100000 in
theorem kernel_any (n : Nat) (o : List Nat) (s p : Nat) (w : World) (ok : Okt n o) (hs62 : s < 2 ^ 62) (hp62 : p < 2 ^ 62) :
    Calls Tryd.prog 27 #[.agg (tnN n o), .int .i64 s, .int .i64 p] w fun e w' => e = .returned (.bool (AllB n (indB o s) (absB o s p))) ∧ Below w.heap.size w w' := by
  have hnew : TnN (w.alloc (.cells (tnN n o) 47)).drew w.heap.size n o := Blk.new _ _ _
  have hb0 : Below w.heap.size w (w.alloc (.cells (tnN n o) 47)).drew := below_drew (below_alloc (Below.refl _ _) _)
  go_enter Tryd.func27, Tryd.ntmps27
  go_wp2
  refine wp_region_held (S := fun wx => TnN wx w.heap.size n o ∧ Below w.heap.size w wx) (by kernel_rfl) ?_
  refine wpAnyH_take (i := 0) (v := .agg (tnN n o)) rfl (by kernel_rfl) (by kernel_rfl) (by kernel_rfl) (fun _ _ _ h => h) (yi_at rfl fun wx h => ex_load_tn rfl wx w.heap.size n o rfl h.1 ok.len) ⟨hnew, hb0⟩ ?_
  refine wpAnyH_take (i := 1) (v := .agg (tnN n o)) rfl (by kernel_rfl) (by kernel_rfl) (by kernel_rfl) (fun _ _ _ h => h) (yi_at rfl fun wx h => ex_load_tn rfl wx w.heap.size n o rfl h.1 ok.len) ⟨hnew, hb0⟩ ?_
  refine wpAnyH_take (i := 2) (v := .int .i64 s) rfl (by kernel_rfl) (by kernel_rfl) (by kernel_rfl) (fun _ _ _ h => h) (yi_any rfl fun wx => rfl) ⟨hnew, hb0⟩ ?_
  refine wpAnyH_take (i := 4) (v := .agg (tnN n o)) rfl (by kernel_rfl) (by kernel_rfl) (by kernel_rfl) (fun _ _ _ h => h) (yi_at rfl fun wx h => ex_load_tn rfl wx w.heap.size n o rfl h.1 ok.len) ⟨hnew, hb0⟩ ?_
  refine wpAnyH_take (i := 5) (v := .int .i64 s) rfl (by kernel_rfl) (by kernel_rfl) (by kernel_rfl) (fun _ _ _ h => h) (yi_any rfl fun wx => rfl) ⟨hnew, hb0⟩ ?_
  refine wpAnyH_take (i := 6) (v := .int .i64 p) rfl (by kernel_rfl) (by kernel_rfl) (by kernel_rfl) (fun _ _ _ h => h) (yi_any rfl fun wx => rfl) ⟨hnew, hb0⟩ ?_
  refine ro_one (i := 3) (by kernel_rfl) (ro_call (f := 43) (args := #[.agg (tnN n o), .int .i64 s]) rfl rfl (by kernel_rfl) ?_)
  refine (indep_any n o s _ ok hs62).mono ?_
  rintro e w1 ⟨cap1, rfl, T1, hb1⟩
  refine ⟨_, rfl, ⟨Blk.later hnew hb1, below_then hb0 hb0.size hb1⟩, ?_⟩
  refine ro_one (i := 7) (by kernel_rfl) (ro_call (f := 44) (args := #[.agg (tnN n o), .int .i64 s, .int .i64 p]) rfl rfl (by kernel_rfl) ?_)
  refine (absb_any n o s p _ ok hs62 hp62).mono ?_
  rintro e w2 ⟨cap2, rfl, T2, hb2⟩
  have hb12 := below_then hb0 hb0.size hb1
  have hb02 := below_then hb12 hb12.size hb2
  refine ⟨_, rfl, ⟨Blk.later (Blk.later hnew hb1) hb2, hb02⟩, ?_⟩
  refine ro_one (i := 8) (by kernel_rfl) (ro_val (v := .slice (some ⟨w2.heap.size, 0, none⟩) 2 2) (w' := w2.alloc (.cells #[.func (.func 53) #[] cap1, .func (.func 54) #[] cap2] 66)) rfl rfl (by kernel_rfl) ?_)
  have hb3 : Below w2.heap.size w2 (w2.alloc (.cells #[.func (.func 53) #[] cap1, .func (.func 54) #[] cap2] 66)) := below_alloc (Below.refl _ _) _
  have hB := Blk.new w2 66 #[.func (.func 53) #[] cap1, .func (.func 54) #[] cap2]
  have hb03 := below_then hb02 hb02.size hb3
  refine ⟨⟨Blk.later (Blk.later (Blk.later hnew hb1) hb2) hb3, hb03⟩, ?_⟩
  refine ro_one (i := 9) (by kernel_rfl) (ro_call (f := 42) (args := #[.agg (tnN n o), .slice (some ⟨w2.heap.size, 0, none⟩) 2 2]) rfl rfl (by kernel_rfl) ?_)
  refine (all_any n o 53 54 cap1 cap2 _ _ _ _ ok (by rw [hB.cell]; rfl) (by rw [hB.cell]; rfl) ((T1.later hb2).later hb3) (T2.later hb3)).mono ?_
  rintro e w4 ⟨rfl, hb4⟩
  refine ⟨_, rfl, ⟨Blk.later (Blk.later (Blk.later (Blk.later hnew hb1) hb2) hb3) hb4, below_then hb03 hb03.size hb4⟩, ?_⟩
  refine ro_one (i := 10) (by kernel_rfl) (ro_val (v := .bool (AllB n (indB o s) (absB o s p))) (w' := w4) rfl rfl (by kernel_rfl) ?_)
  refine ⟨⟨Blk.later (Blk.later (Blk.later (Blk.later hnew hb1) hb2) hb3) hb4, below_then hb03 hb03.size hb4⟩, ?_⟩
  refine wpAnyH_done (by kernel_rfl) ?_ _
  go_wp2
  go_ret
  exact ⟨rfl, below_then hb03 hb03.size hb4⟩
end Go.Proofs.YtmobefgnkiboaaaDoor.Sh
namespace Go.Proofs.YtmobefgnkiboaaaDoor.Sh
open Go.RowKit Go.Proofs.YtmobefgnkiboaaaDoorW.PrintWords Go.Proofs.YtmobefgnkiboaaaDoorW.PrintLast Go.Proofs.YtmobefgnkiboaaaDoorW.PrintMore
set_option linter.unusedVariables false
structure EachB (w : World) (row : Option Nat) (gp gv go p : Nat) (f : FuncId) (cap : Array Value) : Prop where
  bp : Blk w gp 3 #[.int .i64 (p : Nat)]
  bv : Blk w gv 66 #[.func (.func f) #[] cap]
  bo : Blk w go 60 #[.func (.func 62) #[] #[.pointer (some ⟨gv, 0, none⟩), .pointer (some ⟨gp, 0, none⟩), .pointer (some ⟨go, 0, none⟩)]]
  np : some gp ≠ row
  nv : some gv ≠ row
  no : some go ≠ row
theorem EachB.gb {w w' : World} {row : Option Nat} {gp gv go p : Nat} {f : FuncId} {cap : Array Value} (h : EachB w row gp gv go p f cap) (hg : w.grownBy w' row) : EachB w' row gp gv go p f cap :=
  ⟨h.bp.gb hg h.np, h.bv.gb hg h.nv, h.bo.gb hg h.no, h.np, h.nv, h.no⟩
def EachPost {σ : Type} (I : σ → World → Prop) (row : Option Nat) (w : World) (r : Bool × σ) (e : Ending) (w' : World) : Prop :=
  e = .returned (.bool r.1) ∧ I r.2 w' ∧ w.grownBy w' row
set_option maxHeartbeats 3200000 in
set_option maxRecDepth 100000 in
theorem each1_any {σ : Type} {I : σ → World → Prop} {row : Option Nat} {f : FuncId} {cap : Array Value} {vis : σ → Nat → Bool × σ} (V : Visit I row f cap vis) (p gp gv go : Nat) (hp : p < 4096) (k : Nat) :
    ∀ (i s : Nat) (st : σ) (w : World), 12 - i < k → i ≤ 12 → s < 4096 → I st w → EachB w row gp gv go p f cap →
    Calls Tryd.prog 62 #[.int .i64 s, .int .i64 i, .pointer (some ⟨gv, 0, none⟩), .pointer (some ⟨gp, 0, none⟩), .pointer (some ⟨go, 0, none⟩)] w
      (EachPost I row w (onL vis (mem12 p i) s st)) := by
  induction k with
  | zero => intro i s st w h; omega
  | succ k ih =>
    intro i s st w hk hi hs hI hE
    have HI := Aside0.mk hI
    have HE := Aside0.mk hE
    have IH := Aside0.mk ih
    have hcv : w.cell? ⟨gv, 0, none⟩ = some (.func (.func f) #[] cap) := by rw [hE.bv.cell]; rfl
    have E0 := V.enter
    have C0 := Aside0.mk (V.calls st s w hs hI)
    have KP := Aside0.mk V.keep
    clear hI hE ih V
    obtain ⟨b1, st1, hr⟩ : ∃ b1 st1, vis st s = (b1, st1) := ⟨_, _, rfl⟩
    rw [hr] at C0
    have hon : onL vis (mem12 p i) s st = if b1 then (true, st1) else lpL vis (mem12 p i) s st1 := by simp [onL, hr]
    rw [hon]
    clear hr hon
    cases b1
    · rw [if_neg (by simp)]
      go_enter Tryd.func62, Tryd.ntmps62
      go_wp2_with fail
      refine C0.out.mono ?_
      rintro e w1 ⟨rfl, hI1, hg1⟩
      have HI1 := Aside0.mk hI1
      have HE1 := Aside0.mk (HE.out.gb hg1)
      have HG1 := Aside0.mk hg1
      clear hI1 hg1 hcv
      go_wp2_with fail
      go_loopw [8] (fun v wr => ∃ j : Nat, j ≤ 12 ∧ v = .int .i64 (j : Int) ∧ Aside0 (∃ st', lpL vis (mem12 p i) s st1 = lpL vis (mem12 p j) s st' ∧ I st' wr) ∧ Aside0 (w.grownBy wr row) ∧ Aside0 (i ≤ j) ∧ Aside0 (EachB wr row gp gv go p f cap)) (fun v _ => 12 - (intOf v).toNat)
      case atStart => exact ⟨i, hi, rfl, ⟨st1, rfl, HI1.out⟩, HG1, ⟨Nat.le_refl _⟩, HE1⟩
      case round =>
        clear HE1 HI1 HG1
        obtain ⟨j, hj, rfl, HL, HG, HJ, HE⟩ := hrel
        have cp : wr.cell? ⟨gp, 0, none⟩ = some (.int .i64 (p : Nat)) := by rw [HE.out.bp.cell]; rfl
        have co : wr.cell? ⟨go, 0, none⟩ = some (.func (.func 62) #[] #[.pointer (some ⟨gv, 0, none⟩), .pointer (some ⟨gp, 0, none⟩), .pointer (some ⟨go, 0, none⟩)]) := by rw [HE.out.bo.cell]; rfl
        have j0 : (0 : Int) ≤ j := by omega
        by_cases hz : p >>> j = 0
        · have c1 : ¬ (0 < (p : Int) / 2 ^ j) := by rw [shr_nat, hz]; simp
          obtain ⟨st', hl, hI'⟩ := HL.out
          rw [mem12_none p j hz] at hl
          have HF := Aside0.mk hl
          have HI' := Aside0.mk hI'
          clear hl hI' HL hz
          go_wp2_with fail
          go_ret
          refine ⟨by rw [HF.out]; rfl, by rw [HF.out]; exact HI'.out, HG.out⟩
        · have c1 : 0 < (p : Int) / 2 ^ j := by rw [shr_nat]; exact_mod_cast Nat.pos_of_ne_zero hz
          have hj12 : j < 12 := shr12 p j hp hz
          have hst := mem12_step p j hj12
          have e1 := b_bit1 p j (by omega)
          clear hz
          cases hb : p.testBit j
          · rw [hb, if_neg (by simp)] at hst
            rw [hb] at e1
            have HS := Aside0.mk hst
            clear hst hb
            go_wp2_with fail
            go_quiet (fail)
            go_wp2_with fail
            go_roundw
            case rel =>
              obtain ⟨st', hl, hI'⟩ := HL.out
              exact ⟨j + 1, by omega, by go_num, ⟨st', by rw [hl, HS.out], KP.out _ _ _ hI' (gb_drewN _ _ _)⟩, ⟨gb_trans HG.out (gb_drewN _ _ _)⟩, ⟨by have := HJ.out; omega⟩, ⟨HE.out.gb (gb_drewN _ _ _)⟩⟩
            case measure => simp [intOf]; omega
          · rw [hb, if_pos rfl] at hst
            rw [hb] at e1
            have HS := Aside0.mk hst
            clear hst hb
            obtain ⟨st', hl, hI'⟩ := HL.out
            clear HL
            obtain ⟨b2, st2, hr2⟩ : ∃ b2 st2, onL vis (mem12 p (j + 1)) (s ||| 2 ^ j) st' = (b2, st2) := ⟨_, _, rfl⟩
            have C1 := IH.out (j + 1) (s ||| 2 ^ j) st' wr.drew (by have := HJ.out; omega) (by omega) (or_lt12 s j hs hj12) (KP.out _ _ _ hI' (gb_drew _ _)) (HE.out.gb (gb_drew _ _))
            rw [hr2] at C1
            have ea : ((s ||| 2 ^ j : Nat) : Int) = bits .or .i64 (s : Int) (IntKind.i64.wrap (2 ^ j)) := by
              have h2 : 2 ^ j < 2 ^ 62 := Nat.pow_lt_pow_right (by decide) (by omega)
              rw [← b_or s (2 ^ j) (by omega) h2, two_pow_nat, wr62 _ (Int.natCast_nonneg _) (by exact_mod_cast h2)]
            have eb : ((j + 1 : Nat) : Int) = IntKind.i64.wrap ((j : Int) + 1) := by rw [wr62 _ (by omega) (by omega)]; omega
            rw [ea, eb] at C1
            have HC1 := Aside0.mk C1
            rw [HS.out, lpL_cons, hr2] at hl
            clear C1 ea eb hr2 hI' HS
            cases b2
            · rw [if_neg (by simp)] at hl
              have HF := Aside0.mk hl
              clear hl
              go_wp2_with fail
              go_region_held3 (fun w' => w'.cell? ⟨gp, 0, none⟩ = some (.int .i64 (p : Nat)) ∧ w'.cell? ⟨go, 0, none⟩ = some (.func (.func 62) #[] #[.pointer (some ⟨gv, 0, none⟩), .pointer (some ⟨gp, 0, none⟩), .pointer (some ⟨go, 0, none⟩)])) (first | go_keep)
                (first | (go_at_call 62; refine HC1.out.mono ?_; rintro e w2 ⟨rfl, hI2, hg2⟩; have HI2 := Aside0.mk hI2; have HG2 := Aside0.mk (gb_trans HG.out (gb_trans (gb_drew _ _) hg2)); have HE2 := Aside0.mk ((HE.out.gb (gb_drew _ _)).gb hg2); clear hI2 hg2; have cp2 : w2.cell? ⟨gp, 0, none⟩ = some (.int .i64 (p : Nat)) := HE2.out.bp.cell 0; have co2 : w2.cell? ⟨go, 0, none⟩ = some (.func (.func 62) #[] #[.pointer (some ⟨gv, 0, none⟩), .pointer (some ⟨gp, 0, none⟩), .pointer (some ⟨go, 0, none⟩)]) := HE2.out.bo.cell 0))
              go_wp2_with fail
              go_roundw
              case rel => exact ⟨j + 1, by omega, by go_num, ⟨st2, HF.out, HI2.out⟩, HG2, ⟨by have := HJ.out; omega⟩, HE2⟩
              case measure => simp [intOf]; omega
            · rw [if_pos rfl] at hl
              have HF := Aside0.mk hl
              clear hl
              go_wp2_with fail
              go_region_held3 (fun w' => w'.cell? ⟨gp, 0, none⟩ = some (.int .i64 (p : Nat)) ∧ w'.cell? ⟨go, 0, none⟩ = some (.func (.func 62) #[] #[.pointer (some ⟨gv, 0, none⟩), .pointer (some ⟨gp, 0, none⟩), .pointer (some ⟨go, 0, none⟩)])) (first | go_keep)
                (first | (go_at_call 62; refine HC1.out.mono ?_; rintro e w2 ⟨rfl, hI2, hg2⟩; have HI2 := Aside0.mk hI2; have HG2 := Aside0.mk (gb_trans HG.out (gb_trans (gb_drew _ _) hg2)); have HE2 := Aside0.mk ((HE.out.gb (gb_drew _ _)).gb hg2); clear hI2 hg2; have cp2 : w2.cell? ⟨gp, 0, none⟩ = some (.int .i64 (p : Nat)) := HE2.out.bp.cell 0; have co2 : w2.cell? ⟨go, 0, none⟩ = some (.func (.func 62) #[] #[.pointer (some ⟨gv, 0, none⟩), .pointer (some ⟨gp, 0, none⟩), .pointer (some ⟨go, 0, none⟩)]) := HE2.out.bo.cell 0))
              go_wp2_with fail
              go_ret
              exact ⟨by rw [HF.out]; rfl, by rw [HF.out]; exact HI2.out, HG2.out⟩
    · rw [if_pos rfl]
      go_enter Tryd.func62, Tryd.ntmps62
      go_wp2_with fail
      refine C0.out.mono ?_
      rintro e w1 ⟨rfl, hI1, hg1⟩
      have HI1 := Aside0.mk hI1
      have HG1 := Aside0.mk hg1
      clear hI1 hg1 hcv
      go_wp2_with fail
      go_ret
      exact ⟨rfl, HI1.out, HG1.out⟩
set_option maxHeartbeats 1600000 in
theorem each_any {σ : Type} {I : σ → World → Prop} {row : Option Nat} {f : FuncId} {cap : Array Value} {vis : σ → Nat → Bool × σ} (V : Visit I row f cap vis) (p : Nat) (hp : p < 4096)
    (st : σ) (w : World) (hI : I st w) (hrow : ∀ g, row = some g → g < w.heap.size) :
    Calls Tryd.prog 46 #[.int .i64 p, .func (.func f) #[] cap] w (EachPost I row w (onL vis (mem12 p 0) 0 st)) := by
  have hmf : ∀ (fn : Fn) (first cap : Array Value) (w : World), (Instr.makeFunc fn first cap).run Tryd.prog w = .ok (.func fn first cap) w := fun _ _ _ _ => rfl
  have hsf := fun (a : Addr) (c : Array Value) (w : World) => run_store Tryd.prog w a (.func (.func 62) #[] c) .plain rfl
  have hp1 : Below w.heap.size w (((w.alloc (Obj.cells #[Value.int IntKind.i64 (p : Nat)] 3)).alloc (Obj.cells #[Value.func (Fn.func f) #[] cap] 66)).alloc (Obj.cells #[Value.func (Fn.func 62) #[] #[Value.pointer (some { block := w.heap.size + 1, off := 0 }), Value.pointer (some { block := w.heap.size, off := 0 }), Value.pointer (some { block := w.heap.size + 1 + 1, off := 0 })]] 60)) :=
    below_alloc (below_alloc (below_alloc (Below.refl _ _) _) _) _
  have HP := Aside0.mk hp1
  have C := each1_any V p w.heap.size (w.heap.size + 1) (w.heap.size + 1 + 1) hp 13 0 0 st _ (by omega) (by omega) (by decide) (V.keep _ _ _ hI (gb_below hp1))
    ⟨((Blk.new w 3 #[.int .i64 (p : Nat)]).alloc _).alloc _, (Blk.new' (by simp)).alloc _, Blk.new' (by simp), fun h => by have := hrow _ h.symm; omega, fun h => by have := hrow _ h.symm; omega, fun h => by have := hrow _ h.symm; omega⟩
  have HC := Aside0.mk C
  clear hp1 C hrow hI V
  generalize onL vis (mem12 p 0) 0 st = r at *
  go_enter Tryd.func46, Tryd.ntmps46
  go_wp2_with fail
  refine HC.out.mono ?_
  rintro e w1 ⟨rfl, hI1, hg1⟩
  have HI1 := Aside0.mk hI1
  have HG1 := Aside0.mk (gb_trans (gb_below HP.out) hg1)
  clear hI1 hg1
  go_wp2_with fail
  go_ret
  exact ⟨rfl, HI1.out, HG1.out⟩
end Go.Proofs.YtmobefgnkiboaaaDoor.Sh

