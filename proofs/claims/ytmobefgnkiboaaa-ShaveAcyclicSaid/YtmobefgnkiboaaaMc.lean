/- The tests of a town: who is independent, who is absorbed; all people. All tests of all people; the kernel. The kernel. Each set of some people. -/
import Derived.Test.YtmobefgnkiboaaaMa
import Derived.Outline
import Derived.Test.YtmobefgnkiboaaaMb
namespace Go.Proofs.Ytmobefgnkiboaaa.Im
open Go.RowKit Go.Proofs.YtmobefgnkiboaaaW.PrintWords Go.Proofs.YtmobefgnkiboaaaW.PrintLast Go.Proofs.YtmobefgnkiboaaaW.PrintMore
set_option linter.unusedVariables false
attribute [local go_sem] tnA_zero

theorem everybody_fin (n : Nat) (h1 : n ≤ 12) : wrap64 (wrap64 ((2 : Int) ^ n) - 1) = ((2 ^ n - 1 : Nat) : Int) := by
  have h : 2 ^ n ≤ 2 ^ 12 := Nat.pow_le_pow_right (by decide) h1
  have h0 : 0 < 2 ^ n := Nat.two_pow_pos n
  rw [wr_pow n (by omega), show ((2 ^ n : Nat) : Int) - 1 = ((2 ^ n - 1 : Nat) : Int) by omega, wr62' _ (by omega)]

set_option maxHeartbeats 400000 in
theorem everybody_any (n : Nat) (o : List Nat) (w : World) (h1 : n ≤ 12) :
    Calls Try.prog 57 #[.agg (tnN n o)] w fun e w' => e = .returned (.int .i64 (2 ^ n - 1 : Nat)) ∧ Below w.heap.size w w' := by
  have hf := Aside0.mk (everybody_fin n h1)
  unfold tnN
  go_enter Try.func57, Try.ntmps57
  go_wp2
  go_ret
  exact ⟨by rw [← hf.out]; simp, below_alloc (Below.refl _ _) _⟩

def indB (o : List Nat) (s i : Nat) : Bool := !s.testBit i || (o.getD i 0 &&& s == 0)
set_option maxHeartbeats 800000 in
theorem indep1_any (n : Nat) (o : List Nat) (s i : Nat) (g1 g2 : Nat) (w : World) (h1 : i < 12) (ok : Okt n o) (hs62 : s < 2 ^ 62)
    (hs : Blk w g1 3 #[.int .i64 s]) (ht : TnN w g2 n o) :
    Calls Try.prog 86 #[.int .i64 i, .pointer (some ⟨g1, 0, none⟩), .pointer (some ⟨g2, 0, none⟩)] w fun e w' => e = .returned (.bool (indB o s i)) ∧ Drawn0 w w' := by
  have c0 : w.cell? ⟨g1, 0, none⟩ = some (.int .i64 s) := by rw [hs.cell 0]; rfl
  have c1 := ht.cellS i (by rw [ok.len]; omega)
  rw [Nat.add_comm] at c1
  have e1 := b_bit0 s i hs62
  have e2 := b_and0 (o.getD i 0) s (ok.lt62 i) hs62
  have er : indB o s i = (!s.testBit i || (o.getD i 0 &&& s == 0)) := rfl
  generalize o.getD i 0 = oi at *
  clear hs ht ok
  have i0 : (0 : Int) ≤ i := by omega
  have i1 : (i : Int) < 12 := by omega
  cases c : s.testBit i
  · have hr : indB o s i = true := by simp [er, c]
    have Hr := Aside0.mk hr; clear hr er
    have cb : (Go.bits .and .i64 ((s : Int) / 2 ^ i) 1 == 0) = true := by rw [e1, c]; rfl
    clear e1 e2 c
    go_enter Try.func86, Try.ntmps86
    go_wp2
    go_quiet (fail)
    go_wp2
    go_ret
    exact ⟨by rw [Hr.out]; rfl, ⟨_, rfl⟩⟩
  · have hr : indB o s i = (bits .and .i64 oi s == 0) := by rw [er, c, e2]; rfl
    have Hr := Aside0.mk hr; clear hr er
    have cb : (Go.bits .and .i64 ((s : Int) / 2 ^ i) 1 == 0) = false := by rw [e1, c]; rfl
    clear e1 e2 c
    go_enter Try.func86, Try.ntmps86
    go_wp2
    go_quiet (fail)
    go_wp2
    go_ret
    exact ⟨by rw [Hr.out]; rfl, ⟨_, rfl⟩⟩

def absB (o : List Nat) (s p i : Nat) : Bool := !(p.testBit i && !s.testBit i) || (o.getD i 0 &&& s != 0)
set_option maxHeartbeats 800000 in
theorem absb1_any (n : Nat) (o : List Nat) (s p i : Nat) (g0 g1 g2 : Nat) (w : World) (h1 : i < 12) (ok : Okt n o) (hs62 : s < 2 ^ 62) (hp62 : p < 2 ^ 62)
    (hp : Blk w g0 3 #[.int .i64 p]) (hs : Blk w g1 3 #[.int .i64 s]) (ht : TnN w g2 n o) :
    Calls Try.prog 87 #[.int .i64 i, .pointer (some ⟨g0, 0, none⟩), .pointer (some ⟨g1, 0, none⟩), .pointer (some ⟨g2, 0, none⟩)] w fun e w' => e = .returned (.bool (absB o s p i)) ∧ Drawn0 w w' := by
  have cp : w.cell? ⟨g0, 0, none⟩ = some (.int .i64 p) := by rw [hp.cell 0]; rfl
  have c0 : w.cell? ⟨g1, 0, none⟩ = some (.int .i64 s) := by rw [hs.cell 0]; rfl
  have c1 := ht.cellS i (by rw [ok.len]; omega)
  rw [Nat.add_comm] at c1
  have e1 := b_bit0 (andN p s) i (andN_lt p s 62 hp62)
  rw [← b_andN p s hp62 hs62, andN_bit] at e1
  have e2 := b_and0 (o.getD i 0) s (ok.lt62 i) hs62
  have er : absB o s p i = (!(p.testBit i && !s.testBit i) || !(o.getD i 0 &&& s == 0)) := rfl
  generalize o.getD i 0 = oi at *
  clear hs ht ok hp
  have i0 : (0 : Int) ≤ i := by omega
  have i1 : (i : Int) < 12 := by omega
  generalize (p.testBit i && !s.testBit i) = c at *
  cases c
  · have hr : absB o s p i = true := by simp [er]
    have Hr := Aside0.mk hr; clear hr er
    have cb : (Go.bits .and .i64 ((Go.bits .andNot .i64 (p : Int) s) / 2 ^ i) 1 == 0) = true := by rw [e1]; rfl
    clear e1 e2
    go_enter Try.func87, Try.ntmps87
    go_wp2
    go_quiet (fail)
    go_wp2
    go_ret
    exact ⟨by rw [Hr.out]; rfl, ⟨_, rfl⟩⟩
  · have hr : absB o s p i = (bits .and .i64 oi s != 0) := by rw [er, ← e2]; rfl
    have Hr := Aside0.mk hr; clear hr er
    have cb : (Go.bits .and .i64 ((Go.bits .andNot .i64 (p : Int) s) / 2 ^ i) 1 == 0) = false := by rw [e1]; rfl
    clear e1 e2
    go_enter Try.func87, Try.ntmps87
    go_wp2
    go_quiet (fail)
    go_wp2
    go_ret
    exact ⟨by rw [Hr.out]; rfl, ⟨_, rfl⟩⟩

/-- A value that is a test of each person. -/
structure TestC (w : World) (n : Nat) (f : FuncId) (cap : Array Value) (p : Nat → Bool) : Prop where
  enter : ∀ (args : Array Value) (w : World), (callFunc f args).run Try.prog w = .ok (.enter f args) w
  calls : ∀ i, i < n → ∀ w', Below w.heap.size w w' → Calls Try.prog f (#[.int .i64 (i : Nat)] ++ cap) w' (fun e w'' => e = .returned (.bool (p i)) ∧ Drawn0 w' w'')
theorem TestC.later {w w1 : World} {n : Nat} {f : FuncId} {cap : Array Value} {p : Nat → Bool} (h : TestC w n f cap p) (hb : Below w.heap.size w w1) : TestC w1 n f cap p :=
  ⟨h.enter, fun i hi w' hw => h.calls i hi w' (below_then hb hb.size hw)⟩

theorem cf86 (args : Array Value) (w : World) : (callFunc 86 args).run Try.prog w = .ok (.enter 86 args) w := by kernel_rfl
theorem cf87 (args : Array Value) (w : World) : (callFunc 87 args).run Try.prog w = .ok (.enter 87 args) w := by kernel_rfl
def IndepPost (n : Nat) (o : List Nat) (s : Nat) (w : World) (e : Ending) (w' : World) : Prop :=
  ∃ cap, e = .returned (.func (.func 86) #[] cap) ∧ TestC w' n 86 cap (indB o s) ∧ Below w.heap.size w w'
set_option maxHeartbeats 800000 in
theorem indep_any (n : Nat) (o : List Nat) (s : Nat) (w : World) (ok : Okt n o) (hs62 : s < 2 ^ 62) :
    Calls Try.prog 61 #[.agg (tnN n o), .int .i64 s] w (IndepPost n o s w) := by
  have hmf : ∀ (fn : Fn) (first cap : Array Value) (w : World), (Instr.makeFunc fn first cap).run Try.prog w = .ok (.func fn first cap) w := fun _ _ _ _ => rfl
  have k : ∀ w', Below w.heap.size w w' → True := fun _ _ => trivial
  have hfin : ∀ (g1 g2 : Nat) (w1 : World), Blk w1 g1 3 #[.int .i64 s] → TnN w1 g2 n o → TestC w1 n 86 #[.pointer (some ⟨g1, 0, none⟩), .pointer (some ⟨g2, 0, none⟩)] (indB o s) :=
    fun g1 g2 w1 hb ht => ⟨cf86, fun i hi w' hw => indep1_any n o s i g1 g2 w' (by have := ok.n12; omega) ok hs62 (hb.later hw) (Blk.later ht hw)⟩
  have Hf := Aside0.mk hfin
  clear hfin k
  unfold tnN
  go_enter Try.func61, Try.ntmps61
  go_wp2
  go_ret
  refine ⟨_, rfl, Hf.out (w.heap.size + 1) w.heap.size _ ?_ ?_, below_alloc (below_alloc (Below.refl _ _) _) _⟩
  · have := Blk.new (w.alloc (.cells (tnA n (ints o)) 50)) 3 #[.int .i64 s]
    simpa using this
  · exact (Blk.new w 50 (tnA n (ints o))).alloc _

def AbsbPost (n : Nat) (o : List Nat) (s p : Nat) (w : World) (e : Ending) (w' : World) : Prop :=
  ∃ cap, e = .returned (.func (.func 87) #[] cap) ∧ TestC w' n 87 cap (absB o s p) ∧ Below w.heap.size w w'
set_option maxHeartbeats 800000 in
theorem absb_any (n : Nat) (o : List Nat) (s p : Nat) (w : World) (ok : Okt n o) (hs62 : s < 2 ^ 62) (hp62 : p < 2 ^ 62) :
    Calls Try.prog 62 #[.agg (tnN n o), .int .i64 s, .int .i64 p] w (AbsbPost n o s p w) := by
  have hmf : ∀ (fn : Fn) (first cap : Array Value) (w : World), (Instr.makeFunc fn first cap).run Try.prog w = .ok (.func fn first cap) w := fun _ _ _ _ => rfl
  have hfin : ∀ (g0 g1 g2 : Nat) (w1 : World), Blk w1 g0 3 #[.int .i64 p] → Blk w1 g1 3 #[.int .i64 s] → TnN w1 g2 n o → TestC w1 n 87 #[.pointer (some ⟨g0, 0, none⟩), .pointer (some ⟨g1, 0, none⟩), .pointer (some ⟨g2, 0, none⟩)] (absB o s p) :=
    fun g0 g1 g2 w1 ha hb ht => ⟨cf87, fun i hi w' hw => absb1_any n o s p i g0 g1 g2 w' (by have := ok.n12; omega) ok hs62 hp62 (ha.later hw) (hb.later hw) (Blk.later ht hw)⟩
  have Hf := Aside0.mk hfin
  clear hfin
  unfold tnN
  go_enter Try.func62, Try.ntmps62
  go_wp2
  go_ret
  refine ⟨_, rfl, Hf.out (w.heap.size + 1 + 1) (w.heap.size + 1) w.heap.size _ ?_ ?_ ?_, below_alloc (below_alloc (below_alloc (Below.refl _ _) _) _) _⟩
  · have := Blk.new ((w.alloc (.cells (tnA n (ints o)) 50)).alloc (.cells #[.int .i64 s] 3)) 3 #[.int .i64 p]
    simpa using this
  · have := (Blk.new (w.alloc (.cells (tnA n (ints o)) 50)) 3 #[.int .i64 s]).alloc (.cells #[.int .i64 p] 3)
    simpa using this
  · exact ((Blk.new w 50 (tnA n (ints o))).alloc _).alloc _
end Go.Proofs.Ytmobefgnkiboaaa.Im

namespace Go.Proofs.Ytmobefgnkiboaaa.Im
open Go.RowKit Go.Proofs.YtmobefgnkiboaaaW.PrintWords Go.Proofs.YtmobefgnkiboaaaW.PrintLast Go.Proofs.YtmobefgnkiboaaaW.PrintMore
set_option linter.unusedVariables false
attribute [local go_sem] tnA_zero

def AllB (n : Nat) (p q : Nat → Bool) : Bool := (List.range n).all fun i => p i && q i
def Upto (k : Nat) (p q : Nat → Bool) : Prop := ∀ j, j < k → (p j && q j) = true
theorem Upto.succ {k : Nat} {p q : Nat → Bool} (h : Upto k p q) (h1 : p k = true) (h2 : q k = true) : Upto (k + 1) p q := fun j hj => by
  rcases Nat.lt_or_ge j k with hlt | hge
  · exact h j hlt
  · obtain rfl : j = k := by omega
    rw [h1, h2]; rfl
theorem AllB_true {n : Nat} {p q : Nat → Bool} (h : Upto n p q) : AllB n p q = true := by
  unfold AllB
  rw [List.all_eq_true]
  exact fun x hx => h x (List.mem_range.1 hx)
theorem AllB_false {n k : Nat} {p q : Nat → Bool} (hk : k < n) (h : (p k && q k) = false) : AllB n p q = false := by
  unfold AllB
  rw [List.all_eq_false]
  exact ⟨k, List.mem_range.2 hk, by rw [h]; simp⟩

set_option maxHeartbeats 1600000 in
set_option maxRecDepth 100000 in
theorem all_any (n : Nat) (o : List Nat) (f0 f1 : FuncId) (d0 d1 : Array Value) (p q : Nat → Bool) (b : Nat) (w : World) (ok : Okt n o)
    (hb0 : w.cell? ⟨b, 0, none⟩ = some (.func (.func f0) #[] d0)) (hb1 : w.cell? ⟨b, 1, none⟩ = some (.func (.func f1) #[] d1))
    (T0 : TestC w n f0 d0 p) (T1 : TestC w n f1 d1 q) :
    Calls Try.prog 60 #[.agg (tnN n o), .slice (some ⟨b, 0, none⟩) 2 2] w fun e w' => e = .returned (.bool (AllB n p q)) ∧ Below w.heap.size w w' := by
  have hlt := World.block_lt_of_cell? w _ hb0
  have n12 := ok.n12
  clear ok
  unfold tnN
  have H0 := Aside0.mk hb0
  have H1 := Aside0.mk hb1
  clear hb0 hb1
  go_enter Try.func60, Try.ntmps60
  go_wp2_with fail
  go_loopw [10] (fun v wr => ∃ k : Nat, k ≤ n ∧ v = .int .i64 (k : Int) ∧ Aside0 (Upto k p q) ∧ Aside0 (Below w.heap.size w wr)) (fun v _ => n - (intOf v).toNat)
  case atStart => exact ⟨0, Nat.zero_le _, rfl, ⟨fun j hj => absurd hj (by omega)⟩, ⟨below_alloc (Below.refl _ _) _⟩⟩
  case round =>
    obtain ⟨k, hk, rfl, HU, HB⟩ := hrel
    by_cases hkn : k < n
    · have r0 := (HB.out.cell (p := ⟨b, 0, none⟩) hlt).trans H0.out
      have r1 := (HB.out.cell (p := ⟨b, 1, none⟩) hlt).trans H1.out
      have E0 := T0.enter
      have E1 := T1.enter
      have C0 := T0.calls k hkn
      have C1 := T1.calls k hkn
      have HC0 := Aside0.mk C0
      have HC1 := Aside0.mk C1
      clear C0 C1 T0 T1
      cases hp : p k
      · have HF := Aside0.mk (AllB_false (p := p) (q := q) hkn (by rw [hp]; rfl))
        rw [hp] at HC0
        clear hp
        go_wp2_with fail
        refine wp_loop_rounds 3 ?_
        rw [rounds_succ]
        go_wp2_with fail
        refine (HC0.out _ HB.out).mono ?_
        rintro e w1 ⟨rfl, hd⟩
        go_wp2_with fail
        go_ret
        exact ⟨by rw [HF.out]; rfl, below_then HB.out HB.out.size hd.below⟩
      · cases hq : q k
        · have HF := Aside0.mk (AllB_false (p := p) (q := q) hkn (by rw [hp, hq]; rfl))
          rw [hp] at HC0
          rw [hq] at HC1
          clear hp hq
          go_wp2_with fail
          refine wp_loop_rounds 3 ?_
          rw [rounds_succ]
          go_wp2_with fail
          refine (HC0.out _ HB.out).mono ?_
          rintro e w1 ⟨rfl, ⟨n1, rfl⟩⟩
          go_wp2_with fail
          rw [rounds_succ]
          go_wp2_with fail
          refine (HC1.out _ (pw_below_drewN HB.out _)).mono ?_
          rintro e w2 ⟨rfl, hd⟩
          go_wp2_with fail
          go_ret
          exact ⟨by rw [HF.out]; rfl, below_then (pw_below_drewN HB.out _) HB.out.size hd.below⟩
        · have HU' := Aside0.mk (HU.out.succ hp hq)
          rw [hp] at HC0
          rw [hq] at HC1
          clear hp hq
          go_wp2_with fail
          refine wp_loop_rounds 3 ?_
          rw [rounds_succ]
          go_wp2_with fail
          refine (HC0.out _ HB.out).mono ?_
          rintro e w1 ⟨rfl, ⟨n1, rfl⟩⟩
          go_wp2_with fail
          rw [rounds_succ]
          go_wp2_with fail
          refine (HC1.out _ (pw_below_drewN HB.out _)).mono ?_
          rintro e w2 ⟨rfl, ⟨n2, rfl⟩⟩
          go_wp2_with fail
          rw [rounds_succ]
          go_wp2_with fail
          go_roundw
          case rel => exact ⟨k + 1, by omega, by go_num, HU', ⟨pw_below_drewN HB.out _⟩⟩
          case measure => simp [intOf]; omega
    · obtain rfl : k = n := by omega
      have HF := Aside0.mk (AllB_true HU.out)
      go_wp2_with fail
      go_ret
      exact ⟨by rw [HF.out]; rfl, HB.out⟩
end Go.Proofs.Ytmobefgnkiboaaa.Im

namespace Go.Proofs.Ytmobefgnkiboaaa.Im
open Go.RowKit Go.Proofs.YtmobefgnkiboaaaW.PrintWords Go.Proofs.YtmobefgnkiboaaaW.PrintLast Go.Proofs.YtmobefgnkiboaaaW.PrintMore
set_option linter.unusedVariables false

set_option maxHeartbeats 1600000 in
set_option maxRecDepth 100000 in
theorem kernel_any (n : Nat) (o : List Nat) (s p : Nat) (w : World) (ok : Okt n o) (hs62 : s < 2 ^ 62) (hp62 : p < 2 ^ 62) :
    Calls Try.prog 56 #[.agg (tnN n o), .int .i64 s, .int .i64 p] w fun e w' => e = .returned (.bool (AllB n (indB o s) (absB o s p))) ∧ Below w.heap.size w w' := by
  have hnew : TnN (w.alloc (.cells (tnN n o) 50)).drew w.heap.size n o := Blk.new _ _ _
  have hb0 : Below w.heap.size w (w.alloc (.cells (tnN n o) 50)).drew := below_drew (below_alloc (Below.refl _ _) _)
  go_enter Try.func56, Try.ntmps56
  go_wp2
  refine wp_region_held (S := fun wx => TnN wx w.heap.size n o ∧ Below w.heap.size w wx) (by kernel_rfl) ?_
  refine wpAnyH_take (i := 0) (v := .agg (tnN n o)) rfl (by kernel_rfl) (by kernel_rfl) (by kernel_rfl) (fun _ _ _ h => h) (yi_at rfl fun wx h => ex_load_tn rfl wx w.heap.size n o rfl h.1 ok.len) ⟨hnew, hb0⟩ ?_
  refine wpAnyH_take (i := 1) (v := .agg (tnN n o)) rfl (by kernel_rfl) (by kernel_rfl) (by kernel_rfl) (fun _ _ _ h => h) (yi_at rfl fun wx h => ex_load_tn rfl wx w.heap.size n o rfl h.1 ok.len) ⟨hnew, hb0⟩ ?_
  refine wpAnyH_take (i := 2) (v := .int .i64 s) rfl (by kernel_rfl) (by kernel_rfl) (by kernel_rfl) (fun _ _ _ h => h) (yi_any rfl fun wx => rfl) ⟨hnew, hb0⟩ ?_
  refine wpAnyH_take (i := 4) (v := .agg (tnN n o)) rfl (by kernel_rfl) (by kernel_rfl) (by kernel_rfl) (fun _ _ _ h => h) (yi_at rfl fun wx h => ex_load_tn rfl wx w.heap.size n o rfl h.1 ok.len) ⟨hnew, hb0⟩ ?_
  refine wpAnyH_take (i := 5) (v := .int .i64 s) rfl (by kernel_rfl) (by kernel_rfl) (by kernel_rfl) (fun _ _ _ h => h) (yi_any rfl fun wx => rfl) ⟨hnew, hb0⟩ ?_
  refine wpAnyH_take (i := 6) (v := .int .i64 p) rfl (by kernel_rfl) (by kernel_rfl) (by kernel_rfl) (fun _ _ _ h => h) (yi_any rfl fun wx => rfl) ⟨hnew, hb0⟩ ?_
  refine ro_one (i := 3) (by kernel_rfl) (ro_call (f := 61) (args := #[.agg (tnN n o), .int .i64 s]) rfl rfl (by kernel_rfl) ?_)
  refine (indep_any n o s _ ok hs62).mono ?_
  rintro e w1 ⟨cap1, rfl, T1, hb1⟩
  refine ⟨_, rfl, ⟨Blk.later hnew hb1, below_then hb0 hb0.size hb1⟩, ?_⟩
  refine ro_one (i := 7) (by kernel_rfl) (ro_call (f := 62) (args := #[.agg (tnN n o), .int .i64 s, .int .i64 p]) rfl rfl (by kernel_rfl) ?_)
  refine (absb_any n o s p _ ok hs62 hp62).mono ?_
  rintro e w2 ⟨cap2, rfl, T2, hb2⟩
  have hb12 := below_then hb0 hb0.size hb1
  have hb02 := below_then hb12 hb12.size hb2
  refine ⟨_, rfl, ⟨Blk.later (Blk.later hnew hb1) hb2, hb02⟩, ?_⟩
  refine ro_one (i := 8) (by kernel_rfl) (ro_val (v := .slice (some ⟨w2.heap.size, 0, none⟩) 2 2) (w' := w2.alloc (.cells #[.func (.func 86) #[] cap1, .func (.func 87) #[] cap2] 62)) rfl rfl (by kernel_rfl) ?_)
  have hb3 : Below w2.heap.size w2 (w2.alloc (.cells #[.func (.func 86) #[] cap1, .func (.func 87) #[] cap2] 62)) := below_alloc (Below.refl _ _) _
  have hB := Blk.new w2 62 #[.func (.func 86) #[] cap1, .func (.func 87) #[] cap2]
  have hb03 := below_then hb02 hb02.size hb3
  refine ⟨⟨Blk.later (Blk.later (Blk.later hnew hb1) hb2) hb3, hb03⟩, ?_⟩
  refine ro_one (i := 9) (by kernel_rfl) (ro_call (f := 60) (args := #[.agg (tnN n o), .slice (some ⟨w2.heap.size, 0, none⟩) 2 2]) rfl rfl (by kernel_rfl) ?_)
  refine (all_any n o 86 87 cap1 cap2 _ _ _ _ ok (by rw [hB.cell]; rfl) (by rw [hB.cell]; rfl) ((T1.later hb2).later hb3) (T2.later hb3)).mono ?_
  rintro e w4 ⟨rfl, hb4⟩
  refine ⟨_, rfl, ⟨Blk.later (Blk.later (Blk.later (Blk.later hnew hb1) hb2) hb3) hb4, below_then hb03 hb03.size hb4⟩, ?_⟩
  refine ro_one (i := 10) (by kernel_rfl) (ro_val (v := .bool (AllB n (indB o s) (absB o s p))) (w' := w4) rfl rfl (by kernel_rfl) ?_)
  refine ⟨⟨Blk.later (Blk.later (Blk.later (Blk.later hnew hb1) hb2) hb3) hb4, below_then hb03 hb03.size hb4⟩, ?_⟩
  refine wpAnyH_done (by kernel_rfl) ?_ _
  go_wp2
  go_ret
  exact ⟨rfl, below_then hb03 hb03.size hb4⟩
end Go.Proofs.Ytmobefgnkiboaaa.Im

namespace Go.Proofs.Ytmobefgnkiboaaa.Im
open Go.RowKit Go.Proofs.YtmobefgnkiboaaaW.PrintWords Go.Proofs.YtmobefgnkiboaaaW.PrintLast Go.Proofs.YtmobefgnkiboaaaW.PrintMore
set_option linter.unusedVariables false

/-- The three boxes of 'each'. -/
structure EachB (w : World) (row : Option Nat) (gp gv go p : Nat) (f : FuncId) (cap : Array Value) : Prop where
  bp : Blk w gp 3 #[.int .i64 (p : Nat)]
  bv : Blk w gv 62 #[.func (.func f) #[] cap]
  bo : Blk w go 60 #[.func (.func 90) #[] #[.pointer (some ⟨gv, 0, none⟩), .pointer (some ⟨gp, 0, none⟩), .pointer (some ⟨go, 0, none⟩)]]
  np : some gp ≠ row
  nv : some gv ≠ row
  no : some go ≠ row
theorem EachB.gb {w w' : World} {row : Option Nat} {gp gv go p : Nat} {f : FuncId} {cap : Array Value} (h : EachB w row gp gv go p f cap) (hg : w.grownBy w' row) : EachB w' row gp gv go p f cap :=
  ⟨h.bp.gb hg h.np, h.bv.gb hg h.nv, h.bo.gb hg h.no, h.np, h.nv, h.no⟩
def EachPost {σ : Type} (I : σ → World → Prop) (row : Option Nat) (w : World) (r : Bool × σ) (e : Ending) (w' : World) : Prop :=
  e = .returned (.bool r.1) ∧ I r.2 w' ∧ w.grownBy w' row

set_option maxHeartbeats 3200000 in
set_option maxRecDepth 100000 in
theorem each1_any {σ : Type} {I : σ → World → Prop} {row : Option Nat} {f : FuncId} {cap : Array Value} {vis : σ → Nat → Bool × σ} (V : Visit I row f cap vis) (p gp gv go : Nat) (hp : p < 4096) (k : Nat) :
    ∀ (i s : Nat) (st : σ) (w : World), 12 - i < k → i ≤ 12 → s < 4096 → I st w → EachB w row gp gv go p f cap →
    Calls Try.prog 90 #[.int .i64 s, .int .i64 i, .pointer (some ⟨gv, 0, none⟩), .pointer (some ⟨gp, 0, none⟩), .pointer (some ⟨go, 0, none⟩)] w
      (EachPost I row w (onL vis (mem12 p i) s st)) := by
  induction k with
  | zero => intro i s st w h; omega
  | succ k ih =>
    intro i s st w hk hi hs hI hE
    have HI := Aside0.mk hI
    have HE := Aside0.mk hE
    have IH := Aside0.mk ih
    have hcv : w.cell? ⟨gv, 0, none⟩ = some (.func (.func f) #[] cap) := by rw [hE.bv.cell]; rfl
    have E0 := V.enter
    have C0 := Aside0.mk (V.calls st s w hs hI)
    have KP := Aside0.mk V.keep
    clear hI hE ih V
    obtain ⟨b1, st1, hr⟩ : ∃ b1 st1, vis st s = (b1, st1) := ⟨_, _, rfl⟩
    rw [hr] at C0
    have hon : onL vis (mem12 p i) s st = if b1 then (true, st1) else lpL vis (mem12 p i) s st1 := by simp [onL, hr]
    rw [hon]
    clear hr hon
    cases b1
    · rw [if_neg (by simp)]
      go_enter Try.func90, Try.ntmps90
      go_wp2_with fail
      refine C0.out.mono ?_
      rintro e w1 ⟨rfl, hI1, hg1⟩
      have HI1 := Aside0.mk hI1
      have HE1 := Aside0.mk (HE.out.gb hg1)
      have HG1 := Aside0.mk hg1
      clear hI1 hg1 hcv
      go_wp2_with fail
      go_loopw [8] (fun v wr => ∃ j : Nat, j ≤ 12 ∧ v = .int .i64 (j : Int) ∧ Aside0 (∃ st', lpL vis (mem12 p i) s st1 = lpL vis (mem12 p j) s st' ∧ I st' wr) ∧ Aside0 (w.grownBy wr row) ∧ Aside0 (i ≤ j) ∧ Aside0 (EachB wr row gp gv go p f cap)) (fun v _ => 12 - (intOf v).toNat)
      case atStart => exact ⟨i, hi, rfl, ⟨st1, rfl, HI1.out⟩, HG1, ⟨Nat.le_refl _⟩, HE1⟩
      case round =>
        clear HE1 HI1 HG1
        obtain ⟨j, hj, rfl, HL, HG, HJ, HE⟩ := hrel
        have cp : wr.cell? ⟨gp, 0, none⟩ = some (.int .i64 (p : Nat)) := by rw [HE.out.bp.cell]; rfl
        have co : wr.cell? ⟨go, 0, none⟩ = some (.func (.func 90) #[] #[.pointer (some ⟨gv, 0, none⟩), .pointer (some ⟨gp, 0, none⟩), .pointer (some ⟨go, 0, none⟩)]) := by rw [HE.out.bo.cell]; rfl
        have j0 : (0 : Int) ≤ j := by omega
        by_cases hz : p >>> j = 0
        · have c1 : ¬ (0 < (p : Int) / 2 ^ j) := by rw [shr_nat, hz]; simp
          obtain ⟨st', hl, hI'⟩ := HL.out
          rw [mem12_none p j hz] at hl
          have HF := Aside0.mk hl
          have HI' := Aside0.mk hI'
          clear hl hI' HL hz
          go_wp2_with fail
          go_ret
          refine ⟨by rw [HF.out]; rfl, by rw [HF.out]; exact HI'.out, HG.out⟩
        · have c1 : 0 < (p : Int) / 2 ^ j := by rw [shr_nat]; exact_mod_cast Nat.pos_of_ne_zero hz
          have hj12 : j < 12 := shr12 p j hp hz
          have hst := mem12_step p j hj12
          have e1 := b_bit1 p j (by omega)
          clear hz
          cases hb : p.testBit j
          · rw [hb, if_neg (by simp)] at hst
            rw [hb] at e1
            have HS := Aside0.mk hst
            clear hst hb
            go_wp2_with fail
            go_quiet (fail)
            go_wp2_with fail
            go_roundw
            case rel =>
              obtain ⟨st', hl, hI'⟩ := HL.out
              exact ⟨j + 1, by omega, by go_num, ⟨st', by rw [hl, HS.out], KP.out _ _ _ hI' (gb_drewN _ _ _)⟩, ⟨gb_trans HG.out (gb_drewN _ _ _)⟩, ⟨by have := HJ.out; omega⟩, ⟨HE.out.gb (gb_drewN _ _ _)⟩⟩
            case measure => simp [intOf]; omega
          · rw [hb, if_pos rfl] at hst
            rw [hb] at e1
            have HS := Aside0.mk hst
            clear hst hb
            obtain ⟨st', hl, hI'⟩ := HL.out
            clear HL
            obtain ⟨b2, st2, hr2⟩ : ∃ b2 st2, onL vis (mem12 p (j + 1)) (s ||| 2 ^ j) st' = (b2, st2) := ⟨_, _, rfl⟩
            have C1 := IH.out (j + 1) (s ||| 2 ^ j) st' wr.drew (by have := HJ.out; omega) (by omega) (or_lt12 s j hs hj12) (KP.out _ _ _ hI' (gb_drew _ _)) (HE.out.gb (gb_drew _ _))
            rw [hr2] at C1
            have ea : ((s ||| 2 ^ j : Nat) : Int) = bits .or .i64 (s : Int) (IntKind.i64.wrap (2 ^ j)) := by
              have h2 : 2 ^ j < 2 ^ 62 := Nat.pow_lt_pow_right (by decide) (by omega)
              rw [← b_or s (2 ^ j) (by omega) h2, two_pow_nat, wr62 _ (Int.natCast_nonneg _) (by exact_mod_cast h2)]
            have eb : ((j + 1 : Nat) : Int) = IntKind.i64.wrap ((j : Int) + 1) := by rw [wr62 _ (by omega) (by omega)]; omega
            rw [ea, eb] at C1
            have HC1 := Aside0.mk C1
            rw [HS.out, lpL_cons, hr2] at hl
            clear C1 ea eb hr2 hI' HS
            cases b2
            · rw [if_neg (by simp)] at hl
              have HF := Aside0.mk hl
              clear hl
              go_wp2_with fail
              go_region_held3 (fun w' => w'.cell? ⟨gp, 0, none⟩ = some (.int .i64 (p : Nat)) ∧ w'.cell? ⟨go, 0, none⟩ = some (.func (.func 90) #[] #[.pointer (some ⟨gv, 0, none⟩), .pointer (some ⟨gp, 0, none⟩), .pointer (some ⟨go, 0, none⟩)])) (first | go_keep)
                (first | (go_at_call 90; refine HC1.out.mono ?_; rintro e w2 ⟨rfl, hI2, hg2⟩; have HI2 := Aside0.mk hI2; have HG2 := Aside0.mk (gb_trans HG.out (gb_trans (gb_drew _ _) hg2)); have HE2 := Aside0.mk ((HE.out.gb (gb_drew _ _)).gb hg2); clear hI2 hg2; have cp2 : w2.cell? ⟨gp, 0, none⟩ = some (.int .i64 (p : Nat)) := HE2.out.bp.cell 0; have co2 : w2.cell? ⟨go, 0, none⟩ = some (.func (.func 90) #[] #[.pointer (some ⟨gv, 0, none⟩), .pointer (some ⟨gp, 0, none⟩), .pointer (some ⟨go, 0, none⟩)]) := HE2.out.bo.cell 0))
              go_wp2_with fail
              go_roundw
              case rel => exact ⟨j + 1, by omega, by go_num, ⟨st2, HF.out, HI2.out⟩, HG2, ⟨by have := HJ.out; omega⟩, HE2⟩
              case measure => simp [intOf]; omega
            · rw [if_pos rfl] at hl
              have HF := Aside0.mk hl
              clear hl
              go_wp2_with fail
              go_region_held3 (fun w' => w'.cell? ⟨gp, 0, none⟩ = some (.int .i64 (p : Nat)) ∧ w'.cell? ⟨go, 0, none⟩ = some (.func (.func 90) #[] #[.pointer (some ⟨gv, 0, none⟩), .pointer (some ⟨gp, 0, none⟩), .pointer (some ⟨go, 0, none⟩)])) (first | go_keep)
                (first | (go_at_call 90; refine HC1.out.mono ?_; rintro e w2 ⟨rfl, hI2, hg2⟩; have HI2 := Aside0.mk hI2; have HG2 := Aside0.mk (gb_trans HG.out (gb_trans (gb_drew _ _) hg2)); have HE2 := Aside0.mk ((HE.out.gb (gb_drew _ _)).gb hg2); clear hI2 hg2; have cp2 : w2.cell? ⟨gp, 0, none⟩ = some (.int .i64 (p : Nat)) := HE2.out.bp.cell 0; have co2 : w2.cell? ⟨go, 0, none⟩ = some (.func (.func 90) #[] #[.pointer (some ⟨gv, 0, none⟩), .pointer (some ⟨gp, 0, none⟩), .pointer (some ⟨go, 0, none⟩)]) := HE2.out.bo.cell 0))
              go_wp2_with fail
              go_ret
              exact ⟨by rw [HF.out]; rfl, by rw [HF.out]; exact HI2.out, HG2.out⟩
    · rw [if_pos rfl]
      go_enter Try.func90, Try.ntmps90
      go_wp2_with fail
      refine C0.out.mono ?_
      rintro e w1 ⟨rfl, hI1, hg1⟩
      have HI1 := Aside0.mk hI1
      have HG1 := Aside0.mk hg1
      clear hI1 hg1 hcv
      go_wp2_with fail
      go_ret
      exact ⟨rfl, HI1.out, HG1.out⟩

set_option maxHeartbeats 1600000 in
theorem each_any {σ : Type} {I : σ → World → Prop} {row : Option Nat} {f : FuncId} {cap : Array Value} {vis : σ → Nat → Bool × σ} (V : Visit I row f cap vis) (p : Nat) (hp : p < 4096)
    (st : σ) (w : World) (hI : I st w) (hrow : ∀ g, row = some g → g < w.heap.size) :
    Calls Try.prog 73 #[.int .i64 p, .func (.func f) #[] cap] w (EachPost I row w (onL vis (mem12 p 0) 0 st)) := by
  have hmf : ∀ (fn : Fn) (first cap : Array Value) (w : World), (Instr.makeFunc fn first cap).run Try.prog w = .ok (.func fn first cap) w := fun _ _ _ _ => rfl
  have hsf := fun (a : Addr) (c : Array Value) (w : World) => run_store Try.prog w a (.func (.func 90) #[] c) .plain rfl
  have hp1 : Below w.heap.size w (((w.alloc (Obj.cells #[Value.int IntKind.i64 (p : Nat)] 3)).alloc (Obj.cells #[Value.func (Fn.func f) #[] cap] 62)).alloc (Obj.cells #[Value.func (Fn.func 90) #[] #[Value.pointer (some { block := w.heap.size + 1, off := 0 }), Value.pointer (some { block := w.heap.size, off := 0 }), Value.pointer (some { block := w.heap.size + 1 + 1, off := 0 })]] 60)) :=
    below_alloc (below_alloc (below_alloc (Below.refl _ _) _) _) _
  have HP := Aside0.mk hp1
  have C := each1_any V p w.heap.size (w.heap.size + 1) (w.heap.size + 1 + 1) hp 13 0 0 st _ (by omega) (by omega) (by decide) (V.keep _ _ _ hI (gb_below hp1))
    ⟨((Blk.new w 3 #[.int .i64 (p : Nat)]).alloc _).alloc _, (Blk.new' (by simp)).alloc _, Blk.new' (by simp), fun h => by have := hrow _ h.symm; omega, fun h => by have := hrow _ h.symm; omega, fun h => by have := hrow _ h.symm; omega⟩
  have HC := Aside0.mk C
  clear hp1 C hrow hI V
  generalize onL vis (mem12 p 0) 0 st = r at *
  go_enter Try.func73, Try.ntmps73
  go_wp2_with fail
  refine HC.out.mono ?_
  rintro e w1 ⟨rfl, hI1, hg1⟩
  have HI1 := Aside0.mk hI1
  have HG1 := Aside0.mk (gb_trans (gb_below HP.out) hg1)
  clear hI1 hg1
  go_wp2_with fail
  go_ret
  exact ⟨rfl, HI1.out, HG1.out⟩
end Go.Proofs.Ytmobefgnkiboaaa.Im
