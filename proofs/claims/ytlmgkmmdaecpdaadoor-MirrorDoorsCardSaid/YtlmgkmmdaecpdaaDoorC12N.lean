/- Further parts of the same walk: contracts of the functions that the law reaches, each under the conditions that it states. -/
import Derived.Test.YtlmgkmmdaecpdaaDoorC12M
import Derived.Maps.RangeWalk
namespace Go.Proofs.YtlmgkmmdaecpdaaDoor.Im
open Go.RowKit Go.Proofs.YtlmgkmmdaecpdaaDoorW.PrintWords Go.Proofs.YtlmgkmmdaecpdaaDoorW.PrintLast Go.Proofs.YtlmgkmmdaecpdaaDoorW.PrintMore Go.Proofs.YtlmgkmmdaecpdaaDoor.Mi
set_option linter.unusedVariables false
set_option linter.unusedSimpArgs false
def colB (n : Nat) (l : List UInt8) (a b : Nat) : UInt8 := l.getD (offT n a + b) 0
theorem zeroU2 (w : World) : (zeroValue 5).run Tryd.prog w = .ok (.int .u8 0) w := by kernel_rfl
theorem tri_look {w : World} {g n mb m : Nat} {l : List UInt8} {D : DataW Unit} (h : Tri w g n mb m l D) {a b : Nat} (hab : a + b ≤ n) :
    (Instr.lookup 115 (.map (some mb)) (.agg #[.int .i64 (a : Nat), .int .i64 (b : Nat)]) false).run Tryd.prog w = .ok (.int .u8 ((colB n l a b).toNat : Int)) w := by
  have h20 := h.n20
  obtain ⟨c, h1, h2, _⟩ := h.own.lookup_int lawP Tryd.underlying115 Tryd.underlying5 (zeroU2 w) (key_P (i := a) (j := b) (by omega) (by omega))
  have h3 := h.all.at_ a b hab (.inl (by omega)) (.lit (.int .u8 0))
  rw [h3] at h2
  cases h2
  exact h1
theorem conv3 (w : World) (t : TypeId) (a b c : UInt8) (cap : Nat) : (convert 60 9 (.slice (some ⟨w.heap.size, 0, none⟩) 3 cap)).run Tryd.prog (w.alloc (.cells #[.int .u8 (a.toNat : Int), .int .u8 (b.toNat : Int), .int .u8 (c.toNat : Int)] t)).drew = .ok (.string ⟨#[a, b, c]⟩) (w.alloc (.cells #[.int .u8 (a.toNat : Int), .int .u8 (b.toNat : Int), .int .u8 (c.toNat : Int)] t)).drew := by
  have hb : Lib.Bytes (w.alloc (.cells #[.int .u8 (a.toNat : Int), .int .u8 (b.toNat : Int), .int .u8 (c.toNat : Int)] t)).drew w.heap.size 0 ⟨#[a, b, c]⟩ := by
    intro i hi
    have hi3 : i < 3 := hi
    rw [Nat.zero_add, (Blk.new w t _).drew.cell]
    match i, hi3 with
    | 0, _ => rfl
    | 1, _ => rfl
    | 2, _ => rfl
  exact Lib.run_convert_whole (P := Tryd.prog) _ 60 5 9 Tryd.underlying60 Tryd.underlying5 Tryd.underlying9 w.heap.size 0 _ hb cap
set_option maxHeartbeats 6400000 in
set_option maxRecDepth 100000 in
theorem text_0 (g n mb m : Nat) (l : List UInt8) (D : DataW Unit) (i j : Nat) (w : World) (ht : Tri w g n mb m l D) (hij : i + j + 1 ≤ n) :
    Calls Tryd.prog 64 #[.pointer (some ⟨g, 0, none⟩), .agg #[.int .i64 0, .int .i64 (i : Nat), .int .i64 (j : Nat)]] w fun e w' => e = .returned (.string ⟨#[colB n l (i) (j), colB n l (i + 1) (j), colB n l (i) (j + 1)]⟩) ∧ Below w.heap.size w w' := by
  have HT := Aside0.mk ht
  have h20 := ht.n20
  have HP := Aside0.mk (fun w => points_0 i j w (by omega) (by omega))
  have HIJ := Aside0.mk hij
  clear ht hij h20
  go_enter Tryd.func64, Tryd.ntmps64
  go_wp2_with fail
  refine (HP.out _).mono ?_
  rintro e w1 ⟨rfl, hb1⟩
  have hb0 : Below w.heap.size w w1 := below_then (below_alloc (Below.refl _ _) _) (by simp) hb1
  have HB := Aside0.mk hb0
  clear hb0 hb1
  go_wp2_with fail
  obtain ⟨gq, hgq⟩ : ∃ gq, w1.heap.size = gq := ⟨_, rfl⟩
  have hb2 : Below w1.heap.size w1 (w1.alloc (.cells #[.int .i64 (i : Nat), .int .i64 (j : Nat), .int .i64 ((i : Int) + 1), .int .i64 (j : Nat), .int .i64 (i : Nat), .int .i64 ((j : Int) + 1)] 118)) := below_alloc (Below.refl _ _) _
  have HQ := Aside0.mk (Blk.new w1 118 #[.int .i64 (i : Nat), .int .i64 (j : Nat), .int .i64 ((i : Int) + 1), .int .i64 (j : Nat), .int .i64 (i : Nat), .int .i64 ((j : Int) + 1)])
  have HB2 := Aside0.mk (below_then HB.out HB.out.size hb2)
  rw [hgq] at HQ ⊢
  clear hb2 HB
  generalize w1.alloc (.cells #[.int .i64 (i : Nat), .int .i64 (j : Nat), .int .i64 ((i : Int) + 1), .int .i64 (j : Nat), .int .i64 (i : Nat), .int .i64 ((j : Int) + 1)] 118) = W at *
  have ht2 := HT.out.later HB2.out
  have ht3 : Tri W.drew g n mb m l D := ht2.later (below_drew (Below.refl _ _))
  have HT3 := Aside0.mk ht3
  have HBd := Aside0.mk (show Below w.heap.size w W.drew from HB2.out.trans (below_drew (Below.refl _ _)))
  have e1 : W.drew.cell? ⟨g, 1, none⟩ = some (.map (some mb)) := ht3.hd.cell 1
  have c0 : W.drew.cell? ⟨gq, 0, none⟩ = some (.int .i64 (i : Nat)) := HQ.out.drew.cell 0
  have c1 : W.drew.cell? ⟨gq, 1, none⟩ = some (.int .i64 (j : Nat)) := HQ.out.drew.cell 1
  have c2 : W.drew.cell? ⟨gq, 2, none⟩ = some (.int .i64 ((i : Int) + 1)) := HQ.out.drew.cell 2
  have c3 : W.drew.cell? ⟨gq, 3, none⟩ = some (.int .i64 (j : Nat)) := HQ.out.drew.cell 3
  have c4 : W.drew.cell? ⟨gq, 4, none⟩ = some (.int .i64 (i : Nat)) := HQ.out.drew.cell 4
  have c5 : W.drew.cell? ⟨gq, 5, none⟩ = some (.int .i64 ((j : Int) + 1)) := HQ.out.drew.cell 5
  have l0 := tri_look ht3 (a := i) (b := j) (by have := HIJ.out; omega)
  have l1 := tri_look ht3 (a := i + 1) (b := j) (by have := HIJ.out; omega)
  have l2 := tri_look ht3 (a := i) (b := j + 1) (by have := HIJ.out; omega)
  push_cast at l0 l1 l2
  clear ht2 ht3
  have hcv := conv3
  obtain ⟨x0, hx0⟩ : ∃ x, colB n l (i) (j) = x := ⟨_, rfl⟩
  rw [hx0] at l0
  have HX0 := Aside0.mk hx0
  clear hx0
  obtain ⟨x1, hx1⟩ : ∃ x, colB n l (i + 1) (j) = x := ⟨_, rfl⟩
  rw [hx1] at l1
  have HX1 := Aside0.mk hx1
  clear hx1
  obtain ⟨x2, hx2⟩ : ∃ x, colB n l (i) (j + 1) = x := ⟨_, rfl⟩
  rw [hx2] at l2
  have HX2 := Aside0.mk hx2
  clear hx2
  go_still_tail 21, (by kernel_rfl)
  go_wp2_with fail
  go_ret
  exact ⟨by rw [HX0.out, HX1.out, HX2.out]; rfl, below_drew (below_alloc HB2.out _)⟩
set_option maxHeartbeats 6400000 in
set_option maxRecDepth 100000 in
theorem text_1 (g n mb m : Nat) (l : List UInt8) (D : DataW Unit) (i j : Nat) (w : World) (ht : Tri w g n mb m l D) (hij : i + j + 2 ≤ n) :
    Calls Tryd.prog 64 #[.pointer (some ⟨g, 0, none⟩), .agg #[.int .i64 1, .int .i64 (i : Nat), .int .i64 (j : Nat)]] w fun e w' => e = .returned (.string ⟨#[colB n l (i + 1) (j), colB n l (i) (j + 1), colB n l (i + 1) (j + 1)]⟩) ∧ Below w.heap.size w w' := by
  have HT := Aside0.mk ht
  have h20 := ht.n20
  have HP := Aside0.mk (fun w => points_1 i j w (by omega) (by omega))
  have HIJ := Aside0.mk hij
  clear ht hij h20
  go_enter Tryd.func64, Tryd.ntmps64
  go_wp2_with fail
  refine (HP.out _).mono ?_
  rintro e w1 ⟨rfl, hb1⟩
  have hb0 : Below w.heap.size w w1 := below_then (below_alloc (Below.refl _ _) _) (by simp) hb1
  have HB := Aside0.mk hb0
  clear hb0 hb1
  go_wp2_with fail
  obtain ⟨gq, hgq⟩ : ∃ gq, w1.heap.size = gq := ⟨_, rfl⟩
  have hb2 : Below w1.heap.size w1 (w1.alloc (.cells #[.int .i64 ((i : Int) + 1), .int .i64 (j : Nat), .int .i64 (i : Nat), .int .i64 ((j : Int) + 1), .int .i64 ((i : Int) + 1), .int .i64 ((j : Int) + 1)] 118)) := below_alloc (Below.refl _ _) _
  have HQ := Aside0.mk (Blk.new w1 118 #[.int .i64 ((i : Int) + 1), .int .i64 (j : Nat), .int .i64 (i : Nat), .int .i64 ((j : Int) + 1), .int .i64 ((i : Int) + 1), .int .i64 ((j : Int) + 1)])
  have HB2 := Aside0.mk (below_then HB.out HB.out.size hb2)
  rw [hgq] at HQ ⊢
  clear hb2 HB
  generalize w1.alloc (.cells #[.int .i64 ((i : Int) + 1), .int .i64 (j : Nat), .int .i64 (i : Nat), .int .i64 ((j : Int) + 1), .int .i64 ((i : Int) + 1), .int .i64 ((j : Int) + 1)] 118) = W at *
  have ht2 := HT.out.later HB2.out
  have ht3 : Tri W.drew g n mb m l D := ht2.later (below_drew (Below.refl _ _))
  have HT3 := Aside0.mk ht3
  have HBd := Aside0.mk (show Below w.heap.size w W.drew from HB2.out.trans (below_drew (Below.refl _ _)))
  have e1 : W.drew.cell? ⟨g, 1, none⟩ = some (.map (some mb)) := ht3.hd.cell 1
  have c0 : W.drew.cell? ⟨gq, 0, none⟩ = some (.int .i64 ((i : Int) + 1)) := HQ.out.drew.cell 0
  have c1 : W.drew.cell? ⟨gq, 1, none⟩ = some (.int .i64 (j : Nat)) := HQ.out.drew.cell 1
  have c2 : W.drew.cell? ⟨gq, 2, none⟩ = some (.int .i64 (i : Nat)) := HQ.out.drew.cell 2
  have c3 : W.drew.cell? ⟨gq, 3, none⟩ = some (.int .i64 ((j : Int) + 1)) := HQ.out.drew.cell 3
  have c4 : W.drew.cell? ⟨gq, 4, none⟩ = some (.int .i64 ((i : Int) + 1)) := HQ.out.drew.cell 4
  have c5 : W.drew.cell? ⟨gq, 5, none⟩ = some (.int .i64 ((j : Int) + 1)) := HQ.out.drew.cell 5
  have l0 := tri_look ht3 (a := i + 1) (b := j) (by have := HIJ.out; omega)
  have l1 := tri_look ht3 (a := i) (b := j + 1) (by have := HIJ.out; omega)
  have l2 := tri_look ht3 (a := i + 1) (b := j + 1) (by have := HIJ.out; omega)
  push_cast at l0 l1 l2
  clear ht2 ht3
  have hcv := conv3
  obtain ⟨x0, hx0⟩ : ∃ x, colB n l (i + 1) (j) = x := ⟨_, rfl⟩
  rw [hx0] at l0
  have HX0 := Aside0.mk hx0
  clear hx0
  obtain ⟨x1, hx1⟩ : ∃ x, colB n l (i) (j + 1) = x := ⟨_, rfl⟩
  rw [hx1] at l1
  have HX1 := Aside0.mk hx1
  clear hx1
  obtain ⟨x2, hx2⟩ : ∃ x, colB n l (i + 1) (j + 1) = x := ⟨_, rfl⟩
  rw [hx2] at l2
  have HX2 := Aside0.mk hx2
  clear hx2
  go_still_tail 21, (by kernel_rfl)
  go_wp2_with fail
  go_ret
  exact ⟨by rw [HX0.out, HX1.out, HX2.out]; rfl, below_drew (below_alloc HB2.out _)⟩
end Go.Proofs.YtlmgkmmdaecpdaaDoor.Im

namespace Go.Proofs.YtlmgkmmdaecpdaaDoor.Im
open Go.RowKit Go.Proofs.YtlmgkmmdaecpdaaDoorW.PrintWords Go.Proofs.YtlmgkmmdaecpdaaDoorW.PrintLast Go.Proofs.YtlmgkmmdaecpdaaDoorW.PrintMore Go.Proofs.YtlmgkmmdaecpdaaDoor.Mi
set_option linter.unusedVariables false
set_option linter.unusedSimpArgs false
def txtB (n : Nat) (l : List UInt8) (k i j : Nat) : ByteArray := if k = 0 then ⟨#[colB n l i j, colB n l (i + 1) j, colB n l i (j + 1)]⟩ else ⟨#[colB n l (i + 1) j, colB n l i (j + 1), colB n l (i + 1) (j + 1)]⟩
theorem text_any (g n mb m : Nat) (l : List UInt8) (D : DataW Unit) (k i j : Nat) (w : World) (ht : Tri w g n mb m l D) (hk : k ≤ 1) (hij : i + j + k + 1 ≤ n) :
    Calls Tryd.prog 64 #[.pointer (some ⟨g, 0, none⟩), .agg #[.int .i64 (k : Nat), .int .i64 (i : Nat), .int .i64 (j : Nat)]] w fun e w' => e = .returned (.string (txtB n l k i j)) ∧ Below w.heap.size w w' := by
  rcases (show k = 0 ∨ k = 1 by omega) with rfl | rfl
  · exact text_0 g n mb m l D i j w ht (by omega)
  · exact text_1 g n mb m l D i j w ht (by omega)
def hasB (s : ByteArray) (c : UInt8) : Bool := decide (0 ≤ Lib.indexByte s.data.toList c)
def fulB (s : ByteArray) : Bool := hasB s 48 && hasB s 49 && hasB s 50
theorem contains_one (s : ByteArray) (c : UInt8) (w : World) : Calls Tryd.prog 63 #[.string s, .string ⟨#[c]⟩] w fun e w' => e = .returned (.bool (hasB s c)) ∧ w' = w := Tryd.strings_Contains_one s c w
set_option maxHeartbeats 6400000 in
set_option maxRecDepth 100000 in
theorem full_any (g n mb m : Nat) (l : List UInt8) (D : DataW Unit) (k i j : Nat) (w : World) (ht : Tri w g n mb m l D) (hk : k ≤ 1) (hij : i + j + k + 1 ≤ n) :
    Calls Tryd.prog 60 #[.pointer (some ⟨g, 0, none⟩), .agg #[.int .i64 (k : Nat), .int .i64 (i : Nat), .int .i64 (j : Nat)]] w fun e w' => e = .returned (.bool (fulB (txtB n l k i j))) ∧ Below w.heap.size w w' := by
  have HT := Aside0.mk (fun w1 (hb : Below w.heap.size w w1) => text_any g n mb m l D k i j w1 (ht.later hb) hk hij)
  have H0 := Aside0.mk (contains_one (txtB n l k i j) 48)
  have H1 := Aside0.mk (contains_one (txtB n l k i j) 49)
  have H2 := Aside0.mk (contains_one (txtB n l k i j) 50)
  unfold fulB
  clear ht hk hij
  generalize txtB n l k i j = s at *
  obtain ⟨b0, e0⟩ : ∃ b, hasB s 48 = b := ⟨_, rfl⟩
  obtain ⟨b1, e1⟩ : ∃ b, hasB s 49 = b := ⟨_, rfl⟩
  obtain ⟨b2, e2⟩ : ∃ b, hasB s 50 = b := ⟨_, rfl⟩
  rw [e0] at H0
  rw [e1] at H1
  rw [e2] at H2
  have E0 := Aside0.mk e0
  have E1 := Aside0.mk e1
  have E2 := Aside0.mk e2
  clear e0 e1 e2
  cases b0
  · go_enter Tryd.func60, Tryd.ntmps60
    go_wp2_with fail
    refine (HT.out _ (below_alloc (Below.refl _ _) _)).mono ?_
    rintro e w1 ⟨rfl, hb1⟩
    have HB := Aside0.mk (below_then (below_alloc (Below.refl _ _) _) (by simp) hb1)
    clear hb1
    go_wp2_with fail
    refine (H0.out _).mono ?_
    rintro e w2 ⟨rfl, rfl⟩
    go_wp2_with fail
    go_ret
    exact ⟨by rw [E0.out, E1.out, E2.out]; simp, HB.out⟩
  · cases b1
    · go_enter Tryd.func60, Tryd.ntmps60
      go_wp2_with fail
      refine (HT.out _ (below_alloc (Below.refl _ _) _)).mono ?_
      rintro e w1 ⟨rfl, hb1⟩
      have HB := Aside0.mk (below_then (below_alloc (Below.refl _ _) _) (by simp) hb1)
      clear hb1
      go_wp2_with fail
      refine (H0.out _).mono ?_
      rintro e w2 ⟨rfl, rfl⟩
      go_wp2_with fail
      refine (H1.out _).mono ?_
      rintro e w2 ⟨rfl, rfl⟩
      go_wp2_with fail
      go_ret
      exact ⟨by rw [E0.out, E1.out, E2.out]; simp, HB.out⟩
    · go_enter Tryd.func60, Tryd.ntmps60
      go_wp2_with fail
      refine (HT.out _ (below_alloc (Below.refl _ _) _)).mono ?_
      rintro e w1 ⟨rfl, hb1⟩
      have HB := Aside0.mk (below_then (below_alloc (Below.refl _ _) _) (by simp) hb1)
      clear hb1
      go_wp2_with fail
      refine (H0.out _).mono ?_
      rintro e w2 ⟨rfl, rfl⟩
      go_wp2_with fail
      refine (H1.out _).mono ?_
      rintro e w2 ⟨rfl, rfl⟩
      go_wp2_with fail
      refine (H2.out _).mono ?_
      rintro e w2 ⟨rfl, rfl⟩
      go_wp2_with fail
      go_ret
      exact ⟨by rw [E0.out, E1.out, E2.out]; simp, HB.out⟩
end Go.Proofs.YtlmgkmmdaecpdaaDoor.Im

namespace Go.Proofs.YtlmgkmmdaecpdaaDoor.Im
open Go.RowKit Go.Proofs.YtlmgkmmdaecpdaaDoorW.PrintWords Go.Proofs.YtlmgkmmdaecpdaaDoorW.PrintLast Go.Proofs.YtlmgkmmdaecpdaaDoorW.PrintMore Go.Proofs.YtlmgkmmdaecpdaaDoor.Mi
set_option linter.unusedVariables false
set_option linter.unusedSimpArgs false
theorem info81' : (Tryd.prog.info? 81).map (fun i => (i.zero, i.size, i.bytes)) = some (some (.agg #[(.int .i64 0), (.int .i64 0), (.int .i64 0)]), 3, 24) := by kernel_rfl
def cel (k i j : Nat) : S77 := ⟨(k : Int), (i : Int), (j : Int)⟩
def celR (k i m : Nat) : List S77 := (List.range m).map (cel k i)
def celI (n k m : Nat) : List S77 := (List.range m).flatMap fun i => celR k i (n - k - i)
def celK (n m : Nat) : List S77 := (List.range m).flatMap fun k => celI n k (n - k)
def cellsL (n : Nat) : List S77 := celK n 2
theorem celR_succ (k i m : Nat) : celR k i (m + 1) = celR k i m ++ [cel k i m] := by unfold celR; rw [List.range_succ, List.map_append]; rfl
theorem celI_succ (n k m : Nat) : celI n k (m + 1) = celI n k m ++ celR k m (n - k - m) := by unfold celI; rw [List.range_succ, List.flatMap_append]; simp
theorem celK_succ (n m : Nat) : celK n (m + 1) = celK n m ++ celI n m (n - m) := by unfold celK; rw [List.range_succ, List.flatMap_append]; simp
theorem celR_len (k i m : Nat) : (celR k i m).length = m := by unfold celR; simp
theorem celI_len {n : Nat} (hn : n ≤ 20) (k : Nat) : ∀ m, (celI n k m).length ≤ m * 20
  | 0 => by simp [celI]
  | m + 1 => by
    rw [celI_succ, List.length_append, celR_len]
    have := celI_len hn k m
    omega
theorem celK_len {n : Nat} (hn : n ≤ 20) : ∀ m, (celK n m).length ≤ m * 400
  | 0 => by simp [celK]
  | m + 1 => by
    rw [celK_succ, List.length_append]
    have := celK_len hn m
    have := celI_len hn m (n - m)
    omega
theorem mem_cells {n : Nat} {x : S77} : x ∈ cellsL n ↔ ∃ k i j : Nat, k ≤ 1 ∧ i + j + k + 1 ≤ n ∧ x = cel k i j := by
  unfold cellsL celK celI celR
  simp only [List.mem_flatMap, List.mem_range, List.mem_map]
  constructor
  · rintro ⟨k, hk, i, hi, j, hj, rfl⟩
    exact ⟨k, i, j, by omega, by omega, rfl⟩
  · rintro ⟨k, i, j, h1, h2, rfl⟩
    exact ⟨k, by omega, i, by omega, j, by omega, rfl⟩
set_option maxHeartbeats 6400000 in
set_option maxRecDepth 100000 in
theorem cells_any (g n : Nat) (mv : Value) (w : World) (hg : Blk w g 117 #[.int .i64 n, mv]) (h1 : 1 ≤ n) (h20 : n ≤ 20) :
    Calls Tryd.prog 59 #[.pointer (some ⟨g, 0, none⟩)] w fun e w' => ∃ v, e = .returned v ∧ Kd.R k77 81 w' w.heap.size (fun _ => True) v (cellsL n) ∧ Below w.heap.size w w' := by
  have HG := Aside0.mk hg
  have H20 := Aside0.mk h20
  clear hg
  go_enter Tryd.func59, Tryd.ntmps59
  go_wp2_with fail
  go_loopw [3, 7] (fun v3 v7 wr => ∃ k : Nat, k ≤ 2 ∧ v7 = .int .i64 (k : Int) ∧ Aside0 (Kd.R k77 81 wr w.heap.size (fun _ => True) v3 (celK n k)) ∧ Aside0 (Below w.heap.size w wr)) (fun _ v _ => 2 - (intOf v).toNat)
  case atStart => exact ⟨0, Nat.zero_le _, rfl, ⟨Kd.R_nil _ _ _ _ _⟩, ⟨Below.refl _ _⟩⟩
  case round =>
    obtain ⟨k, hk, rfl, HR, HB⟩ := hrel
    by_cases hk2 : k < 2
    · have hdk : decide ((k : Int) < 2) = true := decide_eq_true (by omega)
      have cg : wr.cell? ⟨g, 0, none⟩ = some (.int .i64 (n : Nat)) := (HG.out.later HB.out).cell 0
      go_wp2_with fail
      go_loopw [3, 16] (fun v3 v16 wr => ∃ i : Nat, i ≤ n - k ∧ v16 = .int .i64 (i : Int) ∧ Aside0 (Kd.R k77 81 wr w.heap.size (fun _ => True) v3 (celK n k ++ celI n k i)) ∧ Aside0 (Below w.heap.size w wr)) (fun _ v _ => n - k - (intOf v).toNat)
      case atStart => exact ⟨0, Nat.zero_le _, rfl, ⟨by rw [show celI n k 0 = [] from rfl, List.append_nil]; exact HR.out⟩, HB⟩
      case round =>
        clear HR HB cg
        obtain ⟨i, hi, rfl, HR, HB⟩ := hrel
        by_cases hik : i < n - k
        · have hdi : decide ((i : Int) < (n : Int) - (k : Int)) = true := decide_eq_true (by omega)
          have cg : wr.cell? ⟨g, 0, none⟩ = some (.int .i64 (n : Nat)) := (HG.out.later HB.out).cell 0
          go_wp2_with fail
          go_loopw [3, 27] (fun v3 v27 wr => ∃ j : Nat, j ≤ n - k - i ∧ v27 = .int .i64 (j : Int) ∧ Aside0 (Kd.R k77 81 wr w.heap.size (fun _ => True) v3 (celK n k ++ celI n k i ++ celR k i j)) ∧ Aside0 (Below w.heap.size w wr)) (fun _ v _ => n - k - i - (intOf v).toNat)
          case atStart => exact ⟨0, Nat.zero_le _, rfl, ⟨by rw [show celR k i 0 = [] from rfl, List.append_nil]; exact HR.out⟩, HB⟩
          case round =>
            clear HR HB cg
            obtain ⟨j, hj, rfl, HR, HB⟩ := hrel
            by_cases hjk : j < n - k - i
            · have hlen : (celK n k ++ celI n k i ++ celR k i j).length ≤ 3000 := by
                rw [List.length_append, List.length_append, celR_len]
                have h1 := celK_len (n := n) H20.out k
                have h2 := celI_len (n := n) H20.out k i
                have := H20.out
                omega
              have HL := Aside0.mk hlen
              have hdj : decide ((j : Int) < (n : Int) - (k : Int) - (i : Int)) = true := decide_eq_true (by omega)
              clear hlen
              go_wp2_with (first | ((with_reducible refine gate_builtin (b := .append) (xs := #[.tmp 30, .tmp 35]) rfl ?_); at_builtin; refine Kd.R_append k77 (w0 := w) w.heap.size rfl (.tmp 30) (.tmp 35) 78 81 (.agg #[(.int .i64 0), (.int .i64 0), (.int .i64 0)]) 24 rfl Tryd.underlying78 info81' rfl (by decide) (by omega) u3 (celK n k ++ celI n k i ++ celR k i j) (cel k i j) [.int .i64 (k : Nat), .int .i64 (i : Nat), .int .i64 (j : Nat)] (fun _ => True) (fun _ => False) rfl rfl (k77_mkM _ _ _ (cel k i j)) (fun _ hk => hk.elim) (fun _ _ => trivial) ?aO ?aB ?aS ?aL ?_; (case aO => (with_reducible repeat (first | apply Kd.R_alloc | apply Kd.R_drewN | apply Kd.R_drew)); exact HR.out); (case aB => (repeat (first | (with_reducible first | exact HB.out | apply below_alloc | apply pw_below_drewN | apply below_drew1) | exact HB.out))); (case aS => exact below_size (by repeat (first | (with_reducible first | exact HB.out | apply below_alloc | apply pw_below_drewN | apply below_drew1) | exact HB.out))); (case aL => have := HL.out; omega); intro v9 w9 ho hb hg hat; have HO9 := Aside0.mk ho; have HB9 := Aside0.mk hb; clear ho hb hg hat))
              go_roundw
              case rel => exact ⟨j + 1, by omega, by go_num, ⟨by rw [celR_succ, ← List.append_assoc]; exact HO9.out⟩, HB9⟩
              case measure => simp [intOf]; omega
            · obtain rfl : j = n - k - i := by omega
              have hR := HR.out
              rw [List.append_assoc, ← celI_succ] at hR
              have HR2 := Aside0.mk hR
              have hdj : decide (((n - k - i : Nat) : Int) < (n : Int) - (k : Int) - (i : Int)) = false := decide_eq_false (by omega)
              clear hR
              go_wp2_with fail
              go_roundw
              case rel => exact ⟨i + 1, hik, by go_num, HR2, HB⟩
              case measure => simp [intOf]; omega
        · obtain rfl : i = n - k := by omega
          have hR := HR.out
          rw [← celK_succ] at hR
          have HR2 := Aside0.mk hR
          have hdi : decide (((n - k : Nat) : Int) < (n : Int) - (k : Int)) = false := decide_eq_false (by omega)
          clear hR
          go_wp2_with fail
          go_roundw
          case rel => exact ⟨k + 1, by omega, by go_num, HR2, HB⟩
          case measure => simp [intOf]; omega
    · obtain rfl : k = 2 := by omega
      go_wp2_with fail
      go_ret
      exact ⟨_, rfl, HR.out, HB.out⟩
end Go.Proofs.YtlmgkmmdaecpdaaDoor.Im

namespace Go.Proofs.YtlmgkmmdaecpdaaDoor.Im
open Go.RowKit Go.Proofs.YtlmgkmmdaecpdaaDoorW.PrintWords Go.Proofs.YtlmgkmmdaecpdaaDoorW.PrintLast Go.Proofs.YtlmgkmmdaecpdaaDoorW.PrintMore Go.Proofs.YtlmgkmmdaecpdaaDoor.Mi
set_option linter.unusedVariables false
set_option linter.unusedSimpArgs false
def fulC (n : Nat) (l : List UInt8) (x : S77) : Bool := fulB (txtB n l x.f0.toNat x.f1.toNat x.f2.toNat)
def cel3 (x : S77) : List Int := [x.f0, x.f1, x.f2]
def fulL (n : Nat) (l : List UInt8) : List (List Int) := ((cellsL n).filter (fulC n l)).map cel3
def fulT (n : Nat) (l : List UInt8) (q : Nat) : List (List Int) := (((cellsL n).take q).filter (fulC n l)).map cel3
theorem fulT_succ (n : Nat) (l : List UInt8) {q : Nat} (h : q < (cellsL n).length) : fulT n l (q + 1) = fulT n l q ++ (if fulC n l (cellsL n)[q] = true then [cel3 (cellsL n)[q]] else []) := by
  unfold fulT
  rw [List.take_succ_eq_append_getElem h, List.filter_append, List.map_append]
  congr 1
  by_cases hc : fulC n l (cellsL n)[q] = true
  · rw [if_pos hc, List.filter_cons_of_pos hc]; rfl
  · rw [if_neg hc, List.filter_cons_of_neg hc]; rfl
theorem fulT_all (n : Nat) (l : List UInt8) : fulT n l (cellsL n).length = fulL n l := by unfold fulT fulL; rw [List.take_length]
theorem clone_any (gc : Nat) (t : TypeId) (a b c : Int) (w : World) (h : Blk w gc t #[.int .i64 a, .int .i64 b, .int .i64 c]) :
    Calls Tryd.prog 61 #[.slice (some ⟨gc, 0, none⟩) 3 3] w fun e w' => ∃ v', e = .returned v' ∧ Kd.R (Kd.int .i64) 3 w' w.heap.size (fun q => w.heap.size ≤ q) v' [a, b, c] ∧ Below w.heap.size w w' := by
  refine (Tryd.slices_Clone_int gc 0 3 3 [a, b, c] w (by simp) (by omega) (fun j hj => ?_)).mono ?_
  · rw [Nat.zero_add, h.cell]
    have hj3 : j < 3 := hj
    match j, hj3 with
    | 0, _ => rfl
    | 1, _ => rfl
    | 2, _ => rfl
  · rintro e w' ⟨v', rfl, ho, _, hb⟩
    refine ⟨v', rfl, Kd.R_of_own ?_ (fun k hk => (World.ownsRow.lt ho k hk).1), hb⟩
    have e1 : encs (Value.int .i64) [a, b, c] = ([a, b, c].take 3).map (Value.int .i64) := by simp [encs]
    rw [e1]
    exact ho
theorem infoII : (Tryd.prog.info? 34).map (fun i => (i.zero, i.size, i.bytes)) = some (some (.slice none 0 0), 1, 24) := by kernel_rfl
theorem fulT_len (n : Nat) (l : List UInt8) (q : Nat) : (fulT n l q).length ≤ (cellsL n).length := by
  unfold fulT
  rw [List.length_map]
  exact Nat.le_trans (List.length_filter_le _ _) (by rw [List.length_take]; omega)
def FullPost (n : Int) (s : ByteArray) (w : World) (e : Ending) (w' : World) : Prop :=
  Below w.heap.size w w' ∧ if triE n s = 0 then ∃ v, e = .returned (.tuple #[v, .int .i64 0]) ∧ Kd.R (Kd.slice 3 (Kd.int .i64)) 34 w' w.heap.size (fun _ => True) v (fulL n.toNat s.data.toList)
    else e = .returned (.tuple #[.slice none 0 0, .int .i64 (triE n s)])
set_option maxHeartbeats 6400000 in
set_option maxRecDepth 100000 in
theorem full_bad (n : Int) (s : ByteArray) (w : World) (hs : s.size ≤ 9223372036854775807) (hE : triE n s ≠ 0) :
    Calls Tryd.prog 28 #[.int .i64 n, .string s] w (FullPost n s w) := by
  have HO := Aside0.mk (of_any n s w hs)
  have HP : Aside0 (∀ w', Below w.heap.size w w' → FullPost n s w (.returned (.tuple #[.slice none 0 0, .int .i64 (triE n s)])) w') := ⟨fun w' hb => ⟨hb, by rw [if_neg hE]⟩⟩
  have HQ := Aside0.mk (fun e w2 (h : OfPost n s w e w2) => (show e = .returned (.tuple #[.pointer none, .int .i64 (triE n s)]) ∧ Below w.heap.size w w2 by
    unfold OfPost at h
    rw [if_neg hE] at h
    exact ⟨h.2, h.1⟩))
  have hz : (triE n s == 0) = false := beq_eq_false_iff_ne.2 hE
  clear hE
  generalize triE n s = z at *
  go_enter Tryd.func28, Tryd.ntmps28
  go_wp2_with fail
  refine HO.out.mono ?_
  intro e w1 h1
  obtain ⟨rfl, hb1⟩ := HQ.out _ _ h1
  have HB := Aside0.mk hb1
  clear h1 hb1
  go_wp2_with fail
  go_ret2
  exact HP.out _ HB.out
end Go.Proofs.YtlmgkmmdaecpdaaDoor.Im

namespace Go.Proofs.YtlmgkmmdaecpdaaDoor.Im
open Go.RowKit Go.Proofs.YtlmgkmmdaecpdaaDoorW.PrintWords Go.Proofs.YtlmgkmmdaecpdaaDoorW.PrintLast Go.Proofs.YtlmgkmmdaecpdaaDoorW.PrintMore Go.Proofs.YtlmgkmmdaecpdaaDoor.Mi
set_option linter.unusedVariables false
set_option linter.unusedSimpArgs false
set_option maxHeartbeats 6400000 in
set_option maxRecDepth 100000 in
theorem full_good (n : Int) (s : ByteArray) (w : World) (hs : s.size ≤ 9223372036854775807) (hE : triE n s = 0) :
    Calls Tryd.prog 28 #[.int .i64 n, .string s] w (FullPost n s w) := by
  have HO := Aside0.mk (of_any n s w hs)
  have HE := Aside0.mk hE
  clear hE
  obtain ⟨l, hl⟩ : ∃ l, s.data.toList = l := ⟨_, rfl⟩
  have HLs := Aside0.mk hl
  clear hl
  go_enter Tryd.func28, Tryd.ntmps28
  go_wp2_with fail
  refine HO.out.mono ?_
  rintro e w1 ⟨hb1, h1⟩
  rw [if_pos HE.out] at h1
  obtain ⟨g, mb, m, D, rfl, ht, _, _⟩ := h1
  have hn1 := ht.n1
  obtain ⟨N, rfl⟩ : ∃ N : Nat, n = N := ⟨n.toNat, by omega⟩
  rw [Int.toNat_natCast, HLs.out] at ht
  have HT := Aside0.mk ht
  have HB := Aside0.mk hb1
  have h20 := ht.n20
  rw [Int.toNat_natCast] at hn1
  have HCe := Aside0.mk (cells_any g N (.map (some mb)) w1 ht.hd hn1 h20)
  clear ht hb1 h20 HO
  go_wp2_with fail
  refine HCe.out.mono ?_
  rintro e w2 ⟨v, rfl, hR, hb2⟩
  obtain ⟨A, c, rfl, hl, hC⟩ := Kd.R_reads hR
  have HC := Aside0.mk hC
  have HB2 := Aside0.mk (below_then HB.out HB.out.size hb2)
  have HT2 := Aside0.mk (HT.out.later hb2)
  have hlen : (cellsL N).length ≤ 800 := by have := celK_len (n := N) HT.out.n20 2; unfold cellsL; omega
  clear hC hb2 hR HT HB HCe
  obtain ⟨Q, hQ⟩ : ∃ Q, (cellsL N).length = Q := ⟨_, rfl⟩
  rw [hQ] at HC hl hlen ⊢
  have HQ := Aside0.mk hQ
  clear hQ
  go_wp2_with fail
  go_loopw [8, 23] (fun v8 v23 wr => ∃ q : Nat, q ≤ Q ∧ v23 = .int .i64 (q : Int) ∧ Aside0 (Kd.R (Kd.slice 3 (Kd.int .i64)) 34 wr w2.heap.size (fun _ => True) v8 (fulT N l q)) ∧ Aside0 (Below w2.heap.size w2 wr)) (fun _ v _ => Q - (intOf v).toNat)
  case atStart => exact ⟨0, Nat.zero_le _, rfl, ⟨Kd.R_nil _ _ _ _ _⟩, ⟨Below.refl _ _⟩⟩
  case round =>
    obtain ⟨q, hq, rfl, HR, HBr⟩ := hrel
    by_cases hqQ : q < Q
    · have q0 : (0 : Int) ≤ (q : Int) := Int.natCast_nonneg q
      have q1 : (q : Int) < (Q : Int) := Int.ofNat_lt.2 hqQ
      obtain ⟨ad, rfl, c0, c1, c2⟩ := at_T77 (Kd.C_below HC.out HBr.out) (q : Int) q0 q1
      rw [Int.toNat_natCast] at c0 c1 c2
      have hlt : q < (cellsL N).length := by rw [HQ.out]; exact hqQ
      have hrd : rd_T77 (cellsL N) (q : Int) = (cellsL N)[q] := by
        unfold rd_T77
        rw [Int.toNat_natCast, List.getD_eq_getElem?_getD, List.getElem?_eq_getElem hlt]; rfl
      obtain ⟨k, i, j, hk, hij, hx⟩ := mem_cells.1 (List.getElem_mem hlt)
      rw [hrd, hx] at c0 c1 c2
      change wr.cell? (ad.add (q * 3)) = some (.int .i64 (k : Int)) at c0
      change wr.cell? ⟨(ad.add (q * 3)).block, (ad.add (q * 3)).off + 1, none⟩ = some (.int .i64 (i : Int)) at c1
      change wr.cell? ⟨(ad.add (q * 3)).block, (ad.add (q * 3)).off + 2, none⟩ = some (.int .i64 (j : Int)) at c2
      have hsuc := fulT_succ N l hlt
      rw [hx] at hsuc
      have HSuc := Aside0.mk hsuc
      clear hsuc hrd hx hlt
      go_wp2_with fail
      have hbn : Below wr.heap.size wr (wr.alloc (.cells #[.int .i64 (k : Nat), .int .i64 (i : Nat), .int .i64 (j : Nat)] 81)) := below_alloc (Below.refl _ _) _
      have HN := Aside0.mk (Blk.new wr 81 #[.int .i64 (k : Nat), .int .i64 (i : Nat), .int .i64 (j : Nat)])
      have HF := Aside0.mk (full_any g N mb m l D k i j _ ((HT2.out.later HBr.out).later hbn) hk hij)
      have HB3 := Aside0.mk (below_then HBr.out HBr.out.size hbn)
      have hfc : fulC N l (cel k i j) = fulB (txtB N l k i j) := rfl
      rw [hfc] at HSuc
      have HBn := Aside0.mk hbn
      clear hbn hfc c0 c1 c2
      obtain ⟨bb, hbb⟩ : ∃ bb, fulB (txtB N l k i j) = bb := ⟨_, rfl⟩
      rw [hbb] at HF HSuc
      clear hbb
      refine HF.out.mono ?_
      rintro e w3 ⟨rfl, hb3⟩
      have HB4 := Aside0.mk (below_then HB3.out HB3.out.size hb3)
      have HN3 := Aside0.mk (HN.out.later hb3)
      obtain ⟨gc, hgc⟩ : ∃ gc, wr.heap.size = gc := ⟨_, rfl⟩
      rw [hgc] at HN3 ⊢
      have HRb := Aside0.mk (Kd.R_below HR.out (show Below wr.heap.size wr w3 from below_then HBn.out HBn.out.size hb3))
      clear hb3 HF HN HB3
      cases bb with
      | false =>
        have hS := HSuc.out
        rw [if_neg (by simp), List.append_nil] at hS
        have HS := Aside0.mk hS
        clear hS
        go_wp2_with fail
        go_roundw
        case rel => exact ⟨q + 1, hqQ, by go_num, ⟨by rw [HS.out]; exact HRb.out⟩, HB4⟩
        case measure => simp [intOf]; omega
      | true =>
        have hS := HSuc.out
        rw [if_pos rfl] at hS
        have HS := Aside0.mk hS
        have HCl := Aside0.mk (clone_any gc 81 _ _ _ w3 HN3.out)
        clear hS
        go_wp2_with fail
        refine HCl.out.mono ?_
        rintro e w4 ⟨vc, rfl, hRc, hb4⟩
        have HRR := Aside0.mk (Kd.R_bound HRb.out)
        have HR4 := Aside0.mk (Kd.R_below HRb.out hb4)
        have HB5 := Aside0.mk (below_then HB2.out HB2.out.size (below_then HB4.out HB4.out.size hb4))
        have HB6 := Aside0.mk (below_then HB4.out HB4.out.size hb4)
        have hw3 : w2.heap.size ≤ w3.heap.size := HB4.out.size
        obtain ⟨G, cG, hv, _⟩ := Kd.R_form hRc (by simp)
        replace hv : vc = .slice (some ⟨G, 0, none⟩) 3 cG := hv
        subst hv
        have HRc := Aside0.mk (Kd.R_lower hRc hw3)
        have HLN : Aside0 ((fulT N l q).length ≤ 800) := ⟨Nat.le_trans (fulT_len N l q) (by rw [HQ.out]; exact hlen)⟩
        clear hRc hb4 hw3
        go_wp2_with (first | ((with_reducible refine gate_builtin (b := .append) (xs := #[.tmp 30, .tmp 33]) rfl ?_); at_builtin; refine Kd.R_append (Kd.slice 3 (Kd.int .i64)) (w0 := w2) w2.heap.size rfl (.tmp 30) (.tmp 33) 40 34 (.slice none 0 0) 24 rfl Tryd.underlying40 infoII rfl (by decide) (by omega) _ (fulT N l q) (cel3 (cel k i j)) [.slice (some ⟨G, 0, none⟩) 3 cG] (fun _ => True) (fun q => w3.heap.size ≤ q) rfl rfl ?aP ?aK ?aF ?aO ?aB ?aS ?aL ?_; (case aP => exact ⟨_, rfl, HRc.out⟩); (case aK => exact (fun q hq => ⟨trivial, fun he => by have := (HRR.out.1 q he.symm).2.2.1; omega⟩)); (case aF => exact (fun k hk => trivial)); (case aO => exact HR4.out); (case aB => exact HB6.out); (case aS => exact HB6.out.size); (case aL => have := HLN.out; omega); intro v9 w9 ho hb hg hat; rw [← HS.out] at ho; have HR9 := Aside0.mk ho; have HB9 := Aside0.mk hb; clear ho hb hg hat))
        go_roundw
        case rel => exact ⟨q + 1, hqQ, by go_num, HR9, HB9⟩
        case measure => simp [intOf]; omega
    · obtain rfl : q = Q := by omega
      have hR := HR.out
      rw [← HQ.out, fulT_all] at hR
      have HR2 := Aside0.mk (Kd.R_lower hR HB2.out.size)
      clear hR
      go_wp2_with fail
      go_ret2
      refine ⟨below_then HB2.out HB2.out.size HBr.out, ?_⟩
      rw [if_pos HE.out]
      exact ⟨_, rfl, by rw [Int.toNat_natCast, HLs.out]; exact HR2.out⟩
theorem full_call (n : Int) (s : ByteArray) (w : World) (hs : s.size ≤ 9223372036854775807) : Calls Tryd.prog 28 #[.int .i64 n, .string s] w (FullPost n s w) := by
  by_cases hE : triE n s = 0
  · exact full_good n s w hs hE
  · exact full_bad n s w hs hE
end Go.Proofs.YtlmgkmmdaecpdaaDoor.Im

namespace Go.Proofs.YtlmgkmmdaecpdaaDoor.Im
open Go.RowKit Go.Proofs.YtlmgkmmdaecpdaaDoorW.PrintWords Go.Proofs.YtlmgkmmdaecpdaaDoorW.PrintLast Go.Proofs.YtlmgkmmdaecpdaaDoorW.PrintMore Go.Proofs.YtlmgkmmdaecpdaaDoor.Mi
set_option linter.unusedVariables false
set_option linter.unusedSimpArgs false
def turB (s : ByteArray) (k : Nat) : Bool := Lib.contains [48, 49, 50, 48, 49] s.data.toList == decide (k = 0)
def turC (n : Nat) (l : List UInt8) (x : S77) : Bool := turB (txtB n l x.f0.toNat x.f1.toNat x.f2.toNat) x.f0.toNat
def rigN (n : Nat) (l : List UInt8) (q : Nat) : Nat := ((cellsL n).take q).countP fun x => fulC n l x && turC n l x
def lefN (n : Nat) (l : List UInt8) (q : Nat) : Nat := ((cellsL n).take q).countP fun x => fulC n l x && !turC n l x
def rigL (n : Nat) (l : List UInt8) : Nat := (cellsL n).countP fun x => fulC n l x && turC n l x
def lefL (n : Nat) (l : List UInt8) : Nat := (cellsL n).countP fun x => fulC n l x && !turC n l x
theorem rigN_all (n : Nat) (l : List UInt8) : rigN n l (cellsL n).length = rigL n l := by unfold rigN rigL; rw [List.take_length]
theorem lefN_all (n : Nat) (l : List UInt8) : lefN n l (cellsL n).length = lefL n l := by unfold lefN lefL; rw [List.take_length]
theorem rigN_succ (n : Nat) (l : List UInt8) {q : Nat} (h : q < (cellsL n).length) : rigN n l (q + 1) = rigN n l q + (if (fulC n l (cellsL n)[q] && turC n l (cellsL n)[q]) = true then 1 else 0) := by
  unfold rigN
  rw [List.take_succ_eq_append_getElem h, List.countP_append, List.countP_singleton]
theorem lefN_succ (n : Nat) (l : List UInt8) {q : Nat} (h : q < (cellsL n).length) : lefN n l (q + 1) = lefN n l q + (if (fulC n l (cellsL n)[q] && !turC n l (cellsL n)[q]) = true then 1 else 0) := by
  unfold lefN
  rw [List.take_succ_eq_append_getElem h, List.countP_append, List.countP_singleton]
theorem rigN_le (n : Nat) (l : List UInt8) (q : Nat) : rigN n l q ≤ (cellsL n).length := Nat.le_trans List.countP_le_length (by rw [List.length_take]; omega)
theorem lefN_le (n : Nat) (l : List UInt8) (q : Nat) : lefN n l q ≤ (cellsL n).length := Nat.le_trans List.countP_le_length (by rw [List.length_take]; omega)
def TurnsPost (n : Int) (s : ByteArray) (w : World) (e : Ending) (w' : World) : Prop :=
  Below w.heap.size w w' ∧ e = if triE n s = 0 then .returned (.tuple #[.int .i64 (rigL n.toNat s.data.toList : Nat), .int .i64 (lefL n.toNat s.data.toList : Nat), .int .i64 0])
    else .returned (.tuple #[.int .i64 0, .int .i64 0, .int .i64 (triE n s)])
set_option maxHeartbeats 6400000 in
set_option maxRecDepth 100000 in
theorem turns_good (n : Int) (s : ByteArray) (w : World) (hs : s.size ≤ 9223372036854775807) (hE : triE n s = 0) (mL : Int) (hm : w.cell? ⟨1, 0, none⟩ = some (.int .i64 mL)) :
    Calls Tryd.prog 31 #[.int .i64 n, .string s] w (TurnsPost n s w) := by
  have HO := Aside0.mk (of_any n s w hs)
  have HE := Aside0.mk hE
  have HM := Aside0.mk hm
  clear hE hm
  obtain ⟨l, hl⟩ : ∃ l, s.data.toList = l := ⟨_, rfl⟩
  have HLs := Aside0.mk hl
  clear hl
  go_enter Tryd.func31, Tryd.ntmps31
  go_wp2_with fail
  refine HO.out.mono ?_
  rintro e w1 ⟨hb1, h1⟩
  rw [if_pos HE.out] at h1
  obtain ⟨g, mb, m, D, rfl, ht, _, _⟩ := h1
  have hn1 := ht.n1
  obtain ⟨N, rfl⟩ : ∃ N : Nat, n = N := ⟨n.toNat, by omega⟩
  rw [Int.toNat_natCast, HLs.out] at ht
  have HT := Aside0.mk ht
  have HB := Aside0.mk hb1
  have h20 := ht.n20
  rw [Int.toNat_natCast] at hn1
  have HCe := Aside0.mk (cells_any g N (.map (some mb)) w1 ht.hd hn1 h20)
  clear ht hb1 h20 HO
  go_wp2_with fail
  refine HCe.out.mono ?_
  rintro e w2 ⟨v, rfl, hR, hb2⟩
  obtain ⟨A, c, rfl, hl, hC⟩ := Kd.R_reads hR
  have HC := Aside0.mk hC
  have HB2 := Aside0.mk (below_then HB.out HB.out.size hb2)
  have HT2 := Aside0.mk (HT.out.later hb2)
  have hlen : (cellsL N).length ≤ 800 := by have := celK_len (n := N) HT.out.n20 2; unfold cellsL; omega
  clear hC hb2 hR HT HB HCe
  obtain ⟨Q, hQ⟩ : ∃ Q, (cellsL N).length = Q := ⟨_, rfl⟩
  rw [hQ] at HC hl hlen ⊢
  have HQ := Aside0.mk hQ
  clear hQ
  go_wp2_with fail
  go_loopw [9, 10, 26] (fun v9 v10 v26 wr => ∃ q : Nat, q ≤ Q ∧ v26 = .int .i64 (q : Int) ∧ v9 = .int .i64 (rigN N l q : Nat) ∧ v10 = .int .i64 (lefN N l q : Nat) ∧ Aside0 (Below w2.heap.size w2 wr)) (fun _ _ v _ => Q - (intOf v).toNat)
  case atStart => exact ⟨0, Nat.zero_le _, rfl, rfl, rfl, ⟨Below.refl _ _⟩⟩
  case round =>
    obtain ⟨q, hq, rfl, rfl, rfl, HBr⟩ := hrel
    by_cases hqQ : q < Q
    · have q0 : (0 : Int) ≤ (q : Int) := Int.natCast_nonneg q
      have q1 : (q : Int) < (Q : Int) := Int.ofNat_lt.2 hqQ
      obtain ⟨ad, rfl, c0, c1, c2⟩ := at_T77 (Kd.C_below HC.out HBr.out) (q : Int) q0 q1
      rw [Int.toNat_natCast] at c0 c1 c2
      have hlt : q < (cellsL N).length := by rw [HQ.out]; exact hqQ
      have hrd : rd_T77 (cellsL N) (q : Int) = (cellsL N)[q] := by
        unfold rd_T77
        rw [Int.toNat_natCast, List.getD_eq_getElem?_getD, List.getElem?_eq_getElem hlt]; rfl
      obtain ⟨k, i, j, hk, hij, hx⟩ := mem_cells.1 (List.getElem_mem hlt)
      rw [hrd, hx] at c0 c1 c2
      change wr.cell? (ad.add (q * 3)) = some (.int .i64 (k : Int)) at c0
      change wr.cell? ⟨(ad.add (q * 3)).block, (ad.add (q * 3)).off + 1, none⟩ = some (.int .i64 (i : Int)) at c1
      change wr.cell? ⟨(ad.add (q * 3)).block, (ad.add (q * 3)).off + 2, none⟩ = some (.int .i64 (j : Int)) at c2
      have hsr := rigN_succ N l hlt
      have hsl := lefN_succ N l hlt
      rw [hx] at hsr hsl
      have HSR := Aside0.mk hsr
      have HSL := Aside0.mk hsl
      clear hsr hsl hrd hx hlt
      go_wp2_with fail
      have hbn : Below wr.heap.size wr (wr.alloc (.cells #[.int .i64 (k : Nat), .int .i64 (i : Nat), .int .i64 (j : Nat)] 81)) := below_alloc (Below.refl _ _) _
      have HN := Aside0.mk (Blk.new wr 81 #[.int .i64 (k : Nat), .int .i64 (i : Nat), .int .i64 (j : Nat)])
      have HF := Aside0.mk (full_any g N mb m l D k i j _ ((HT2.out.later HBr.out).later hbn) hk hij)
      have HB3 := Aside0.mk (below_then HBr.out HBr.out.size hbn)
      have hfc : fulC N l (cel k i j) = fulB (txtB N l k i j) := rfl
      rw [hfc] at HSR HSL
      have HBn := Aside0.mk hbn
      clear hbn hfc c0 c1 c2
      obtain ⟨bb, hbb⟩ : ∃ bb, fulB (txtB N l k i j) = bb := ⟨_, rfl⟩
      rw [hbb] at HF HSR HSL
      clear hbb
      refine HF.out.mono ?_
      rintro e w3 ⟨rfl, hb3⟩
      have HT4 := Aside0.mk (HT2.out.later (below_then HB3.out HB3.out.size hb3))
      have HB4 := Aside0.mk (below_then HB3.out HB3.out.size hb3)
      have HN3 := Aside0.mk (HN.out.later hb3)
      obtain ⟨gc, hgc⟩ : ∃ gc, wr.heap.size = gc := ⟨_, rfl⟩
      rw [hgc] at HN3 ⊢
      clear hb3 HF HN HB3
      have lr := rigN_le N l q
      have ll := lefN_le N l q
      rw [HQ.out] at lr ll
      cases bb with
      | false =>
        have hr := HSR.out
        have hl2 := HSL.out
        simp only [Bool.false_and, Bool.false_eq_true, if_false, Nat.add_zero] at hr hl2
        have HR1 := Aside0.mk hr
        have HL1 := Aside0.mk hl2
        clear hr hl2
        go_wp2_with fail
        go_roundw
        case rel => exact ⟨q + 1, hqQ, by go_num, by rw [HR1.out], by rw [HL1.out], HB4⟩
        case measure => simp [intOf]; omega
      | true =>
        have hr := HSR.out
        have hl2 := HSL.out
        simp only [Bool.true_and] at hr hl2
        have htc : turC N l (cel k i j) = turB (txtB N l k i j) k := rfl
        rw [htc] at hr hl2
        unfold turB at hr hl2
        have HTx := Aside0.mk (text_any g N mb m l D k i j w3 HT4.out hk hij)
        have HCn := Aside0.mk (fun w4 h4 => Tryd.strings_Contains ⟨#[48, 49, 50, 48, 49]⟩ (txtB N l k i j) mL w4 (by decide) h4)
        obtain ⟨cb, hcb⟩ : ∃ cb, Lib.contains [48, 49, 50, 48, 49] (txtB N l k i j).data.toList = cb := ⟨_, rfl⟩
        have hcb2 : Lib.contains (⟨#[48, 49, 50, 48, 49]⟩ : ByteArray).data.toList (txtB N l k i j).data.toList = cb := hcb
        rw [hcb2] at HCn
        rw [hcb] at hr hl2
        have d0 : w3.cell? ⟨gc, 0, none⟩ = some (.int .i64 (k : Nat)) := HN3.out.cell 0
        have d1 : w3.cell? ⟨gc, 1, none⟩ = some (.int .i64 (i : Nat)) := HN3.out.cell 1
        have d2 : w3.cell? ⟨gc, 2, none⟩ = some (.int .i64 (j : Nat)) := HN3.out.cell 2
        have HRr := Aside0.mk hr
        have HLl := Aside0.mk hl2
        clear hr hl2 htc hcb hcb2
        generalize rigN N l q = rn at *
        generalize lefN N l q = ln at *
        obtain ⟨tx, htx⟩ : ∃ tx, txtB N l k i j = tx := ⟨_, rfl⟩
        rw [htx] at HTx HCn
        clear htx
        rcases (show k = 0 ∨ k = 1 by omega) with rfl | rfl <;> cases cb
        all_goals
          go_wp2_with fail
          refine HTx.out.mono ?_
          rintro e w4 ⟨rfl, hb4⟩
          have HB5 := Aside0.mk (below_then HB4.out HB4.out.size hb4)
          have hm4 : w4.cell? ⟨1, 0, none⟩ = some (.int .i64 mL) := ((below_then HB2.out HB2.out.size HB5.out).cell (World.block_lt_of_cell? w _ HM.out)).trans HM.out
          have e0 := (hb4.cell (World.block_lt_of_cell? w3 _ d0)).trans d0
          clear hb4 d0 d1 d2
          go_wp2_with fail
          refine (HCn.out w4 hm4).mono ?_
          rintro e w5 ⟨rfl, rfl⟩
          clear hm4
          go_wp2_with fail
          go_roundw
          case rel => exact ⟨q + 1, hqQ, by go_num, by rw [HRr.out]; first | rfl | go_num, by rw [HLl.out]; first | rfl | go_num, HB5⟩
          case measure => simp [intOf]; omega
    · obtain rfl : q = Q := by omega
      have HRa := Aside0.mk (show rigN N l q = rigL N l by rw [← HQ.out, rigN_all])
      have HLa := Aside0.mk (show lefN N l q = lefL N l by rw [← HQ.out, lefN_all])
      go_wp2_with fail
      go_ret3
      refine ⟨below_then HB2.out HB2.out.size HBr.out, ?_⟩
      rw [if_pos HE.out, Int.toNat_natCast, HLs.out, HRa.out, HLa.out]
      rfl
set_option maxHeartbeats 6400000 in
set_option maxRecDepth 100000 in
theorem turns_bad (n : Int) (s : ByteArray) (w : World) (hs : s.size ≤ 9223372036854775807) (hE : triE n s ≠ 0) :
    Calls Tryd.prog 31 #[.int .i64 n, .string s] w (TurnsPost n s w) := by
  have HO := Aside0.mk (of_any n s w hs)
  have HP : Aside0 (∀ w', Below w.heap.size w w' → TurnsPost n s w (.returned (.tuple #[.int .i64 0, .int .i64 0, .int .i64 (triE n s)])) w') := ⟨fun w' hb => ⟨hb, by rw [if_neg hE]⟩⟩
  have HQ := Aside0.mk (fun e w2 (h : OfPost n s w e w2) => (show e = .returned (.tuple #[.pointer none, .int .i64 (triE n s)]) ∧ Below w.heap.size w w2 by
    unfold OfPost at h
    rw [if_neg hE] at h
    exact ⟨h.2, h.1⟩))
  have hz : (triE n s == 0) = false := beq_eq_false_iff_ne.2 hE
  clear hE
  generalize triE n s = z at *
  go_enter Tryd.func31, Tryd.ntmps31
  go_wp2_with fail
  refine HO.out.mono ?_
  intro e w1 h1
  obtain ⟨rfl, hb1⟩ := HQ.out _ _ h1
  have HB := Aside0.mk hb1
  clear h1 hb1
  go_wp2_with fail
  go_ret3
  exact HP.out _ HB.out
theorem turns_call (n : Int) (s : ByteArray) (w : World) (hs : s.size ≤ 9223372036854775807) (mL : Int) (hm : w.cell? ⟨1, 0, none⟩ = some (.int .i64 mL)) : Calls Tryd.prog 31 #[.int .i64 n, .string s] w (TurnsPost n s w) := by
  by_cases hE : triE n s = 0
  · exact turns_good n s w hs hE mL hm
  · exact turns_bad n s w hs hE
end Go.Proofs.YtlmgkmmdaecpdaaDoor.Im

namespace Go.Proofs.YtlmgkmmdaecpdaaDoor.Im
open Go.RowKit Go.Proofs.YtlmgkmmdaecpdaaDoorW.PrintWords Go.Proofs.YtlmgkmmdaecpdaaDoorW.PrintLast Go.Proofs.YtlmgkmmdaecpdaaDoorW.PrintMore Go.Proofs.YtlmgkmmdaecpdaaDoor.Mi
set_option linter.unusedVariables false
structure Col (n : Nat) (l : List UInt8) : Prop where
  n1 : 1 ≤ n
  n20 : n ≤ 20
  len : l.length = offT n (n + 1)
  ok : ∀ b ∈ l, b = 48 ∨ b = 49 ∨ b = 50
theorem col_of {n : Int} {s : ByteArray} (h : triE n s = 0) : Col n.toNat s.data.toList := by
  unfold triE at h
  split at h
  · cases h
  · split at h
    · rename_i h1 h2
      refine ⟨by omega, by omega, by rw [Array.length_toList]; exact h2.1, fun b hb => ?_⟩
      have := List.all_eq_true.1 h2.2 b hb
      simpa using this
    · cases h
theorem Col.byte {n : Nat} {l : List UInt8} (h : Col n l) {i j : Nat} (hij : i + j ≤ n) : colB n l i j = 48 ∨ colB n l i j = 49 ∨ colB n l i j = 50 := by
  have hlt : offT n i + j < l.length := by rw [h.len]; exact offT_lt hij
  refine h.ok _ ?_
  unfold colB
  rw [List.getD, List.getElem?_eq_getElem hlt]
  exact List.getElem_mem hlt
def cC (n : Nat) (l : List UInt8) (i j : Nat) : Nat := (colB n l i j).toNat - 48
def three : List UInt8 := [48, 49, 50]
theorem mem_three {b : UInt8} (h : b = 48 ∨ b = 49 ∨ b = 50) : b ∈ three := by
  rcases h with rfl | rfl | rfl <;> decide
end Go.Proofs.YtlmgkmmdaecpdaaDoor.Im

namespace Go.Proofs.YtlmgkmmdaecpdaaDoor.Im
open Go.RowKit Go.Proofs.YtlmgkmmdaecpdaaDoorW.PrintWords Go.Proofs.YtlmgkmmdaecpdaaDoorW.PrintLast Go.Proofs.YtlmgkmmdaecpdaaDoorW.PrintMore Go.Proofs.YtlmgkmmdaecpdaaDoor.Mi
set_option linter.unusedVariables false
theorem wr_tiny' {x : Int} (h0 : 0 ≤ x) (h1 : x ≤ 1000000) : wrap64 x = x := by unfold wrap64; omega
theorem points_f (n : Nat) (h : n ≤ 20) : pomaderef04_Points.f (n : Int) = some ((offT n (n + 1) : Nat) : Int) := by
  have h1 : (n + 1) * (n + 2) ≤ 21 * 22 := Nat.mul_le_mul (by omega) (by omega)
  unfold pomaderef04_Points.f
  rw [offT_val n h, wr_tiny' (x := (n : Int) + 1) (by omega) (by omega), wr_tiny' (x := (n : Int) + 2) (by omega) (by omega)]
  have e : ((n : Int) + 1) * ((n : Int) + 2) = (((n + 1) * (n + 2) : Nat) : Int) := by rw [Int.natCast_mul]; rfl
  rw [e]
  generalize (n + 1) * (n + 2) = u at *
  rw [wr_tiny' (x := (u : Int)) (by omega) (by omega), Int.tdiv_eq_ediv_of_nonneg (by omega), wr_tiny' (by omega) (by omega)]
  rfl
def triFrom (s : ByteArray) (i : Nat) : Bool := (s.data.toList.drop i).all ([48, 49, 50].contains ·)
theorem tri_l0 (s : ByteArray) (hs : s.size ≤ 1000000) : ∀ (d i : Nat), i + d = s.size → Gives (fun k => pomaderef04_Triangle.l0 k s i) (if triFrom s i then 0 else 5)
  | 0, i, h => Gives.now fun k => by
    have e : triFrom s i = true := by
      unfold triFrom
      rw [List.drop_of_length_le (by rw [Array.length_toList]; show s.size ≤ i; omega)]
      rfl
    simp only [pomaderef04_Triangle.l0]
    rw [if_neg (by omega), e, if_pos rfl]
  | d + 1, i, h => by
    have hl : i < s.data.toList.length := by rw [Array.length_toList]; show i < s.size; omega
    have e : s.data.toList.drop i = s.data.toList[i]'hl :: s.data.toList.drop (i + 1) := List.drop_eq_getElem_cons hl
    have e2 : bt s i = ((s.data.toList[i]'hl).toNat : Int) := by
      rw [bt_bs]
      unfold bsOf
      rw [List.getD, List.getElem?_map, List.getElem?_eq_getElem hl]
      rfl
    have e3 : triFrom s i = ([48, 49, 50].contains (s.data.toList[i]'hl) && triFrom s (i + 1)) := by
      unfold triFrom
      rw [e, List.all_cons]
    have key : ∀ c : UInt8, ([48, 49, 50].contains c = true ↔ ¬ ((c.toNat : Int) < 48) ∧ ¬ ((c.toNat : Int) > 50)) := fun c => by
      rw [List.contains_iff_mem]
      simp only [List.mem_cons, List.not_mem_nil, or_false]
      rw [← UInt8.toNat_inj, ← UInt8.toNat_inj, ← UInt8.toNat_inj]
      show c.toNat = 48 ∨ c.toNat = 49 ∨ c.toNat = 50 ↔ _
      omega
    have kc := key (s.data.toList[i]'hl)
    rw [← e2] at kc
    by_cases h1 : bt s i < 48
    · refine Gives.now fun k => ?_
      simp only [pomaderef04_Triangle.l0]
      have : ([48, 49, 50].contains (s.data.toList[i]'hl)) = false := by
        cases hc : [48, 49, 50].contains (s.data.toList[i]'hl) with
        | false => rfl
        | true => exact absurd h1 (kc.1 hc).1
      rw [if_pos (by omega), if_pos (by omega), if_pos h1, e3, this]
      rfl
    · by_cases h2 : bt s i > 50
      · refine Gives.now fun k => ?_
        simp only [pomaderef04_Triangle.l0]
        have : ([48, 49, 50].contains (s.data.toList[i]'hl)) = false := by
          cases hc : [48, 49, 50].contains (s.data.toList[i]'hl) with
          | false => rfl
          | true => exact absurd h2 (kc.1 hc).2
        rw [if_pos (by omega), if_pos (by omega), if_neg h1, if_pos h2, e3, this]
        rfl
      · refine (tri_l0 s hs d (i + 1) (by omega)).step fun k hk => ?_
        simp only [pomaderef04_Triangle.l0]
        rw [if_pos (by omega), if_pos (by omega), if_neg h1, if_neg h2, wr_succ i (by omega), hk, e3, kc.2 ⟨h1, h2⟩, Bool.true_and]
theorem triangle_g (n : Int) (s : ByteArray) (hs : s.size ≤ 1000000) : Gives (fun k => pomaderef04_Triangle.f k n s) (triE n s) := by
  have e0 : triE n s = if n < 1 ∨ 20 < n then 2 else if s.size = offT n.toNat (n.toNat + 1) ∧ triFrom s 0 = true then 0 else 5 := rfl
  rw [e0]
  by_cases h1 : n < 1
  · rw [if_pos (.inl h1)]
    refine (Gives.now fun k => ?_ : Gives (fun k => pomaderef04_Triangle.f k n s) 2)
    simp only [pomaderef04_Triangle.f, pomaderef04_Triangle.j0]
    rw [if_pos h1, if_pos trivial]
  · by_cases h2 : 20 < n
    · rw [if_pos (.inr h2)]
      refine (Gives.now fun k => ?_ : Gives (fun k => pomaderef04_Triangle.f k n s) 2)
      simp only [pomaderef04_Triangle.f, pomaderef04_Triangle.j0]
      rw [if_neg h1, decide_eq_true (show n > 20 from h2), if_pos rfl]
    · rw [if_neg (by omega)]
      obtain ⟨m, rfl⟩ : ∃ m : Nat, n = m := ⟨n.toNat, by omega⟩
      rw [Int.toNat_natCast]
      by_cases h3 : s.size = offT m (m + 1)
      · have hb := tri_l0 s hs s.size 0 (by omega)
        have e : (if s.size = offT m (m + 1) ∧ triFrom s 0 = true then (0 : Int) else 5) = if triFrom s 0 then 0 else 5 := by
          cases triFrom s 0
          · rw [if_neg (by simp), if_neg (by simp)]
          · rw [if_pos ⟨h3, rfl⟩, if_pos rfl]
        rw [e]
        refine hb.step fun k hk => ?_
        simp only [pomaderef04_Triangle.f, pomaderef04_Triangle.j0]
        rw [if_neg h1, decide_eq_false (by omega), if_neg (by decide), points_f m (by omega), Option.bind_some, if_pos (by rw [h3])]
        exact hk
      · rw [if_neg (fun h => h3 h.1)]
        refine (Gives.now fun k => ?_ : Gives (fun k => pomaderef04_Triangle.f k m s) 5)
        simp only [pomaderef04_Triangle.f, pomaderef04_Triangle.j0]
        rw [if_neg h1, decide_eq_false (by omega), if_neg (by decide), points_f m (by omega), Option.bind_some, if_neg (fun h => h3 (by omega))]
theorem triangle_any (n : Int) (s : ByteArray) (w : World) (hs : s.size ≤ 1000000) :
    Calls Tryd.prog 30 #[.int .i64 n, .string s] w fun e w' => e = .returned (.int .i64 (triE n s)) ∧ Below w.heap.size w w' := by
  obtain ⟨k0, hk0⟩ := triangle_g n s hs
  exact (pomaderef04_Triangle.calls k0 n s _ w (hk0 k0 (Nat.le_refl _))).mono fun e w' ⟨h1, h2⟩ => ⟨h1, h2.below⟩
end Go.Proofs.YtlmgkmmdaecpdaaDoor.Im

namespace Go.Proofs.YtlmgkmmdaecpdaaDoor.Im
open Go.RowKit Go.Proofs.YtlmgkmmdaecpdaaDoorW.PrintWords Go.Proofs.YtlmgkmmdaecpdaaDoorW.PrintLast Go.Proofs.YtlmgkmmdaecpdaaDoorW.PrintMore
attribute [local go_sem] max2_int min2_int max_two min_two max_three min_three max_four min_four
set_option linter.unusedVariables false
set_option linter.unusedSimpArgs false
mutual
def pomaderef04_proper.l0 : Nat → Int → ByteArray → Int → Option (Bool)
  | 0, _, _, _ => none
  | k + 1, x0, x1, x5 => if x5 ≤ x0 then (pomaderef04_proper.l1 k x0 x1 x5 0) else (some true)
def pomaderef04_proper.l1 : Nat → Int → ByteArray → Int → Int → Option (Bool)
  | 0, _, _, _, _ => none
  | k + 1, x0, x1, x5, x6 => if (wrap64 (x5 + x6)) ≤ x0 then ((pomaderef04_colour.f k x0 x1 x5 x6).bind fun t236 => (if x6 = 0 then (if t236 = 50 then (some false) else (if x5 = 0 then (if t236 = 49 then (some false) else (if (wrap64 (x5 + x6)) = x0 then (if t236 = 48 then (some false) else (pomaderef04_proper.l1 k x0 x1 x5 (wrap64 (x6 + 1)))) else (pomaderef04_proper.l1 k x0 x1 x5 (wrap64 (x6 + 1))))) else (if (wrap64 (x5 + x6)) = x0 then (if t236 = 48 then (some false) else (pomaderef04_proper.l1 k x0 x1 x5 (wrap64 (x6 + 1)))) else (pomaderef04_proper.l1 k x0 x1 x5 (wrap64 (x6 + 1)))))) else (if x5 = 0 then (if t236 = 49 then (some false) else (if (wrap64 (x5 + x6)) = x0 then (if t236 = 48 then (some false) else (pomaderef04_proper.l1 k x0 x1 x5 (wrap64 (x6 + 1)))) else (pomaderef04_proper.l1 k x0 x1 x5 (wrap64 (x6 + 1))))) else (if (wrap64 (x5 + x6)) = x0 then (if t236 = 48 then (some false) else (pomaderef04_proper.l1 k x0 x1 x5 (wrap64 (x6 + 1)))) else (pomaderef04_proper.l1 k x0 x1 x5 (wrap64 (x6 + 1))))))) else (pomaderef04_proper.l0 k x0 x1 (wrap64 (x5 + 1)))
end
def pomaderef04_proper.f (k : Nat) (a0 : Int) (a1 : ByteArray) : Option (Bool) := pomaderef04_proper.l0 k a0 a1 0
theorem pomaderef04_proper.mono_l : ∀ k, (∀ y0 y1 y2, LeO (pomaderef04_proper.l0 k y0 y1 y2) (pomaderef04_proper.l0 (k + 1) y0 y1 y2)) ∧ (∀ y0 y1 y2 y3, LeO (pomaderef04_proper.l1 k y0 y1 y2 y3) (pomaderef04_proper.l1 (k + 1) y0 y1 y2 y3))
  | 0 => ⟨fun _ _ _ r h => by simp [pomaderef04_proper.l0] at h, fun _ _ _ _ r h => by simp [pomaderef04_proper.l1] at h⟩
  | k + 1 => by
    obtain ⟨ih0, ih1⟩ := pomaderef04_proper.mono_l k
    refine ⟨?_, ?_⟩
    · intro y0 y1 y2
      unfold pomaderef04_proper.l0
      repeat' first
      | (with_reducible exact ih0 _ _ _)
      | (with_reducible exact ih1 _ _ _ _)
      | (with_reducible exact pomaderef04_colour.mono _ _ _ _ _)
      | (with_reducible exact LeO.refl _)
      | (with_reducible exact LeO.none _)
      | (with_reducible refine LeO.ite ?_ ?_)
      | (with_reducible refine LeO.bind ?_ (fun _ => ?_))
      | exact ih0 _ _ _
      | exact ih1 _ _ _ _
      | exact pomaderef04_colour.mono _ _ _ _ _
      | exact LeO.none _
      | refine LeO.ite ?_ ?_
      | refine LeO.bind ?_ (fun _ => ?_)
    · intro y0 y1 y2 y3
      unfold pomaderef04_proper.l1
      repeat' first
      | (with_reducible exact ih0 _ _ _)
      | (with_reducible exact ih1 _ _ _ _)
      | (with_reducible exact pomaderef04_colour.mono _ _ _ _ _)
      | (with_reducible exact LeO.refl _)
      | (with_reducible exact LeO.none _)
      | (with_reducible refine LeO.ite ?_ ?_)
      | (with_reducible refine LeO.bind ?_ (fun _ => ?_))
      | exact ih0 _ _ _
      | exact ih1 _ _ _ _
      | exact pomaderef04_colour.mono _ _ _ _ _
      | exact LeO.none _
      | refine LeO.ite ?_ ?_
      | refine LeO.bind ?_ (fun _ => ?_)
theorem pomaderef04_proper.mono : ∀ a0 a1 k, LeO (pomaderef04_proper.f k a0 a1) (pomaderef04_proper.f (k + 1) a0 a1) := by
  intro a0 a1 k
  obtain ⟨ih0, ih1⟩ := pomaderef04_proper.mono_l k
  unfold pomaderef04_proper.f
  repeat' first
      | (with_reducible exact ih0 _ _ _)
      | (with_reducible exact ih1 _ _ _ _)
      | (with_reducible exact pomaderef04_colour.mono _ _ _ _ _)
      | (with_reducible exact LeO.refl _)
      | (with_reducible exact LeO.none _)
      | (with_reducible refine LeO.ite ?_ ?_)
      | (with_reducible refine LeO.bind ?_ (fun _ => ?_))
      | exact ih0 _ _ _
      | exact ih1 _ _ _ _
      | exact pomaderef04_colour.mono _ _ _ _ _
      | exact LeO.none _
      | refine LeO.ite ?_ ?_
      | refine LeO.bind ?_ (fun _ => ?_)
set_option maxHeartbeats 8000000 in
set_option maxRecDepth 100000 in
theorem pomaderef04_proper.calls (k : Nat) (a0 : Int) (a1 : ByteArray) (r : Bool) (w : World) (h : pomaderef04_proper.f k a0 a1 = some r) :
    Calls Tryd.prog 55 #[.int .i64 a0, .string a1] w fun e w' => e = .returned (.bool r) ∧ Below w.heap.size w w' := by
  have hu52 := Tryd.underlying52
  have HB := Aside0.mk (Below.refl w.heap.size w)
  have H : (pomaderef04_proper.l0 k a0 a1 0) = some r := h
  clear h
  have H' := Aside0.mk H
  clear H
  go_enter Tryd.func55, Tryd.ntmps55
  go_wp2
  go_loopg [5] k (fun kq v5 w' => ∃ (x5_1 : Int), v5 = .int .i64 x5_1 ∧ Aside0 (pomaderef04_proper.l0 kq a0 a1 x5_1 = some r) ∧ Aside0 (kq ≤ k) ∧ Aside0 (Below w.heap.size w w'))
  case atStart => exact ⟨(0), (by first | rfl | (simp; done) | (simp [*]; done)), H', ⟨Nat.le_refl _⟩, ⟨by repeat (first | (with_reducible first | exact HB.out | apply below_alloc | apply pw_below_drewN | apply below_drew1) | exact HB.out)⟩⟩
  case round =>
    clear H'
    try clear p2
    obtain ⟨x5_1, rfl, HA, HK1, HB⟩ := hrel
    cases gk with
    | zero => exact absurd HA.out (by simp [pomaderef04_proper.l0])
    | succ k1 =>
      have H := HA.out
      clear HA
      simp only [pomaderef04_proper.l0] at H
      by_cases c3 : x5_1 ≤ a0
      · rw [if_pos c3] at H
        have c3b0 : decide (x5_1 ≤ a0) = true := decide_eq_true c3
        clear c3
        have H' := Aside0.mk H
        clear H
        go_wp2
        go_loopg [6] k1 (fun kq v6 w' => ∃ (x6_2 : Int), v6 = .int .i64 x6_2 ∧ Aside0 (pomaderef04_proper.l1 kq a0 a1 x5_1 x6_2 = some r) ∧ Aside0 (kq ≤ k1) ∧ Aside0 (Below w.heap.size w w'))
        case atStart => exact ⟨(0), (by first | rfl | (simp; done) | (simp [*]; done)), H', ⟨Nat.le_refl _⟩, ⟨by repeat (first | (with_reducible first | exact HB.out | apply below_alloc | apply pw_below_drewN | apply below_drew1) | exact HB.out)⟩⟩
        case round =>
          clear H'
          try clear p2
          try clear c3
          try clear c3b0
          try clear p2
          obtain ⟨x6_2, rfl, HA, HK2, HB⟩ := hrel
          cases gk with
          | zero => exact absurd HA.out (by simp [pomaderef04_proper.l1])
          | succ k2 =>
            have H := HA.out
            clear HA
            simp only [pomaderef04_proper.l1] at H
            by_cases c4 : (wrap64 (x5_1 + x6_2)) ≤ a0
            · rw [if_pos c4] at H
              have c4b0 : decide ((wrap64 (x5_1 + x6_2)) ≤ a0) = true := decide_eq_true c4
              clear c4
              replace H := Option.bind_eq_some_iff.mp H
              obtain ⟨t236, A50, H⟩ := H
              replace H : (if x6_2 = 0 then (if t236 = 50 then (some false) else (if x5_1 = 0 then (if t236 = 49 then (some false) else (if (wrap64 (x5_1 + x6_2)) = a0 then (if t236 = 48 then (some false) else (pomaderef04_proper.l1 k2 a0 a1 x5_1 (wrap64 (x6_2 + 1)))) else (pomaderef04_proper.l1 k2 a0 a1 x5_1 (wrap64 (x6_2 + 1))))) else (if (wrap64 (x5_1 + x6_2)) = a0 then (if t236 = 48 then (some false) else (pomaderef04_proper.l1 k2 a0 a1 x5_1 (wrap64 (x6_2 + 1)))) else (pomaderef04_proper.l1 k2 a0 a1 x5_1 (wrap64 (x6_2 + 1)))))) else (if x5_1 = 0 then (if t236 = 49 then (some false) else (if (wrap64 (x5_1 + x6_2)) = a0 then (if t236 = 48 then (some false) else (pomaderef04_proper.l1 k2 a0 a1 x5_1 (wrap64 (x6_2 + 1)))) else (pomaderef04_proper.l1 k2 a0 a1 x5_1 (wrap64 (x6_2 + 1))))) else (if (wrap64 (x5_1 + x6_2)) = a0 then (if t236 = 48 then (some false) else (pomaderef04_proper.l1 k2 a0 a1 x5_1 (wrap64 (x6_2 + 1)))) else (pomaderef04_proper.l1 k2 a0 a1 x5_1 (wrap64 (x6_2 + 1)))))) = some r := H
              have A5 := Aside0.mk A50
              clear A50
              by_cases c6 : x6_2 = 0
              · rw [if_pos c6] at H
                have c6b0 : (x6_2 == 0) = true := beq_iff_eq.mpr c6
                have c6b1 : (x6_2 != 0) = false := bne_eq_false_iff_eq.mpr c6
                clear c6
                by_cases c7 : t236 = 50
                · rw [if_pos c7] at H
                  have c7b0 : (t236 == 50) = true := beq_iff_eq.mpr c7
                  have c7b1 : (t236 != 50) = false := bne_eq_false_iff_eq.mpr c7
                  clear c7
                  obtain rfl := Option.some.inj H
                  go_wp2_with (first | ((with_reducible refine gate_callee (f := 73) rfl ?_); refine goesL_ (some 25) rfl rfl Tryd.func73 (by kernel_rfl) rfl #[.int .i64 a0, .string a1, .agg #[.int .i64 x5_1, .int .i64 x6_2]] rfl (by (try simp only [List.map_toArray, List.map_cons, List.map_nil]); first | done | rfl | (simp only [List.length_drop, List.length_take]; rfl)) ?_; (with_reducible refine (pomaderef04_colour.calls k2 a0 a1 x5_1 x6_2 t236 _ A5.out).mono ?_); rintro e w8 ⟨rfl, hb⟩; refine ⟨_, rfl, ?_⟩; have n0_ := Aside0.mk (below_step (by repeat (first | (with_reducible first | exact HB.out | apply below_alloc | apply pw_below_drewN | apply below_drew1) | exact HB.out)) hb); clear HB; have HB := n0_; clear n0_; (try clear hb); (try clear hb2); (try clear hk); (try clear hi)))
                  go_ret
                  exact ⟨by first | rfl | (simp [errW_none, errW_some] <;> rfl) | (simp [*, errW_none, errW_some] <;> rfl), by repeat (first | (with_reducible first | exact HB.out | apply below_alloc | apply pw_below_drewN | apply below_drew1) | exact HB.out)⟩
                · rw [if_neg c7] at H
                  have c7b0 : (t236 == 50) = false := beq_eq_false_iff_ne.mpr c7
                  have c7b1 : (t236 != 50) = true := bne_iff_ne.mpr c7
                  by_cases c9 : x5_1 = 0
                  · rw [if_pos c9] at H
                    have c9b0 : (x5_1 == 0) = true := beq_iff_eq.mpr c9
                    have c9b1 : (x5_1 != 0) = false := bne_eq_false_iff_eq.mpr c9
                    clear c9
                    by_cases c10 : t236 = 49
                    · rw [if_pos c10] at H
                      have c10b0 : (t236 == 49) = true := beq_iff_eq.mpr c10
                      have c10b1 : (t236 != 49) = false := bne_eq_false_iff_eq.mpr c10
                      clear c10
                      obtain rfl := Option.some.inj H
                      go_wp2_with (first | ((with_reducible refine gate_callee (f := 73) rfl ?_); refine goesL_ (some 25) rfl rfl Tryd.func73 (by kernel_rfl) rfl #[.int .i64 a0, .string a1, .agg #[.int .i64 x5_1, .int .i64 x6_2]] rfl (by (try simp only [List.map_toArray, List.map_cons, List.map_nil]); first | done | rfl | (simp only [List.length_drop, List.length_take]; rfl)) ?_; (with_reducible refine (pomaderef04_colour.calls k2 a0 a1 x5_1 x6_2 t236 _ A5.out).mono ?_); rintro e w11 ⟨rfl, hb⟩; refine ⟨_, rfl, ?_⟩; have n0_ := Aside0.mk (below_step (by repeat (first | (with_reducible first | exact HB.out | apply below_alloc | apply pw_below_drewN | apply below_drew1) | exact HB.out)) hb); clear HB; have HB := n0_; clear n0_; (try clear hb); (try clear hb2); (try clear hk); (try clear hi)))
                      go_ret
                      exact ⟨by first | rfl | (simp [errW_none, errW_some] <;> rfl) | (simp [*, errW_none, errW_some] <;> rfl), by repeat (first | (with_reducible first | exact HB.out | apply below_alloc | apply pw_below_drewN | apply below_drew1) | exact HB.out)⟩
                    · rw [if_neg c10] at H
                      have c10b0 : (t236 == 49) = false := beq_eq_false_iff_ne.mpr c10
                      have c10b1 : (t236 != 49) = true := bne_iff_ne.mpr c10
                      by_cases c12 : (wrap64 (x5_1 + x6_2)) = a0
                      · rw [if_pos c12] at H
                        have c12b0 : ((wrap64 (x5_1 + x6_2)) == a0) = true := beq_iff_eq.mpr c12
                        have c12b1 : ((wrap64 (x5_1 + x6_2)) != a0) = false := bne_eq_false_iff_eq.mpr c12
                        clear c12
                        by_cases c13 : t236 = 48
                        · rw [if_pos c13] at H
                          have c13b0 : (t236 == 48) = true := beq_iff_eq.mpr c13
                          have c13b1 : (t236 != 48) = false := bne_eq_false_iff_eq.mpr c13
                          clear c13
                          obtain rfl := Option.some.inj H
                          go_wp2_with (first | ((with_reducible refine gate_callee (f := 73) rfl ?_); refine goesL_ (some 25) rfl rfl Tryd.func73 (by kernel_rfl) rfl #[.int .i64 a0, .string a1, .agg #[.int .i64 x5_1, .int .i64 x6_2]] rfl (by (try simp only [List.map_toArray, List.map_cons, List.map_nil]); first | done | rfl | (simp only [List.length_drop, List.length_take]; rfl)) ?_; (with_reducible refine (pomaderef04_colour.calls k2 a0 a1 x5_1 x6_2 t236 _ A5.out).mono ?_); rintro e w14 ⟨rfl, hb⟩; refine ⟨_, rfl, ?_⟩; have n0_ := Aside0.mk (below_step (by repeat (first | (with_reducible first | exact HB.out | apply below_alloc | apply pw_below_drewN | apply below_drew1) | exact HB.out)) hb); clear HB; have HB := n0_; clear n0_; (try clear hb); (try clear hb2); (try clear hk); (try clear hi)))
                          go_ret
                          exact ⟨by first | rfl | (simp [errW_none, errW_some] <;> rfl) | (simp [*, errW_none, errW_some] <;> rfl), by repeat (first | (with_reducible first | exact HB.out | apply below_alloc | apply pw_below_drewN | apply below_drew1) | exact HB.out)⟩
                        · rw [if_neg c13] at H
                          have c13b0 : (t236 == 48) = false := beq_eq_false_iff_ne.mpr c13
                          have c13b1 : (t236 != 48) = true := bne_iff_ne.mpr c13
                          have H' := Aside0.mk H
                          clear H
                          go_wp2_with (first | ((with_reducible refine gate_callee (f := 73) rfl ?_); refine goesL_ (some 25) rfl rfl Tryd.func73 (by kernel_rfl) rfl #[.int .i64 a0, .string a1, .agg #[.int .i64 x5_1, .int .i64 x6_2]] rfl (by (try simp only [List.map_toArray, List.map_cons, List.map_nil]); first | done | rfl | (simp only [List.length_drop, List.length_take]; rfl)) ?_; (with_reducible refine (pomaderef04_colour.calls k2 a0 a1 x5_1 x6_2 t236 _ A5.out).mono ?_); rintro e w15 ⟨rfl, hb⟩; refine ⟨_, rfl, ?_⟩; have n0_ := Aside0.mk (below_step (by repeat (first | (with_reducible first | exact HB.out | apply below_alloc | apply pw_below_drewN | apply below_drew1) | exact HB.out)) hb); clear HB; have HB := n0_; clear n0_; (try clear hb); (try clear hb2); (try clear hk); (try clear hi)))
                          go_roundg k2
                          case measure => have := HK1.out; have := HK2.out; omega
                          case rel => exact ⟨(wrap64 (x6_2 + 1)), (by first | rfl | (simp; done) | (simp [*]; done)), H', ⟨by have := HK1.out; have := HK2.out; omega⟩, ⟨by repeat (first | (with_reducible first | exact HB.out | apply below_alloc | apply pw_below_drewN | apply below_drew1) | exact HB.out)⟩⟩
                      · rw [if_neg c12] at H
                        have c12b0 : ((wrap64 (x5_1 + x6_2)) == a0) = false := beq_eq_false_iff_ne.mpr c12
                        have c12b1 : ((wrap64 (x5_1 + x6_2)) != a0) = true := bne_iff_ne.mpr c12
                        have H' := Aside0.mk H
                        clear H
                        go_wp2_with (first | ((with_reducible refine gate_callee (f := 73) rfl ?_); refine goesL_ (some 25) rfl rfl Tryd.func73 (by kernel_rfl) rfl #[.int .i64 a0, .string a1, .agg #[.int .i64 x5_1, .int .i64 x6_2]] rfl (by (try simp only [List.map_toArray, List.map_cons, List.map_nil]); first | done | rfl | (simp only [List.length_drop, List.length_take]; rfl)) ?_; (with_reducible refine (pomaderef04_colour.calls k2 a0 a1 x5_1 x6_2 t236 _ A5.out).mono ?_); rintro e w16 ⟨rfl, hb⟩; refine ⟨_, rfl, ?_⟩; have n0_ := Aside0.mk (below_step (by repeat (first | (with_reducible first | exact HB.out | apply below_alloc | apply pw_below_drewN | apply below_drew1) | exact HB.out)) hb); clear HB; have HB := n0_; clear n0_; (try clear hb); (try clear hb2); (try clear hk); (try clear hi)))
                        go_roundg k2
                        case measure => have := HK1.out; have := HK2.out; omega
                        case rel => exact ⟨(wrap64 (x6_2 + 1)), (by first | rfl | (simp; done) | (simp [*]; done)), H', ⟨by have := HK1.out; have := HK2.out; omega⟩, ⟨by repeat (first | (with_reducible first | exact HB.out | apply below_alloc | apply pw_below_drewN | apply below_drew1) | exact HB.out)⟩⟩
                  · rw [if_neg c9] at H
                    have c9b0 : (x5_1 == 0) = false := beq_eq_false_iff_ne.mpr c9
                    have c9b1 : (x5_1 != 0) = true := bne_iff_ne.mpr c9
                    by_cases c17 : (wrap64 (x5_1 + x6_2)) = a0
                    · rw [if_pos c17] at H
                      have c17b0 : ((wrap64 (x5_1 + x6_2)) == a0) = true := beq_iff_eq.mpr c17
                      have c17b1 : ((wrap64 (x5_1 + x6_2)) != a0) = false := bne_eq_false_iff_eq.mpr c17
                      clear c17
                      by_cases c18 : t236 = 48
                      · rw [if_pos c18] at H
                        have c18b0 : (t236 == 48) = true := beq_iff_eq.mpr c18
                        have c18b1 : (t236 != 48) = false := bne_eq_false_iff_eq.mpr c18
                        clear c18
                        obtain rfl := Option.some.inj H
                        go_wp2_with (first | ((with_reducible refine gate_callee (f := 73) rfl ?_); refine goesL_ (some 25) rfl rfl Tryd.func73 (by kernel_rfl) rfl #[.int .i64 a0, .string a1, .agg #[.int .i64 x5_1, .int .i64 x6_2]] rfl (by (try simp only [List.map_toArray, List.map_cons, List.map_nil]); first | done | rfl | (simp only [List.length_drop, List.length_take]; rfl)) ?_; (with_reducible refine (pomaderef04_colour.calls k2 a0 a1 x5_1 x6_2 t236 _ A5.out).mono ?_); rintro e w19 ⟨rfl, hb⟩; refine ⟨_, rfl, ?_⟩; have n0_ := Aside0.mk (below_step (by repeat (first | (with_reducible first | exact HB.out | apply below_alloc | apply pw_below_drewN | apply below_drew1) | exact HB.out)) hb); clear HB; have HB := n0_; clear n0_; (try clear hb); (try clear hb2); (try clear hk); (try clear hi)))
                        go_ret
                        exact ⟨by first | rfl | (simp [errW_none, errW_some] <;> rfl) | (simp [*, errW_none, errW_some] <;> rfl), by repeat (first | (with_reducible first | exact HB.out | apply below_alloc | apply pw_below_drewN | apply below_drew1) | exact HB.out)⟩
                      · rw [if_neg c18] at H
                        have c18b0 : (t236 == 48) = false := beq_eq_false_iff_ne.mpr c18
                        have c18b1 : (t236 != 48) = true := bne_iff_ne.mpr c18
                        have H' := Aside0.mk H
                        clear H
                        go_wp2_with (first | ((with_reducible refine gate_callee (f := 73) rfl ?_); refine goesL_ (some 25) rfl rfl Tryd.func73 (by kernel_rfl) rfl #[.int .i64 a0, .string a1, .agg #[.int .i64 x5_1, .int .i64 x6_2]] rfl (by (try simp only [List.map_toArray, List.map_cons, List.map_nil]); first | done | rfl | (simp only [List.length_drop, List.length_take]; rfl)) ?_; (with_reducible refine (pomaderef04_colour.calls k2 a0 a1 x5_1 x6_2 t236 _ A5.out).mono ?_); rintro e w20 ⟨rfl, hb⟩; refine ⟨_, rfl, ?_⟩; have n0_ := Aside0.mk (below_step (by repeat (first | (with_reducible first | exact HB.out | apply below_alloc | apply pw_below_drewN | apply below_drew1) | exact HB.out)) hb); clear HB; have HB := n0_; clear n0_; (try clear hb); (try clear hb2); (try clear hk); (try clear hi)))
                        go_roundg k2
                        case measure => have := HK1.out; have := HK2.out; omega
                        case rel => exact ⟨(wrap64 (x6_2 + 1)), (by first | rfl | (simp; done) | (simp [*]; done)), H', ⟨by have := HK1.out; have := HK2.out; omega⟩, ⟨by repeat (first | (with_reducible first | exact HB.out | apply below_alloc | apply pw_below_drewN | apply below_drew1) | exact HB.out)⟩⟩
                    · rw [if_neg c17] at H
                      have c17b0 : ((wrap64 (x5_1 + x6_2)) == a0) = false := beq_eq_false_iff_ne.mpr c17
                      have c17b1 : ((wrap64 (x5_1 + x6_2)) != a0) = true := bne_iff_ne.mpr c17
                      have H' := Aside0.mk H
                      clear H
                      go_wp2_with (first | ((with_reducible refine gate_callee (f := 73) rfl ?_); refine goesL_ (some 25) rfl rfl Tryd.func73 (by kernel_rfl) rfl #[.int .i64 a0, .string a1, .agg #[.int .i64 x5_1, .int .i64 x6_2]] rfl (by (try simp only [List.map_toArray, List.map_cons, List.map_nil]); first | done | rfl | (simp only [List.length_drop, List.length_take]; rfl)) ?_; (with_reducible refine (pomaderef04_colour.calls k2 a0 a1 x5_1 x6_2 t236 _ A5.out).mono ?_); rintro e w21 ⟨rfl, hb⟩; refine ⟨_, rfl, ?_⟩; have n0_ := Aside0.mk (below_step (by repeat (first | (with_reducible first | exact HB.out | apply below_alloc | apply pw_below_drewN | apply below_drew1) | exact HB.out)) hb); clear HB; have HB := n0_; clear n0_; (try clear hb); (try clear hb2); (try clear hk); (try clear hi)))
                      go_roundg k2
                      case measure => have := HK1.out; have := HK2.out; omega
                      case rel => exact ⟨(wrap64 (x6_2 + 1)), (by first | rfl | (simp; done) | (simp [*]; done)), H', ⟨by have := HK1.out; have := HK2.out; omega⟩, ⟨by repeat (first | (with_reducible first | exact HB.out | apply below_alloc | apply pw_below_drewN | apply below_drew1) | exact HB.out)⟩⟩
              · rw [if_neg c6] at H
                have c6b0 : (x6_2 == 0) = false := beq_eq_false_iff_ne.mpr c6
                have c6b1 : (x6_2 != 0) = true := bne_iff_ne.mpr c6
                by_cases c22 : x5_1 = 0
                · rw [if_pos c22] at H
                  have c22b0 : (x5_1 == 0) = true := beq_iff_eq.mpr c22
                  have c22b1 : (x5_1 != 0) = false := bne_eq_false_iff_eq.mpr c22
                  clear c22
                  by_cases c23 : t236 = 49
                  · rw [if_pos c23] at H
                    have c23b0 : (t236 == 49) = true := beq_iff_eq.mpr c23
                    have c23b1 : (t236 != 49) = false := bne_eq_false_iff_eq.mpr c23
                    clear c23
                    obtain rfl := Option.some.inj H
                    go_wp2_with (first | ((with_reducible refine gate_callee (f := 73) rfl ?_); refine goesL_ (some 25) rfl rfl Tryd.func73 (by kernel_rfl) rfl #[.int .i64 a0, .string a1, .agg #[.int .i64 x5_1, .int .i64 x6_2]] rfl (by (try simp only [List.map_toArray, List.map_cons, List.map_nil]); first | done | rfl | (simp only [List.length_drop, List.length_take]; rfl)) ?_; (with_reducible refine (pomaderef04_colour.calls k2 a0 a1 x5_1 x6_2 t236 _ A5.out).mono ?_); rintro e w24 ⟨rfl, hb⟩; refine ⟨_, rfl, ?_⟩; have n0_ := Aside0.mk (below_step (by repeat (first | (with_reducible first | exact HB.out | apply below_alloc | apply pw_below_drewN | apply below_drew1) | exact HB.out)) hb); clear HB; have HB := n0_; clear n0_; (try clear hb); (try clear hb2); (try clear hk); (try clear hi)))
                    go_ret
                    exact ⟨by first | rfl | (simp [errW_none, errW_some] <;> rfl) | (simp [*, errW_none, errW_some] <;> rfl), by repeat (first | (with_reducible first | exact HB.out | apply below_alloc | apply pw_below_drewN | apply below_drew1) | exact HB.out)⟩
                  · rw [if_neg c23] at H
                    have c23b0 : (t236 == 49) = false := beq_eq_false_iff_ne.mpr c23
                    have c23b1 : (t236 != 49) = true := bne_iff_ne.mpr c23
                    by_cases c25 : (wrap64 (x5_1 + x6_2)) = a0
                    · rw [if_pos c25] at H
                      have c25b0 : ((wrap64 (x5_1 + x6_2)) == a0) = true := beq_iff_eq.mpr c25
                      have c25b1 : ((wrap64 (x5_1 + x6_2)) != a0) = false := bne_eq_false_iff_eq.mpr c25
                      clear c25
                      by_cases c26 : t236 = 48
                      · rw [if_pos c26] at H
                        have c26b0 : (t236 == 48) = true := beq_iff_eq.mpr c26
                        have c26b1 : (t236 != 48) = false := bne_eq_false_iff_eq.mpr c26
                        clear c26
                        obtain rfl := Option.some.inj H
                        go_wp2_with (first | ((with_reducible refine gate_callee (f := 73) rfl ?_); refine goesL_ (some 25) rfl rfl Tryd.func73 (by kernel_rfl) rfl #[.int .i64 a0, .string a1, .agg #[.int .i64 x5_1, .int .i64 x6_2]] rfl (by (try simp only [List.map_toArray, List.map_cons, List.map_nil]); first | done | rfl | (simp only [List.length_drop, List.length_take]; rfl)) ?_; (with_reducible refine (pomaderef04_colour.calls k2 a0 a1 x5_1 x6_2 t236 _ A5.out).mono ?_); rintro e w27 ⟨rfl, hb⟩; refine ⟨_, rfl, ?_⟩; have n0_ := Aside0.mk (below_step (by repeat (first | (with_reducible first | exact HB.out | apply below_alloc | apply pw_below_drewN | apply below_drew1) | exact HB.out)) hb); clear HB; have HB := n0_; clear n0_; (try clear hb); (try clear hb2); (try clear hk); (try clear hi)))
                        go_ret
                        exact ⟨by first | rfl | (simp [errW_none, errW_some] <;> rfl) | (simp [*, errW_none, errW_some] <;> rfl), by repeat (first | (with_reducible first | exact HB.out | apply below_alloc | apply pw_below_drewN | apply below_drew1) | exact HB.out)⟩
                      · rw [if_neg c26] at H
                        have c26b0 : (t236 == 48) = false := beq_eq_false_iff_ne.mpr c26
                        have c26b1 : (t236 != 48) = true := bne_iff_ne.mpr c26
                        have H' := Aside0.mk H
                        clear H
                        go_wp2_with (first | ((with_reducible refine gate_callee (f := 73) rfl ?_); refine goesL_ (some 25) rfl rfl Tryd.func73 (by kernel_rfl) rfl #[.int .i64 a0, .string a1, .agg #[.int .i64 x5_1, .int .i64 x6_2]] rfl (by (try simp only [List.map_toArray, List.map_cons, List.map_nil]); first | done | rfl | (simp only [List.length_drop, List.length_take]; rfl)) ?_; (with_reducible refine (pomaderef04_colour.calls k2 a0 a1 x5_1 x6_2 t236 _ A5.out).mono ?_); rintro e w28 ⟨rfl, hb⟩; refine ⟨_, rfl, ?_⟩; have n0_ := Aside0.mk (below_step (by repeat (first | (with_reducible first | exact HB.out | apply below_alloc | apply pw_below_drewN | apply below_drew1) | exact HB.out)) hb); clear HB; have HB := n0_; clear n0_; (try clear hb); (try clear hb2); (try clear hk); (try clear hi)))
                        go_roundg k2
                        case measure => have := HK1.out; have := HK2.out; omega
                        case rel => exact ⟨(wrap64 (x6_2 + 1)), (by first | rfl | (simp; done) | (simp [*]; done)), H', ⟨by have := HK1.out; have := HK2.out; omega⟩, ⟨by repeat (first | (with_reducible first | exact HB.out | apply below_alloc | apply pw_below_drewN | apply below_drew1) | exact HB.out)⟩⟩
                    · rw [if_neg c25] at H
                      have c25b0 : ((wrap64 (x5_1 + x6_2)) == a0) = false := beq_eq_false_iff_ne.mpr c25
                      have c25b1 : ((wrap64 (x5_1 + x6_2)) != a0) = true := bne_iff_ne.mpr c25
                      have H' := Aside0.mk H
                      clear H
                      go_wp2_with (first | ((with_reducible refine gate_callee (f := 73) rfl ?_); refine goesL_ (some 25) rfl rfl Tryd.func73 (by kernel_rfl) rfl #[.int .i64 a0, .string a1, .agg #[.int .i64 x5_1, .int .i64 x6_2]] rfl (by (try simp only [List.map_toArray, List.map_cons, List.map_nil]); first | done | rfl | (simp only [List.length_drop, List.length_take]; rfl)) ?_; (with_reducible refine (pomaderef04_colour.calls k2 a0 a1 x5_1 x6_2 t236 _ A5.out).mono ?_); rintro e w29 ⟨rfl, hb⟩; refine ⟨_, rfl, ?_⟩; have n0_ := Aside0.mk (below_step (by repeat (first | (with_reducible first | exact HB.out | apply below_alloc | apply pw_below_drewN | apply below_drew1) | exact HB.out)) hb); clear HB; have HB := n0_; clear n0_; (try clear hb); (try clear hb2); (try clear hk); (try clear hi)))
                      go_roundg k2
                      case measure => have := HK1.out; have := HK2.out; omega
                      case rel => exact ⟨(wrap64 (x6_2 + 1)), (by first | rfl | (simp; done) | (simp [*]; done)), H', ⟨by have := HK1.out; have := HK2.out; omega⟩, ⟨by repeat (first | (with_reducible first | exact HB.out | apply below_alloc | apply pw_below_drewN | apply below_drew1) | exact HB.out)⟩⟩
                · rw [if_neg c22] at H
                  have c22b0 : (x5_1 == 0) = false := beq_eq_false_iff_ne.mpr c22
                  have c22b1 : (x5_1 != 0) = true := bne_iff_ne.mpr c22
                  by_cases c30 : (wrap64 (x5_1 + x6_2)) = a0
                  · rw [if_pos c30] at H
                    have c30b0 : ((wrap64 (x5_1 + x6_2)) == a0) = true := beq_iff_eq.mpr c30
                    have c30b1 : ((wrap64 (x5_1 + x6_2)) != a0) = false := bne_eq_false_iff_eq.mpr c30
                    clear c30
                    by_cases c31 : t236 = 48
                    · rw [if_pos c31] at H
                      have c31b0 : (t236 == 48) = true := beq_iff_eq.mpr c31
                      have c31b1 : (t236 != 48) = false := bne_eq_false_iff_eq.mpr c31
                      clear c31
                      obtain rfl := Option.some.inj H
                      go_wp2_with (first | ((with_reducible refine gate_callee (f := 73) rfl ?_); refine goesL_ (some 25) rfl rfl Tryd.func73 (by kernel_rfl) rfl #[.int .i64 a0, .string a1, .agg #[.int .i64 x5_1, .int .i64 x6_2]] rfl (by (try simp only [List.map_toArray, List.map_cons, List.map_nil]); first | done | rfl | (simp only [List.length_drop, List.length_take]; rfl)) ?_; (with_reducible refine (pomaderef04_colour.calls k2 a0 a1 x5_1 x6_2 t236 _ A5.out).mono ?_); rintro e w32 ⟨rfl, hb⟩; refine ⟨_, rfl, ?_⟩; have n0_ := Aside0.mk (below_step (by repeat (first | (with_reducible first | exact HB.out | apply below_alloc | apply pw_below_drewN | apply below_drew1) | exact HB.out)) hb); clear HB; have HB := n0_; clear n0_; (try clear hb); (try clear hb2); (try clear hk); (try clear hi)))
                      go_ret
                      exact ⟨by first | rfl | (simp [errW_none, errW_some] <;> rfl) | (simp [*, errW_none, errW_some] <;> rfl), by repeat (first | (with_reducible first | exact HB.out | apply below_alloc | apply pw_below_drewN | apply below_drew1) | exact HB.out)⟩
                    · rw [if_neg c31] at H
                      have c31b0 : (t236 == 48) = false := beq_eq_false_iff_ne.mpr c31
                      have c31b1 : (t236 != 48) = true := bne_iff_ne.mpr c31
                      have H' := Aside0.mk H
                      clear H
                      go_wp2_with (first | ((with_reducible refine gate_callee (f := 73) rfl ?_); refine goesL_ (some 25) rfl rfl Tryd.func73 (by kernel_rfl) rfl #[.int .i64 a0, .string a1, .agg #[.int .i64 x5_1, .int .i64 x6_2]] rfl (by (try simp only [List.map_toArray, List.map_cons, List.map_nil]); first | done | rfl | (simp only [List.length_drop, List.length_take]; rfl)) ?_; (with_reducible refine (pomaderef04_colour.calls k2 a0 a1 x5_1 x6_2 t236 _ A5.out).mono ?_); rintro e w33 ⟨rfl, hb⟩; refine ⟨_, rfl, ?_⟩; have n0_ := Aside0.mk (below_step (by repeat (first | (with_reducible first | exact HB.out | apply below_alloc | apply pw_below_drewN | apply below_drew1) | exact HB.out)) hb); clear HB; have HB := n0_; clear n0_; (try clear hb); (try clear hb2); (try clear hk); (try clear hi)))
                      go_roundg k2
                      case measure => have := HK1.out; have := HK2.out; omega
                      case rel => exact ⟨(wrap64 (x6_2 + 1)), (by first | rfl | (simp; done) | (simp [*]; done)), H', ⟨by have := HK1.out; have := HK2.out; omega⟩, ⟨by repeat (first | (with_reducible first | exact HB.out | apply below_alloc | apply pw_below_drewN | apply below_drew1) | exact HB.out)⟩⟩
                  · rw [if_neg c30] at H
                    have c30b0 : ((wrap64 (x5_1 + x6_2)) == a0) = false := beq_eq_false_iff_ne.mpr c30
                    have c30b1 : ((wrap64 (x5_1 + x6_2)) != a0) = true := bne_iff_ne.mpr c30
                    have H' := Aside0.mk H
                    clear H
                    go_wp2_with (first | ((with_reducible refine gate_callee (f := 73) rfl ?_); refine goesL_ (some 25) rfl rfl Tryd.func73 (by kernel_rfl) rfl #[.int .i64 a0, .string a1, .agg #[.int .i64 x5_1, .int .i64 x6_2]] rfl (by (try simp only [List.map_toArray, List.map_cons, List.map_nil]); first | done | rfl | (simp only [List.length_drop, List.length_take]; rfl)) ?_; (with_reducible refine (pomaderef04_colour.calls k2 a0 a1 x5_1 x6_2 t236 _ A5.out).mono ?_); rintro e w34 ⟨rfl, hb⟩; refine ⟨_, rfl, ?_⟩; have n0_ := Aside0.mk (below_step (by repeat (first | (with_reducible first | exact HB.out | apply below_alloc | apply pw_below_drewN | apply below_drew1) | exact HB.out)) hb); clear HB; have HB := n0_; clear n0_; (try clear hb); (try clear hb2); (try clear hk); (try clear hi)))
                    go_roundg k2
                    case measure => have := HK1.out; have := HK2.out; omega
                    case rel => exact ⟨(wrap64 (x6_2 + 1)), (by first | rfl | (simp; done) | (simp [*]; done)), H', ⟨by have := HK1.out; have := HK2.out; omega⟩, ⟨by repeat (first | (with_reducible first | exact HB.out | apply below_alloc | apply pw_below_drewN | apply below_drew1) | exact HB.out)⟩⟩
            · rw [if_neg c4] at H
              have c4b0 : decide ((wrap64 (x5_1 + x6_2)) ≤ a0) = false := decide_eq_false c4
              clear c4
              have H' := Aside0.mk H
              clear H
              go_wp2
              go_roundg k2
              case measure => have := HK1.out; have := HK2.out; omega
              case rel => exact ⟨(wrap64 (x5_1 + 1)), (by first | rfl | (simp; done) | (simp [*]; done)), H', ⟨by have := HK1.out; have := HK2.out; omega⟩, ⟨by repeat (first | (with_reducible first | exact HB.out | apply below_alloc | apply pw_below_drewN | apply below_drew1) | exact HB.out)⟩⟩
      · rw [if_neg c3] at H
        have c3b0 : decide (x5_1 ≤ a0) = false := decide_eq_false c3
        clear c3
        obtain rfl := Option.some.inj H
        go_wp2
        go_ret
        exact ⟨by first | rfl | (simp [errW_none, errW_some] <;> rfl) | (simp [*, errW_none, errW_some] <;> rfl), by repeat (first | (with_reducible first | exact HB.out | apply below_alloc | apply pw_below_drewN | apply below_drew1) | exact HB.out)⟩
def pomaderef04_Proper.f (k : Nat) (a0 : Int) (a1 : ByteArray) : Option (Bool × Int) := (pomaderef04_Triangle.f k a0 a1).bind fun t237 => (if t237 = 0 then ((pomaderef04_proper.f k a0 a1).bind fun t238 => (some (t238, 0))) else (some (false, t237)))
theorem pomaderef04_Proper.mono : ∀ a0 a1 k, LeO (pomaderef04_Proper.f k a0 a1) (pomaderef04_Proper.f (k + 1) a0 a1) := by
  intro a0 a1 k
  unfold pomaderef04_Proper.f
  repeat' first
      | (with_reducible exact pomaderef04_Triangle.mono _ _ _)
      | (with_reducible exact pomaderef04_proper.mono _ _ _)
      | (with_reducible exact LeO.refl _)
      | (with_reducible exact LeO.none _)
      | (with_reducible refine LeO.ite ?_ ?_)
      | (with_reducible refine LeO.bind ?_ (fun _ => ?_))
      | exact pomaderef04_Triangle.mono _ _ _
      | exact pomaderef04_proper.mono _ _ _
      | exact LeO.none _
      | refine LeO.ite ?_ ?_
      | refine LeO.bind ?_ (fun _ => ?_)
set_option maxHeartbeats 8000000 in
set_option maxRecDepth 100000 in
theorem pomaderef04_Proper.calls (k : Nat) (a0 : Int) (a1 : ByteArray) (r1 : Bool) (r2 : Int) (w : World) (h : pomaderef04_Proper.f k a0 a1 = some (r1, r2)) :
    Calls Tryd.prog 26 #[.int .i64 a0, .string a1] w fun e w' => e = .returned (.tuple #[.bool r1, .int .i64 r2]) ∧ Below w.heap.size w w' := by
  have HB := Aside0.mk (Below.refl w.heap.size w)
  have H : ((pomaderef04_Triangle.f k a0 a1).bind fun t237 => (if t237 = 0 then ((pomaderef04_proper.f k a0 a1).bind fun t238 => (some (t238, 0))) else (some (false, t237)))) = some (r1, r2) := h
  clear h
  replace H := Option.bind_eq_some_iff.mp H
  obtain ⟨t237, A30, H⟩ := H
  replace H : (if t237 = 0 then ((pomaderef04_proper.f k a0 a1).bind fun t238 => (some (t238, 0))) else (some (false, t237))) = some (r1, r2) := H
  have A3 := Aside0.mk A30
  clear A30
  by_cases c4 : t237 = 0
  · rw [if_pos c4] at H
    have c4b0 : (t237 == 0) = true := beq_iff_eq.mpr c4
    have c4b1 : (t237 != 0) = false := bne_eq_false_iff_eq.mpr c4
    clear c4
    replace H := Option.bind_eq_some_iff.mp H
    obtain ⟨t238, A50, H⟩ := H
    replace H : (some (t238, 0)) = some (r1, r2) := H
    have A5 := Aside0.mk A50
    clear A50
    simp only [Option.some.injEq, Prod.mk.injEq] at H
    obtain ⟨rfl, rfl⟩ := H
    go_enter Tryd.func26, Tryd.ntmps26
    go_wp2_with (first | ((with_reducible refine gate_callee (f := 30) rfl ?_); refine goesL_ (some 9) rfl rfl Tryd.func30 (by kernel_rfl) rfl #[.int .i64 a0, .string a1] rfl (by (try simp only [List.map_toArray, List.map_cons, List.map_nil]); first | done | rfl | (simp only [List.length_drop, List.length_take]; rfl)) ?_; (with_reducible refine (pomaderef04_Triangle.calls k a0 a1 t237 _ A3.out).mono ?_); rintro e w' ⟨rfl, ⟨nd, rfl⟩⟩; refine ⟨_, rfl, ?_⟩) | ((with_reducible refine gate_callee (f := 55) rfl ?_); refine goesL_ (some 15) rfl rfl Tryd.func55 (by kernel_rfl) rfl #[.int .i64 a0, .string a1] rfl (by (try simp only [List.map_toArray, List.map_cons, List.map_nil]); first | done | rfl | (simp only [List.length_drop, List.length_take]; rfl)) ?_; (with_reducible refine (pomaderef04_proper.calls k a0 a1 t238 _ A5.out).mono ?_); rintro e w6 ⟨rfl, hb⟩; refine ⟨_, rfl, ?_⟩; have n0_ := Aside0.mk (below_step (by repeat (first | (with_reducible first | exact HB.out | apply below_alloc | apply pw_below_drewN | apply below_drew1) | exact HB.out)) hb); clear HB; have HB := n0_; clear n0_; (try clear hb); (try clear hb2); (try clear hk); (try clear hi)))
    go_ret2
    exact ⟨by first | rfl | (simp [errW_none, errW_some] <;> rfl) | (simp [*, errW_none, errW_some] <;> rfl), by repeat (first | (with_reducible first | exact HB.out | apply below_alloc | apply pw_below_drewN | apply below_drew1) | exact HB.out)⟩
  · rw [if_neg c4] at H
    have c4b0 : (t237 == 0) = false := beq_eq_false_iff_ne.mpr c4
    have c4b1 : (t237 != 0) = true := bne_iff_ne.mpr c4
    simp only [Option.some.injEq, Prod.mk.injEq] at H
    obtain ⟨rfl, rfl⟩ := H
    go_enter Tryd.func26, Tryd.ntmps26
    go_wp2_with (first | ((with_reducible refine gate_callee (f := 30) rfl ?_); refine goesL_ (some 9) rfl rfl Tryd.func30 (by kernel_rfl) rfl #[.int .i64 a0, .string a1] rfl (by (try simp only [List.map_toArray, List.map_cons, List.map_nil]); first | done | rfl | (simp only [List.length_drop, List.length_take]; rfl)) ?_; (with_reducible refine (pomaderef04_Triangle.calls k a0 a1 t237 _ A3.out).mono ?_); rintro e w' ⟨rfl, ⟨nd, rfl⟩⟩; refine ⟨_, rfl, ?_⟩))
    go_ret2
    exact ⟨by first | rfl | (simp [errW_none, errW_some] <;> rfl) | (simp [*, errW_none, errW_some] <;> rfl), by repeat (first | (with_reducible first | exact HB.out | apply below_alloc | apply pw_below_drewN | apply below_drew1) | exact HB.out)⟩
mutual
def pomaderef04_Cells.l0 : Nat → Int → List (S77) → Int → Option ((List (S77)))
  | 0, _, _, _ => none
  | k + 1, x0, x3, x4 => if x4 < 2 then (pomaderef04_Cells.l1 k x0 x3 x4 0) else (some x3)
def pomaderef04_Cells.l1 : Nat → Int → List (S77) → Int → Int → Option ((List (S77)))
  | 0, _, _, _, _ => none
  | k + 1, x0, x3, x4, x5 => if x5 < x0 then (pomaderef04_Cells.l2 k x0 x3 x4 x5 0) else (pomaderef04_Cells.l0 k x0 x3 (wrap64 (x4 + 1)))
def pomaderef04_Cells.l2 : Nat → Int → List (S77) → Int → Int → Int → Option ((List (S77)))
  | 0, _, _, _, _, _ => none
  | k + 1, x0, x3, x4, x5, x6 => if (wrap64 (x5 + x6)) < (wrap64 (x0 - x4)) then (if x3.length < 5864062014805 then (pomaderef04_Cells.l2 k x0 (x3 ++ [(⟨x4, x5, x6⟩ : S77)]) x4 x5 (wrap64 (x6 + 1))) else (none)) else (pomaderef04_Cells.l1 k x0 x3 x4 (wrap64 (x5 + 1)))
end
def pomaderef04_Cells.f (k : Nat) (a0 : Int) : Option ((List (S77))) := pomaderef04_Cells.l0 k a0 ([] : List (S77)) 0
theorem pomaderef04_Cells.mono_l : ∀ k, (∀ y0 y1 y2, LeO (pomaderef04_Cells.l0 k y0 y1 y2) (pomaderef04_Cells.l0 (k + 1) y0 y1 y2)) ∧ (∀ y0 y1 y2 y3, LeO (pomaderef04_Cells.l1 k y0 y1 y2 y3) (pomaderef04_Cells.l1 (k + 1) y0 y1 y2 y3)) ∧ (∀ y0 y1 y2 y3 y4, LeO (pomaderef04_Cells.l2 k y0 y1 y2 y3 y4) (pomaderef04_Cells.l2 (k + 1) y0 y1 y2 y3 y4))
  | 0 => ⟨fun _ _ _ r h => by simp [pomaderef04_Cells.l0] at h, fun _ _ _ _ r h => by simp [pomaderef04_Cells.l1] at h, fun _ _ _ _ _ r h => by simp [pomaderef04_Cells.l2] at h⟩
  | k + 1 => by
    obtain ⟨ih0, ih1, ih2⟩ := pomaderef04_Cells.mono_l k
    refine ⟨?_, ?_, ?_⟩
    · intro y0 y1 y2
      unfold pomaderef04_Cells.l0
      repeat' first
      | (with_reducible exact ih0 _ _ _)
      | (with_reducible exact ih1 _ _ _ _)
      | (with_reducible exact ih2 _ _ _ _ _)
      | (with_reducible exact LeO.refl _)
      | (with_reducible exact LeO.none _)
      | (with_reducible refine LeO.ite ?_ ?_)
      | (with_reducible refine LeO.bind ?_ (fun _ => ?_))
      | exact ih0 _ _ _
      | exact ih1 _ _ _ _
      | exact ih2 _ _ _ _ _
      | exact LeO.none _
      | refine LeO.ite ?_ ?_
      | refine LeO.bind ?_ (fun _ => ?_)
    · intro y0 y1 y2 y3
      unfold pomaderef04_Cells.l1
      repeat' first
      | (with_reducible exact ih0 _ _ _)
      | (with_reducible exact ih1 _ _ _ _)
      | (with_reducible exact ih2 _ _ _ _ _)
      | (with_reducible exact LeO.refl _)
      | (with_reducible exact LeO.none _)
      | (with_reducible refine LeO.ite ?_ ?_)
      | (with_reducible refine LeO.bind ?_ (fun _ => ?_))
      | exact ih0 _ _ _
      | exact ih1 _ _ _ _
      | exact ih2 _ _ _ _ _
      | exact LeO.none _
      | refine LeO.ite ?_ ?_
      | refine LeO.bind ?_ (fun _ => ?_)
    · intro y0 y1 y2 y3 y4
      unfold pomaderef04_Cells.l2
      repeat' first
      | (with_reducible exact ih0 _ _ _)
      | (with_reducible exact ih1 _ _ _ _)
      | (with_reducible exact ih2 _ _ _ _ _)
      | (with_reducible exact LeO.refl _)
      | (with_reducible exact LeO.none _)
      | (with_reducible refine LeO.ite ?_ ?_)
      | (with_reducible refine LeO.bind ?_ (fun _ => ?_))
      | exact ih0 _ _ _
      | exact ih1 _ _ _ _
      | exact ih2 _ _ _ _ _
      | exact LeO.none _
      | refine LeO.ite ?_ ?_
      | refine LeO.bind ?_ (fun _ => ?_)
theorem pomaderef04_Cells.mono : ∀ a0 k, LeO (pomaderef04_Cells.f k a0) (pomaderef04_Cells.f (k + 1) a0) := by
  intro a0 k
  obtain ⟨ih0, ih1, ih2⟩ := pomaderef04_Cells.mono_l k
  unfold pomaderef04_Cells.f
  repeat' first
      | (with_reducible exact ih0 _ _ _)
      | (with_reducible exact ih1 _ _ _ _)
      | (with_reducible exact ih2 _ _ _ _ _)
      | (with_reducible exact LeO.refl _)
      | (with_reducible exact LeO.none _)
      | (with_reducible refine LeO.ite ?_ ?_)
      | (with_reducible refine LeO.bind ?_ (fun _ => ?_))
      | exact ih0 _ _ _
      | exact ih1 _ _ _ _
      | exact ih2 _ _ _ _ _
      | exact LeO.none _
      | refine LeO.ite ?_ ?_
      | refine LeO.bind ?_ (fun _ => ?_)
set_option maxHeartbeats 8000000 in
set_option maxRecDepth 100000 in
theorem pomaderef04_Cells.calls (k : Nat) (a0 : Int) (r : List (S77)) (w : World) (h : pomaderef04_Cells.f k a0 = some r) :
    Calls Tryd.prog 56 #[.int .i64 a0] w fun e w' => ∃ v0_ : Value, e = .returned (v0_) ∧ Kd.R k77 77 w' w.heap.size (fun _ => True) v0_ r ∧ Below w.heap.size w w' := by
  have hu77 := Tryd.underlying77
  have HB := Aside0.mk (Below.refl w.heap.size w)
  have H : (pomaderef04_Cells.l0 k a0 ([] : List (S77)) 0) = some r := h
  clear h
  have H' := Aside0.mk H
  clear H
  go_enter Tryd.func56, Tryd.ntmps56
  go_wp2
  go_loopg [3, 4] k (fun kq v3 v4 w' => ∃ (x3_1 : List (S77)) (x4_1 : Int), v4 = .int .i64 x4_1 ∧ Aside0 (pomaderef04_Cells.l0 kq a0 x3_1 x4_1 = some r) ∧ Aside0 (kq ≤ k) ∧ Aside0 (Kd.R k77 77 w' w.heap.size (fun _ => True) v3 x3_1) ∧ Aside0 (Below w.heap.size w w'))
  case atStart => exact ⟨(([] : List (S77))), (0), (by first | rfl | (simp; done) | (simp [*]; done)), H', ⟨Nat.le_refl _⟩, ⟨by first | exact Kd.R_nil _ _ _ _ _ | exact Kd.N_nil _ _ _ _ _ | exact Kd.V_nil _ _ _ _ _ | exact Kd.Q_nil _ _ _ _ _ | exact Kd.S_nil _ _ _ _ _⟩, ⟨by repeat (first | (with_reducible first | exact HB.out | apply below_alloc | apply pw_below_drewN | apply below_drew1) | exact HB.out)⟩⟩
  case round =>
    clear H'
    obtain ⟨x3_1, x4_1, rfl, HA, HK1, HO_3, HB⟩ := hrel
    cases gk with
    | zero => exact absurd HA.out (by simp [pomaderef04_Cells.l0])
    | succ k1 =>
      have H := HA.out
      clear HA
      simp only [pomaderef04_Cells.l0] at H
      by_cases c2 : x4_1 < 2
      · rw [if_pos c2] at H
        have c2b0 : decide (x4_1 < 2) = true := decide_eq_true c2
        clear c2
        have H' := Aside0.mk H
        clear H
        go_wp2
        go_loopg [3, 5] k1 (fun kq v3 v5 w' => ∃ (x3_2 : List (S77)) (x5_2 : Int), v5 = .int .i64 x5_2 ∧ Aside0 (pomaderef04_Cells.l1 kq a0 x3_2 x4_1 x5_2 = some r) ∧ Aside0 (kq ≤ k1) ∧ Aside0 (Kd.R k77 77 w' w.heap.size (fun _ => True) v3 x3_2) ∧ Aside0 (Below w.heap.size w w'))
        case atStart => exact ⟨(x3_1), (0), (by first | rfl | (simp; done) | (simp [*]; done)), H', ⟨Nat.le_refl _⟩, ⟨by (with_reducible repeat (first | apply Kd.R_alloc | apply Kd.R_drewN | apply Kd.R_drew)); exact HO_3.out⟩, ⟨by repeat (first | (with_reducible first | exact HB.out | apply below_alloc | apply pw_below_drewN | apply below_drew1) | exact HB.out)⟩⟩
        case round =>
          clear H'
          try clear c2
          try clear c2b0
          try clear p2
          obtain ⟨x3_2, x5_2, rfl, HA, HK2, HO_3, HB⟩ := hrel
          cases gk with
          | zero => exact absurd HA.out (by simp [pomaderef04_Cells.l1])
          | succ k2 =>
            have H := HA.out
            clear HA
            simp only [pomaderef04_Cells.l1] at H
            by_cases c3 : x5_2 < a0
            · rw [if_pos c3] at H
              have c3b0 : decide (x5_2 < a0) = true := decide_eq_true c3
              clear c3
              have H' := Aside0.mk H
              clear H
              go_wp2
              go_loopg [3, 6] k2 (fun kq v3 v6 w' => ∃ (x3_3 : List (S77)) (x6_3 : Int), v6 = .int .i64 x6_3 ∧ Aside0 (pomaderef04_Cells.l2 kq a0 x3_3 x4_1 x5_2 x6_3 = some r) ∧ Aside0 (kq ≤ k2) ∧ Aside0 (Kd.R k77 77 w' w.heap.size (fun _ => True) v3 x3_3) ∧ Aside0 (Below w.heap.size w w'))
              case atStart => exact ⟨(x3_2), (0), (by first | rfl | (simp; done) | (simp [*]; done)), H', ⟨Nat.le_refl _⟩, ⟨by (with_reducible repeat (first | apply Kd.R_alloc | apply Kd.R_drewN | apply Kd.R_drew)); exact HO_3.out⟩, ⟨by repeat (first | (with_reducible first | exact HB.out | apply below_alloc | apply pw_below_drewN | apply below_drew1) | exact HB.out)⟩⟩
              case round =>
                clear H'
                try clear c2
                try clear c2b0
                try clear p2
                try clear c3
                try clear c3b0
                try clear p2
                obtain ⟨x3_3, x6_3, rfl, HA, HK3, HO_3, HB⟩ := hrel
                cases gk with
                | zero => exact absurd HA.out (by simp [pomaderef04_Cells.l2])
                | succ k3 =>
                  have H := HA.out
                  clear HA
                  simp only [pomaderef04_Cells.l2] at H
                  by_cases c4 : (wrap64 (x5_2 + x6_3)) < (wrap64 (a0 - x4_1))
                  · rw [if_pos c4] at H
                    have c4b0 : decide ((wrap64 (x5_2 + x6_3)) < (wrap64 (a0 - x4_1))) = true := decide_eq_true c4
                    clear c4
                    by_cases c5 : x3_3.length < 5864062014805
                    · rw [if_pos c5] at H
                      have LMc5 := Aside0.mk c5
                      clear c5
                      obtain ⟨y245, hy245⟩ : ∃ y_ : List (S77), y_ = (x3_3 ++ [(⟨x4_1, x5_2, x6_3⟩ : S77)]) := ⟨_, rfl⟩
                      replace H : (pomaderef04_Cells.l2 k3 a0 y245 x4_1 x5_2 (wrap64 (x6_3 + 1))) = some r := by first | (rw [hy245]; with_reducible exact H) | (have H2_ := (Option.bind_some _ _).symm.trans H; rw [hy245]; with_reducible exact H2_) | (have H2_ := (Option.bind_some _ _).symm.trans H; with_reducible exact H2_) | with_reducible exact H | (rw [hy245]; exact H) | exact H
                      have Ny245 := Aside0.mk hy245
                      clear hy245
                      have H' := Aside0.mk H
                      clear H
                      go_wp2_with (first | ((with_reducible refine gate_builtin (b := .append) (xs := #[.tmp 25, .tmp 30]) rfl ?_); at_builtin; refine Kd.R_append k77 (w0 := w) w.heap.size rfl (.tmp 25) (.tmp 30) 72 77 (.agg #[(.int .i64 0), (.int .i64 0), (.int .i64 0)]) 24 rfl Tryd.underlying72 info77 rfl (by decide) (by omega) u3 x3_3 (⟨x4_1, x5_2, x6_3⟩ : S77) [.int .i64 x4_1, .int .i64 x5_2, .int .i64 x6_3] (fun _ => True) (fun _ => False) rfl rfl ?aP (fun _ hk => hk.elim) ?aF ?aO ?aB ?aS ?aL ?_; (case aP => exact k77_mkM _ _ _ (⟨x4_1, x5_2, x6_3⟩ : S77)); (case aB => exact (by repeat (first | (with_reducible first | exact HB.out | apply below_alloc | apply pw_below_drewN | apply below_drew1) | exact HB.out))); (case aF => exact (fun _ _ => trivial)); (case aO => exact (by (with_reducible repeat (first | apply Kd.R_alloc | apply Kd.R_drewN | apply Kd.R_drew)); exact HO_3.out)); (case aS => exact (below_size (by repeat (first | (with_reducible first | exact HB.out | apply below_alloc | apply pw_below_drewN | apply below_drew1) | exact HB.out)))); (case aL => have := LMc5.out; omega); intro v246 w6 ho hb hg hat; rw [← Ny245.out] at ho; have n0_ := Aside0.mk (hb); have n1_ := Aside0.mk (ho); clear HB; clear HO_3; have HB := n0_; have HO247 := n1_; clear n0_ n1_; clear ho hb hg hat))
                      go_roundg k3
                      case measure => have := HK1.out; have := HK2.out; have := HK3.out; omega
                      case rel => exact ⟨(y245), (wrap64 (x6_3 + 1)), (by first | rfl | (simp; done) | (simp [*]; done)), H', ⟨by have := HK1.out; have := HK2.out; have := HK3.out; omega⟩, ⟨by (with_reducible repeat (first | apply Kd.R_alloc | apply Kd.R_drewN | apply Kd.R_drew)); exact HO247.out⟩, ⟨by repeat (first | (with_reducible first | exact HB.out | apply below_alloc | apply pw_below_drewN | apply below_drew1) | exact HB.out)⟩⟩
                    · rw [if_neg c5] at H
                      exact absurd H (by simp)
                  · rw [if_neg c4] at H
                    have c4b0 : decide ((wrap64 (x5_2 + x6_3)) < (wrap64 (a0 - x4_1))) = false := decide_eq_false c4
                    clear c4
                    have H' := Aside0.mk H
                    clear H
                    go_wp2
                    go_roundg k3
                    case measure => have := HK1.out; have := HK2.out; have := HK3.out; omega
                    case rel => exact ⟨(x3_3), (wrap64 (x5_2 + 1)), (by first | rfl | (simp; done) | (simp [*]; done)), H', ⟨by have := HK1.out; have := HK2.out; have := HK3.out; omega⟩, ⟨by (with_reducible repeat (first | apply Kd.R_alloc | apply Kd.R_drewN | apply Kd.R_drew)); exact HO_3.out⟩, ⟨by repeat (first | (with_reducible first | exact HB.out | apply below_alloc | apply pw_below_drewN | apply below_drew1) | exact HB.out)⟩⟩
            · rw [if_neg c3] at H
              have c3b0 : decide (x5_2 < a0) = false := decide_eq_false c3
              clear c3
              have H' := Aside0.mk H
              clear H
              go_wp2
              go_roundg k2
              case measure => have := HK1.out; have := HK2.out; omega
              case rel => exact ⟨(x3_2), (wrap64 (x4_1 + 1)), (by first | rfl | (simp; done) | (simp [*]; done)), H', ⟨by have := HK1.out; have := HK2.out; omega⟩, ⟨by (with_reducible repeat (first | apply Kd.R_alloc | apply Kd.R_drewN | apply Kd.R_drew)); exact HO_3.out⟩, ⟨by repeat (first | (with_reducible first | exact HB.out | apply below_alloc | apply pw_below_drewN | apply below_drew1) | exact HB.out)⟩⟩
      · rw [if_neg c2] at H
        have c2b0 : decide (x4_1 < 2) = false := decide_eq_false c2
        clear c2
        obtain rfl := Option.some.inj H
        go_wp2
        go_ret
        exact ⟨_, by first | rfl | (simp [errW_none, errW_some] <;> rfl) | (simp [*, errW_none, errW_some] <;> rfl), by (with_reducible repeat (first | apply Kd.R_alloc | apply Kd.R_drewN | apply Kd.R_drew)); exact HO_3.out, by repeat (first | (with_reducible first | exact HB.out | apply below_alloc | apply pw_below_drewN | apply below_drew1) | exact HB.out)⟩
end Go.Proofs.YtlmgkmmdaecpdaaDoor.Im

namespace Go.Proofs.YtlmgkmmdaecpdaaDoor.Im
open Go.RowKit Go.Proofs.YtlmgkmmdaecpdaaDoorW.PrintWords Go.Proofs.YtlmgkmmdaecpdaaDoorW.PrintLast Go.Proofs.YtlmgkmmdaecpdaaDoorW.PrintMore Go.Proofs.YtlmgkmmdaecpdaaDoor.Mi
set_option linter.unusedVariables false
def swI (c : Int) : Int := if c = 120 then 111 else if c = 111 then 120 else c
theorem swI_swI (c : Int) : swI (swI c) = c := by
  unfold swI
  by_cases h : c = 120
  · subst h; rfl
  · by_cases k : c = 111
    · subst k; rfl
    · rw [if_neg h, if_neg k, if_neg h, if_neg k]
def Flip (n : Nat) (bs bt : List Int) : Prop := ∀ a, a < n * n → bt.getD (flp n a) 0 = swI (bs.getD a 0)
theorem Flip.symm {n : Nat} {bs bt : List Int} (hn : 0 < n) (h : Flip n bs bt) : Flip n bt bs := fun a ha => by
  have := h (flp n a) (flp_lt hn ha)
  rw [flp_flp hn ha] at this
  rw [this, swI_swI]
end Go.Proofs.YtlmgkmmdaecpdaaDoor.Im

namespace Go.Proofs.YtlmgkmmdaecpdaaDoor.Im
open Go.RowKit Go.Proofs.YtlmgkmmdaecpdaaDoorW.PrintWords Go.Proofs.YtlmgkmmdaecpdaaDoorW.PrintLast Go.Proofs.YtlmgkmmdaecpdaaDoorW.PrintMore Go.Proofs.YtlmgkmmdaecpdaaDoor.Mi
set_option linter.unusedVariables false
def rowV (xs : List Int) : Array Value := (xs.map fun x => Value.int .i64 x).toArray
structure Row (w : World) (b m : Nat) (xs : List Int) : Prop where
  blk : Blk w b 3 (rowV xs)
  len : xs.length = m
theorem rowV_get {xs : List Int} {i : Nat} (h : i < xs.length) : (rowV xs)[i]? = some (.int .i64 (rd xs (i : Int))) := by
  unfold rowV
  rw [rd_get h, List.getElem?_toArray, List.getElem?_map, List.getElem?_eq_getElem h]
  rfl
theorem Row.get {w : World} {b m : Nat} {xs : List Int} (h : Row w b m xs) {i : Nat} (hi : i < m) : w.cell? ⟨b, i, none⟩ = some (.int .i64 (rd xs (i : Int))) := by
  rw [h.blk.cell i, rowV_get (by rw [h.len]; exact hi)]
theorem Row.set {w : World} {b m : Nat} {xs : List Int} (h : Row w b m xs) (i : Nat) (v : Int) : Row (w.setCell ⟨b, i, none⟩ (.int .i64 v)) b m (xs.set i v) := by
  refine ⟨?_, by rw [List.length_set]; exact h.len⟩
  have e : (rowV xs).setIfInBounds i (.int .i64 v) = rowV (xs.set i v) := by
    unfold rowV
    rw [List.setIfInBounds_toArray, List.map_set]
  rw [← e]
  exact h.blk.set_ i _
theorem Row.far {w : World} {b m : Nat} {xs : List Int} (h : Row w b m xs) {p : Addr} (hp : b ≠ p.block) (u : Value) : Row (w.setCell p u) b m xs := ⟨h.blk.far hp u, h.len⟩
theorem Row.later {w w' : World} {b m : Nat} {xs : List Int} (h : Row w b m xs) (hb : Below w.heap.size w w') : Row w' b m xs := ⟨h.blk.later hb, h.len⟩
theorem Row.drewN {w : World} {b m : Nat} {xs : List Int} (h : Row w b m xs) (q : Nat) : Row (w.drewN q) b m xs := ⟨h.blk.drewN q, h.len⟩
theorem Row.drew {w : World} {b m : Nat} {xs : List Int} (h : Row w b m xs) : Row w.drew b m xs := ⟨h.blk.drew, h.len⟩
theorem Row.R {w : World} {b m : Nat} {xs : List Int} (h : Row w b m xs) (hm : m ≤ 1000) {base : Nat} (hb : base ≤ b) : Kd.R (Kd.int .i64) 3 w base (fun _ => True) (.slice (some ⟨b, 0, none⟩) m m) xs := by
  have h1 : w.ownsRow base 3 1 (.slice (some ⟨b, 0, none⟩) m m) xs.length (encs (Value.int .i64) xs) := by
    have hs : (rowV xs).size = m := by unfold rowV; rw [List.size_toArray, List.length_map, h.len]
    refine ⟨by simp [encs], .inr ⟨b, m, rowV xs, by rw [h.len], hb, h.blk, by rw [h.len]; exact Nat.le_refl _, by unfold maxLen; omega, by rw [hs, Nat.mul_one], ?_⟩⟩
    rw [h.len, Nat.mul_one]
    unfold rowV encs
    rw [List.take_of_length_le (by rw [List.length_map, h.len]; exact Nat.le_refl _)]
  exact Kd.R_of_own h1 (fun _ _ => trivial)
def upL (m : Nat) (f : Nat → Int) (a : Nat) : List Int := (List.range m).map fun i => if i < a then f i else 0
theorem upL_len (m : Nat) (f : Nat → Int) (a : Nat) : (upL m f a).length = m := by unfold upL; simp
theorem upL_get {m : Nat} {f : Nat → Int} {a i : Nat} (h : i < m) : rd (upL m f a) (i : Int) = if i < a then f i else 0 := by
  rw [rd_get (by rw [upL_len]; exact h)]
  unfold upL
  simp
theorem wr_small {x : Int} (h0 : -1000000 ≤ x) (h1 : x ≤ 1000000) : wrap64 x = x := by unfold wrap64; omega
def cstI (p own emp c : Int) : Int := if c = p then own else if c = 46 then emp else 1000
structure Cst (p own emp : Int) (cost : Int → Int) : Prop where
  of : ∀ c, cstI p own emp c = if 0 ≤ cost c then cost c else 1000
  le : ∀ c, cost c ≤ 1
section
variable {n : Nat} {p own emp : Int} {bs : List Int} {cost : Int → Int}
abbrev WyC (n : Nat) (p : Int) (bs : List Int) (cost : Int → Int) (P : List Nat) : Prop := Wy (n * n) (NearN n) (okC bs cost) (enP n p) P
def cI (p own emp : Int) (bs : List Int) (a : Nat) : Int := cstI p own emp (bs.getD a 0)
def oI (n : Nat) (p own emp : Int) (bs : List Int) (a : Nat) : Int := if enP n p a ∧ cI p own emp bs a < 1000 then cI p own emp bs a else 1000
theorem cI_ok (h : Cst p own emp cost) (a : Nat) : (cI p own emp bs a < 1000 ↔ okC bs cost a) ∧ (okC bs cost a → cI p own emp bs a = (coC bs cost a : Nat)) ∧ 0 ≤ cI p own emp bs a ∧ cI p own emp bs a ≤ 1000 ∧ coC bs cost a ≤ 1 := by
  have h1 := h.of (bs.getD a 0)
  have h2 := h.le (bs.getD a 0)
  unfold cI okC coC
  rw [h1]
  split
  · refine ⟨⟨fun _ => by assumption, fun _ => by omega⟩, fun _ => by omega, by omega, by omega, by omega⟩
  · refine ⟨⟨fun h => by omega, fun h => by omega⟩, fun h => by omega, by omega, by omega, by omega⟩
structure WayI (n : Nat) (p : Int) (bs : List Int) (cost : Int → Int) (xs : List Int) : Prop where
  low : ∀ a, a < n * n → 0 ≤ rd xs (a : Int) ∧ rd xs (a : Int) ≤ 1000
  real : ∀ a, a < n * n → rd xs (a : Int) < 1000 → ∃ P, WyC n p bs cost P ∧ headN P = a ∧ (costN (coC bs cost) P : Int) = rd xs (a : Int)
  first : ∀ a, a < n * n → okC bs cost a → enP n p a → rd xs (a : Int) ≤ (coC bs cost a : Nat)
def St (n : Nat) (p own emp : Int) (bs xs : List Int) (a b : Nat) : Prop := cI p own emp bs a < 1000 → NearN n a b → rd xs (a : Int) ≤ rd xs (b : Int) + cI p own emp bs a
theorem WayI.start (h : Cst p own emp cost) : WayI n p bs cost (upL (n * n) (oI n p own emp bs) (n * n)) := by
  have g : ∀ a, a < n * n → rd (upL (n * n) (oI n p own emp bs) (n * n)) (a : Int) = oI n p own emp bs a := fun a ha => by rw [upL_get ha, if_pos ha]
  refine ⟨fun a ha => ?_, fun a ha hl => ?_, fun a ha ho he => ?_⟩
  · rw [g a ha]
    obtain ⟨_, _, h3, h4, _⟩ := cI_ok (bs := bs) h a
    unfold oI
    split <;> omega
  · rw [g a ha] at hl ⊢
    unfold oI at hl ⊢
    split at hl
    · rename_i hc
      have hk := (cI_ok (bs := bs) h a).1.1 hc.2
      refine ⟨[a], Wy.one ha hk hc.1, rfl, ?_⟩
      rw [if_pos hc, (cI_ok (bs := bs) h a).2.1 hk]
      rfl
    · omega
  · rw [g a ha]
    have hc := (cI_ok (bs := bs) h a).1.2 ho
    unfold oI
    rw [if_pos ⟨he, hc⟩, (cI_ok (bs := bs) h a).2.1 ho]
    exact Int.le_refl _
theorem rd_set {xs : List Int} {i : Nat} {v : Int} (h : i < xs.length) (a : Nat) : rd (xs.set i v) (a : Int) = if a = i then v else rd xs (a : Int) := by
  show (xs.set i v).getD ((a : Nat) : Int).toNat 0 = if a = i then v else xs.getD ((a : Nat) : Int).toNat 0
  rw [Int.toNat_natCast, List.getD, List.getD]
  by_cases e : a = i
  · subst e
    rw [if_pos rfl, List.getElem?_set_self h]
    rfl
  · rw [if_neg e, List.getElem?_set_ne (fun x => e x.symm)]
theorem WayI.turn {xs : List Int} (h : Cst p own emp cost) (hw : WayI n p bs cost xs) (hl : xs.length = n * n) {a b : Nat} (ha : a < n * n) (hb : b < n * n) (hc : cI p own emp bs a < 1000) (hn : NearN n a b) (hlt : rd xs (b : Int) + cI p own emp bs a < rd xs (a : Int)) :
    WayI n p bs cost (xs.set a (rd xs (b : Int) + cI p own emp bs a)) := by
  have hk := (cI_ok (bs := bs) h a).1.1 hc
  obtain ⟨_, e2, e3, e4, e5⟩ := cI_ok (bs := bs) h a
  have e2 := e2 hk
  refine ⟨fun x hx => ?_, fun x hx hl2 => ?_, fun x hx ho he => ?_⟩
  · rw [rd_set (by omega)]
    have := hw.low a ha
    have := hw.low b hb
    split
    · omega
    · exact hw.low x hx
  · rw [rd_set (by omega)] at hl2 ⊢
    by_cases e : x = a
    · subst e
      rw [if_pos rfl]
      have := hw.low x hx
      obtain ⟨P, p1, p2, p3⟩ := hw.real b hb (by omega)
      refine ⟨x :: P, p1.cons hx hk (by rw [p2]; exact hn), rfl, ?_⟩
      show ((coC bs cost x + costN (coC bs cost) P : Nat) : Int) = _
      rw [Int.natCast_add, p3, e2]
      omega
    · rw [if_neg e] at hl2 ⊢
      exact hw.real x hx hl2
  · rw [rd_set (by omega)]
    have := hw.first x hx ho he
    split
    · rename_i e
      subst e
      omega
    · exact this
structure Ways (n : Nat) (p : Int) (bs : List Int) (cost : Int → Int) (xs : List Int) : Prop where
  len : xs.length = n * n
  low : ∀ a, a < n * n → 0 ≤ rd xs (a : Int) ∧ rd xs (a : Int) ≤ 1000
  some_ : ∀ a, a < n * n → rd xs (a : Int) < 1000 → Least (n * n) (NearN n) (okC bs cost) (enP n p) (coC bs cost) a (rd xs (a : Int)).toNat
  none_ : ∀ a, a < n * n → rd xs (a : Int) = 1000 → ∀ P, WyC n p bs cost P → headN P ≠ a
theorem cost_few (h : Cst p own emp cost) : ∀ P : List Nat, costN (coC bs cost) P ≤ P.length
  | [] => Nat.le_refl _
  | a :: t => by
    have := (cI_ok (bs := bs) h a).2.2.2.2
    have := cost_few h t
    show coC bs cost a + costN (coC bs cost) t ≤ t.length + 1
    omega
theorem WayI.fin {xs : List Int} (h : Cst p own emp cost) (hw : WayI n p bs cost xs) (hl : xs.length = n * n) (h121 : n * n ≤ 121) (hs : ∀ a, a < n * n → ∀ b, b < n * n → St n p own emp bs xs a b) : Ways n p bs cost xs := by
  have key : ∀ P, WyC n p bs cost P → (fun a => (rd xs ((a : Nat) : Int)).toNat) (headN P) ≤ costN (coC bs cost) P := stable_le (w := fun a => (rd xs ((a : Nat) : Int)).toNat) (fun a ha ho he => by
    have := hw.first a ha ho he
    have := hw.low a ha
    show (rd xs (a : Int)).toNat ≤ _
    omega) (fun a b ha hb hoa hob hn => by
    have h1 := hs a ha b hb ((cI_ok (bs := bs) h a).1.2 hoa) hn
    have h2 := (cI_ok (bs := bs) h a).2.1 hoa
    have := hw.low a ha
    have := hw.low b hb
    show (rd xs (a : Int)).toNat ≤ (rd xs (b : Int)).toNat + _
    omega)
  refine ⟨hl, hw.low, fun a ha hlt => ⟨?_, fun P hP hh => ?_⟩, fun a ha he P hP hh => ?_⟩
  · obtain ⟨P, p1, p2, p3⟩ := hw.real a ha hlt
    exact ⟨P, p1, p2, by omega⟩
  · have := key P hP
    rw [hh] at this
    exact this
  · obtain ⟨P', q1, q2, q3, q4⟩ := hP.simple (c := coC bs cost)
    have h1 := key P' q1
    have h2 := cost_few h P' (bs := bs)
    have h3 := nodup_len _ P' q3 (fun x hx => (q1.mem x hx).1)
    rw [q2, hh] at h1
    have h4 : (rd xs (a : Int)).toNat ≤ costN (coC bs cost) P' := h1
    omega
end
end Go.Proofs.YtlmgkmmdaecpdaaDoor.Im

namespace Go.Proofs.YtlmgkmmdaecpdaaDoor.Im
open Go.RowKit Go.Proofs.YtlmgkmmdaecpdaaDoorW.PrintWords Go.Proofs.YtlmgkmmdaecpdaaDoorW.PrintLast Go.Proofs.YtlmgkmmdaecpdaaDoorW.PrintMore Go.Proofs.YtlmgkmmdaecpdaaDoor.Mi
set_option linter.unusedVariables false
theorem al_full : fulL 1 [48, 50, 49] = [[0, 0, 0]] := by decide
theorem al_rig : rigL 1 [48, 50, 49] = 1 := by decide
theorem al_lef : lefL 1 [48, 50, 49] = 0 := by decide
theorem al_err : triE 1 ⟨#[48, 50, 49]⟩ = 0 := by decide
end Go.Proofs.YtlmgkmmdaecpdaaDoor.Im

namespace Go.Proofs.YtlmgkmmdaecpdaaDoor.Im
open Go.RowKit Go.Proofs.YtlmgkmmdaecpdaaDoorW.PrintWords Go.Proofs.YtlmgkmmdaecpdaaDoorW.PrintLast Go.Proofs.YtlmgkmmdaecpdaaDoorW.PrintMore Go.Proofs.YtlmgkmmdaecpdaaDoor.Mi
set_option linter.unusedVariables false
theorem wy_closed {m : Nat} {nb : Nat → Nat → Prop} {ok en : Nat → Prop} (R : Nat → Prop) (h2 : ∀ a, R a → ∀ b, b < m → nb a b → ok b → R b) (h3 : ∀ a, R a → ¬ en a) : ∀ P, Wy m nb ok en P → ¬ R (headN P)
  | [], h => absurd rfl h.ne
  | [p], h => fun hr => h3 p hr h.fin
  | p :: q :: t, h => fun hr => by
    have hq := h.mem q (List.mem_cons_of_mem _ List.mem_cons_self)
    refine wy_closed R h2 h3 (q :: t) ⟨by simp, h.chain.2, fun x hx => h.mem x (List.mem_cons_of_mem _ hx), h.fin⟩ ?_
    exact h2 p hr q hq.1 h.chain.1 hq.2
theorem brO_closed {n : Nat} {bs : List Int} {p : Int} (R : List Nat) (h1 : ∀ a, a < n * n → okP bs p a → beP n p a → a ∈ R) (h2 : ∀ a ∈ R, ∀ b, b < n * n → NearN n a b → okP bs p b → b ∈ R) (h3 : ∀ a ∈ R, ¬ enP n p a) : brO n bs p = none :=
  brO_none fun P hP hb => wy_closed (fun a => a ∈ R) h2 h3 P hP (by
    have : headN P ∈ P := by
      cases P with
      | nil => exact absurd rfl hP.ne
      | cons a t => exact List.mem_cons_self
    exact h1 _ (hP.mem _ this).1 (hP.mem _ this).2 hb)
theorem al_ox : brO 2 [120, 111, 111, 120] 120 = none := brO_closed [0] (by decide) (by decide) (by decide)
end Go.Proofs.YtlmgkmmdaecpdaaDoor.Im

namespace Go.Proofs.YtlmgkmmdaecpdaaDoor.Im
open Go.RowKit Go.Proofs.YtlmgkmmdaecpdaaDoorW.PrintWords Go.Proofs.YtlmgkmmdaecpdaaDoorW.PrintLast Go.Proofs.YtlmgkmmdaecpdaaDoorW.PrintMore Go.Proofs.YtlmgkmmdaecpdaaDoor.Mi
set_option linter.unusedVariables false
set_option linter.unusedSimpArgs false
def Owns (w : World) (mb m : Nat) (D : DataW Unit) : Prop := w.ownsMap Tryd.prog 9 (plainElem Tryd.prog 5) mb m D
theorem Owns.blk {w w' : World} {mb m : Nat} {D : DataW Unit} (h : Owns w mb m D) (e : w'.heap[mb]? = w.heap[mb]?) : Owns w' mb m D := by
  obtain ⟨es, clock, h1, h2⟩ := h
  exact ⟨es, clock, e.trans h1, h2⟩
theorem Owns.lt {w : World} {mb m : Nat} {D : DataW Unit} (h : Owns w mb m D) : mb < w.heap.size := World.ownsMap.lt h
def tP : Nat → Nat
  | 0 => 0
  | k + 1 => tN k
theorem tN_tP (k : Nat) : tN k = 1 + 121 * tP k := by cases k <;> rfl
def prW (gb mb : Nat) (i : Nat) : Prop := i ≠ gb ∧ i ≠ mb
structure WinsPre (n g gb cb mb m : Nat) (l : List UInt8) (w : World) (D : DataW Unit) : Prop where
  st : Steps w
  hd : Blk w g 89 #[.int .i64 n, .slice (some ⟨gb, 0, none⟩) (n * n) cb]
  byt : Byts w gb (n * n) (bl l)
  len : l.length = n * n
  n1 : 1 ≤ n
  n11 : n ≤ 11
  own : Owns w mb m D
  kn : Known n D
  bud : m + tN (l.count 46) ≤ 9223372036854775807
  cnt : CntOk l
  ng : g ≠ gb
  ngm : g ≠ mb
  nbm : gb ≠ mb
  nb0 : 0 ≠ gb
  nm0 : 0 ≠ mb
theorem WinsPre.brd {n g gb cb mb m : Nat} {l : List UInt8} {w : World} {D : DataW Unit} (h : WinsPre n g gb cb mb m l w D) : Brd w g n gb cb (bl l) :=
  ⟨h.hd, C_of_byts h.byt (by rw [bl_len, h.len]) (by have := Nat.mul_le_mul h.n11 h.n11; omega), by rw [bl_len, h.len], h.n1, h.n11⟩
theorem WinsPre.later {n g gb cb mb m : Nat} {l : List UInt8} {w w' : World} {D : DataW Unit} (h : WinsPre n g gb cb mb m l w D) (hb : Below w.heap.size w w') : WinsPre n g gb cb mb m l w' D :=
  ⟨h.st.later hb, h.hd.later hb, h.byt.later hb, h.len, h.n1, h.n11, h.own.blk (hb.block _ h.own.lt), h.kn, h.bud, h.cnt, h.ng, h.ngm, h.nbm, h.nb0, h.nm0⟩
def WinsPost (n gb mb m : Nat) (l : List UInt8) (w : World) (e : Ending) (w' : World) : Prop :=
  e = .returned (.int .u8 (gv n l)) ∧ Keep (prW gb mb) w w' ∧ Byts w' gb (n * n) (bl l) ∧ ∃ D', Owns w' mb (m + tN (l.count 46)) D' ∧ Known n D'
def WinsAt (n g gb cb mb : Nat) (k : Nat) : Prop := ∀ (l : List UInt8) (m : Nat) (w : World) (D : DataW Unit) (p : Int), l.count 46 = k → ((nxB l).toNat : Int) = p → WinsPre n g gb cb mb m l w D →
  Calls Tryd.prog 44 #[.pointer (some ⟨g, 0, none⟩), .int .u8 p, .map (some mb)] w (WinsPost n gb mb m l w)
structure WinsI (n gb mb m : Nat) (l : List UInt8) (w : World) (D : DataW Unit) (wr : World) : Prop where
  keep : Keep (prW gb mb) w wr
  byt : Byts wr gb (n * n) (bl l)
  own : Owns wr mb m D
  kn : Known n D
theorem set_back {l : List UInt8} {i : Nat} (h : l[i]? = some 46) (a : UInt8) : (bl (l.set i a)).set i 46 = bl l := by
  rw [show (46 : Int) = ((46 : UInt8).toNat : Int) from rfl, ← bl_set, List.set_set]
  congr 1
  apply List.ext_getElem?
  intro j
  rw [List.getElem?_set]
  by_cases e : i = j
  · subst e
    rw [if_pos rfl]
    split
    · exact h.symm
    · rename_i hh
      rw [List.getElem?_eq_none (by omega)]
  · rw [if_neg e]
theorem WinsI.into {n g gb cb mb m m' : Nat} {l : List UInt8} {w wr : World} {D D' : DataW Unit} (h : WinsPre n g gb cb mb m l w D) (hi : WinsI n gb mb m' l w D' wr) {i : Nat} (hl : l[i]? = some 46) (hin : i < n * n) (hb : m' + tN ((l.set i (nxB l)).count 46) ≤ 9223372036854775807) :
    WinsPre n g gb cb mb m' (l.set i (nxB l)) (wr.setCell ⟨gb, i, none⟩ (.int .u8 ((nxB l).toNat : Int))) D' := by
  have hk := hi.keep.trans (Keep.set_ (p := prW gb mb) wr gb i (.int .u8 ((nxB l).toNat : Int)) (fun h => h.1 rfl))
  refine ⟨hk.blk h.st ⟨h.nb0, h.nm0⟩, hk.blk h.hd ⟨h.ng, h.ngm⟩, ?_, by rw [List.length_set]; exact h.len, h.n1, h.n11, ?_, hi.kn, hb, (cnt_set h.cnt hl).1, h.ng, h.ngm, h.nbm, h.nb0, h.nm0⟩
  · rw [bl_set]
    exact hi.byt.set_ (by rw [bl_len, h.len]) hin _
  · exact hi.own.blk (Below.heap_setCell wr _ _ mb (fun e => h.nbm e.symm))
theorem WinsI.back {n g gb cb mb m m' : Nat} {l : List UInt8} {w wr w2 : World} {D D' : DataW Unit} (h : WinsPre n g gb cb mb m l w D) (hi : WinsI n gb mb m' l w D' wr) {i : Nat} (hl : l[i]? = some 46) (hin : i < n * n) {e : Ending}
    (hp : WinsPost n gb mb m' (l.set i (nxB l)) (wr.setCell ⟨gb, i, none⟩ (.int .u8 ((nxB l).toNat : Int))) e w2) :
    e = .returned (.int .u8 (gv n (l.set i (nxB l)))) ∧ Keep (prW gb mb) w w2 ∧ Byts w2 gb (n * n) (bl (l.set i (nxB l))) ∧ ∃ D2, WinsI n gb mb (m' + tN ((l.set i (nxB l)).count 46)) l w D2 (w2.setCell ⟨gb, i, none⟩ (.int .u8 46)) := by
  obtain ⟨he, hk2, hb2, D2, ho2, hn2⟩ := hp
  have hk := (hi.keep.trans (Keep.set_ (p := prW gb mb) wr gb i (.int .u8 ((nxB l).toNat : Int)) (fun h => h.1 rfl))).trans hk2
  refine ⟨he, hk, hb2, D2, ⟨hk.trans (Keep.set_ _ _ _ _ (fun h => h.1 rfl)), ?_, ho2.blk (Below.heap_setCell w2 _ _ mb (fun e => h.nbm e.symm)), hn2⟩⟩
  have := hb2.set_ (by rw [bl_len, List.length_set, h.len]) hin 46
  rw [set_back hl] at this
  exact this
theorem zeroU (w : World) : (zeroValue 5).run Tryd.prog w = .ok (.int .u8 0) w := by kernel_rfl
theorem wf_gv (n : Nat) (l : List UInt8) : (Lit.int .u8 (gv n l)).wf = true := by
  rcases gv_cases n l with e | e <;> rw [e] <;> decide
end Go.Proofs.YtlmgkmmdaecpdaaDoor.Im

namespace Go.Proofs.YtlmgkmmdaecpdaaDoor.Im
open Go.RowKit Go.Proofs.YtlmgkmmdaecpdaaDoorW.PrintWords Go.Proofs.YtlmgkmmdaecpdaaDoorW.PrintLast Go.Proofs.YtlmgkmmdaecpdaaDoorW.PrintMore Go.Proofs.YtlmgkmmdaecpdaaDoor.Mi
set_option linter.unusedVariables false
set_option linter.unusedSimpArgs false
theorem atKey_val {n : Nat} {D : DataW Unit} {l : List UInt8} {c : Int} (hk : Known n D) (hh : Maps.has D (.string l) = true) (hat : D.atKey (.string l) (.lit (.int .u8 0)) = .lit (.int .u8 c)) : c = gv n l := by
  have := hk.2 l hh
  rw [hat] at this
  cases this
  rfl
theorem wins_end {n g gb cb mb m m' : Nat} {l : List UInt8} {w w1 wr w2 : World} {D D' : DataW Unit} (h : WinsPre n g gb cb mb m l w D) (hb : Below w.heap.size w w1) (hi : WinsI n gb mb m' l w1 D' wr) (hm : m' + 1 ≤ m + tN (l.count 46))
    (ho : w2.ownsMap Tryd.prog 9 (plainElem Tryd.prog 5) mb (m' + 1) (D'.put (.string l) (.lit (.int .u8 (gv n l))))) (hg : wr.grownBy w2 (some mb)) : WinsPost n gb mb m l w (.returned (.int .u8 (gv n l))) w2 := by
  have hk : Keep (prW gb mb) wr w2 := Keep.of_grown hg (fun h => h.2 rfl)
  exact ⟨rfl, ((Keep.of_below hb).trans hi.keep).trans hk, hi.byt.blk (hg.block _ hi.byt.lt (fun e => h.nbm (by cases e; rfl))), _, ho.mono hm, hi.kn.put l⟩
set_option maxHeartbeats 6400000 in
set_option maxRecDepth 100000 in
theorem wins_at (n g gb cb mb k : Nat) (ih : ∀ k', k' + 1 = k → WinsAt n g gb cb mb k') : ∀ (l : List UInt8) (m : Nat) (w : World) (D : DataW Unit) (p q : Int), l.count 46 = k → ((nxB l).toNat : Int) = p → (p = 120 ∧ q = 111 ∨ p = 111 ∧ q = 120) → WinsPre n g gb cb mb m l w D →
    Calls Tryd.prog 44 #[.pointer (some ⟨g, 0, none⟩), .int .u8 p, .map (some mb)] w (WinsPost n gb mb m l w) := by
  intro l m w D p q hc hp hpq hpre
  have HPre := Aside0.mk hpre
  have IH := Aside0.mk ih
  have HC := Aside0.mk hc
  have HP := Aside0.mk hp
  obtain ⟨M, hM⟩ : ∃ M, n * n = M := ⟨_, rfl⟩
  have HM := Aside0.mk hM
  have hM121 : M ≤ 121 := by rw [← hM]; exact Nat.mul_le_mul hpre.n11 hpre.n11
  have cg0 : w.cell? ⟨g, 1, none⟩ = some (.slice (some ⟨gb, 0, none⟩) M cb) := by have := hpre.hd.cell 1; rw [hM] at this; exact this
  obtain ⟨s, hs, hsz⟩ : ∃ s : ByteArray, s.data.toList = l ∧ s.size = M := ⟨⟨l.toArray⟩, rfl, by show l.length = M; rw [hpre.len, hM]⟩
  have hse : (⟨l.toArray⟩ : ByteArray) = s := by
    apply ByteArray.ext
    rw [← hs]
  have hby := hpre.byt.bytes hpre.len
  rw [hse] at hby
  have hcv : (convert 60 9 (.slice (some ⟨gb, 0, none⟩) M cb)).run Tryd.prog w = .ok (.string s) w := by
    have := Lib.run_convert_whole (P := Tryd.prog) w 60 5 9 Tryd.underlying60 Tryd.underlying5 Tryd.underlying9 gb 0 s hby cb
    rw [hsz] at this
    exact this
  have hkey : keyOf Tryd.prog 9 (.string s) = some (.string l) := by
    have := WideMaps.keyOf_string_mk (P := Tryd.prog) Tryd.underlying9 (s := s) (by rw [hsz]; exact Nat.le_trans hM121 (by decide))
    rw [hs] at this
    exact this
  have K := Maps.string_keyed (P := Tryd.prog) (k := 9) Tryd.underlying9
  have hkn := hpre.kn
  have hown : w.ownsMap Tryd.prog 9 (plainElem Tryd.prog 5) mb m D := hpre.own
  clear hse hby hs hsz hM hpre ih hc hp
  cases hhas : Maps.has D (.string l) with
  | true =>
    have HV := Aside0.mk (fun c h => atKey_val (c := c) hkn hhas h)
    clear hkn
    go_enter Tryd.func44, Tryd.ntmps44
    go_wp2_with (at_lookup; refine wpList_lookup_own_ok_int _ rfl _ _ 58 rfl 9 5 .u8 K Tryd.underlying58 Tryd.underlying5 (zeroU _) mb m D rfl hown _ _ rfl hkey ?_; intro c hat hwc; rw [hhas]; have HCC := Aside0.mk (HV.out c hat); clear hat)
    go_ret
    rw [HCC.out]
    exact ⟨rfl, Keep.refl _ _, HPre.out.byt, D, hown.mono (Nat.le_add_right _ _), HPre.out.kn⟩
  | false =>
    have HB0 := HPre.out.brd
    have HW := Aside0.mk (winner_any g n gb cb (bl l) w HPre.out.st HB0)
    have hwl : (Lit.int .u8 (gv n l)).wf = true := wf_gv n l
    have hval := fun (v : Int) (h : (Lit.int .u8 v).wf = true) => plainElem_int (H := Unit) (P := Tryd.prog) Tryd.underlying5 h
    have HBud := Aside0.mk HPre.out.bud
    have htp := tN_tP (l.count 46)
    clear HB0 hkn
    by_cases h0 : winB n (bl l) = 0
    · have hz : (winB n (bl l) == 0) = true := by rw [h0]; rfl
      have H0 := Aside0.mk h0
      rw [h0] at HW
      clear hz h0
      have HPQ := Aside0.mk hpq
      rcases hpq with ⟨rfl, rfl⟩ | ⟨rfl, rfl⟩
      · go_enter Tryd.func44, Tryd.ntmps44
        go_wp2_with (at_lookup; refine wpList_lookup_own_ok_int _ rfl _ _ 58 rfl 9 5 .u8 K Tryd.underlying58 Tryd.underlying5 (zeroU _) mb m D rfl hown _ _ rfl hkey ?_; intro c hat hwc; rw [hhas]; clear hat)
        refine HW.out.mono ?_
        rintro e w1 ⟨rfl, hb1⟩
        have HB1 := Aside0.mk hb1
        have HPre1 := Aside0.mk (HPre.out.later hb1)
        have cg1 : w1.cell? ⟨g, 1, none⟩ = some (.slice (some ⟨gb, 0, none⟩) M cb) := (hb1.cell (World.block_lt_of_cell? w _ cg0)).trans cg0
        clear hb1 HW cg0 hcv hown
        go_wp2_with fail
        have hI0 : WinsI n gb mb m l w1 D w1 := ⟨Keep.refl _ _, HPre1.out.byt, HPre1.out.own, HPre1.out.kn⟩
        have HI0 := Aside0.mk hI0
        clear hI0
        go_loopw [11, 40] (fun v11 v40 wr => ∃ (i : Nat) (D' : DataW Unit), i ≤ M ∧ v40 = .int .i64 (i : Int) ∧ v11 = .int .u8 111 ∧ Aside0 (∀ j : Nat, j < i → l[j]? = some 46 → gv n (l.set j (nxB l)) ≠ 120) ∧ Aside0 (WinsI n gb mb (m + i * tP k) l w1 D' wr)) (fun _ v _ => M - (intOf v).toNat)
        case atStart => exact ⟨0, D, Nat.zero_le _, rfl, rfl, ⟨fun j hj => absurd hj (Nat.not_lt_zero j)⟩, ⟨by rw [Nat.zero_mul]; exact HI0.out⟩⟩
        case round =>
          clear HI0
          obtain ⟨i, D', hi, rfl, rfl, HN, HI⟩ := hrel
          have hbnd : m + i * tP k + 1 ≤ m + tN (l.count 46) := by
            have h1 := htp
            rw [HC.out] at h1 ⊢
            have h2 := Nat.mul_le_mul_right (tP k) (Nat.le_trans hi hM121)
            omega
          have HBnd := Aside0.mk hbnd
          by_cases hiM : i < M
          · have hlt : i < l.length := by rw [HPre.out.len, HM.out]; exact hiM
            obtain ⟨b, hb⟩ : ∃ b, l[i]? = some b := ⟨_, List.getElem?_eq_getElem hlt⟩
            have cb0 : wr.cell? ⟨gb, i, none⟩ = some (.int .u8 (b.toNat : Int)) := by
              have := HI.out.byt.cell (i := i) (by rw [HM.out]; exact hiM)
              rw [bl_get hb] at this
              exact this
            have i0 : (0 : Int) ≤ (i : Int) := Int.natCast_nonneg i
            have i1 : (i : Int) < (M : Int) := Int.ofNat_lt.2 hiM
            by_cases hd : b = 46
            · subst hd
              obtain ⟨k', hk'⟩ : ∃ k', k' + 1 = k := ⟨(l.set i (nxB l)).count 46, by rw [count_dots hb (nxB l) (nx_ne l)]; exact HC.out⟩
              have hck : (l.set i (nxB l)).count 46 = k' := by have := count_dots hb (nxB l) (nx_ne l); have := HC.out; omega
              have htk : tP k = tN k' := by rw [← hk']; rfl
              have hin : i < n * n := by rw [HM.out]; exact hiM
              have hbk : m + i * tP k + tN ((l.set i (nxB l)).count 46) ≤ 9223372036854775807 := by
                rw [hck, ← htk]
                have h1 := htp
                have h3 := HBud.out
                rw [HC.out] at h1 h3
                have h2 := Nat.mul_le_mul_right (tP k) (show i + 1 ≤ 121 by omega)
                rw [Nat.add_mul, Nat.one_mul] at h2
                omega
              have hinto := HI.out.into HPre1.out hb hin hbk
              have hnx : ((nxB (l.set i (nxB l))).toNat : Int) = 111 := by
                rw [(cnt_set HPre.out.cnt hb).2, ← nx_num, HP.out]; rfl
              have hcall := IH.out k' hk' (l.set i (nxB l)) (m + i * tP k) _ D' 111 hck hnx hinto
              rw [HP.out] at hcall
              have HCall := Aside0.mk hcall
              have HBack := Aside0.mk (fun e w2 h => HI.out.back (e := e) (w2 := w2) HPre1.out hb hin h)
              rw [HP.out, hck, ← htk] at HBack
              have cgr : wr.cell? ⟨g, 1, none⟩ = some (.slice (some ⟨gb, 0, none⟩) M cb) := by
                have := (HI.out.keep.blk HPre1.out.hd ⟨HPre.out.ng, HPre.out.ngm⟩).cell 1
                rw [HM.out] at this
                exact this
              have fr0 := HI.out.byt.frozen hin
              clear hinto hcall hbk hnx hck htk hlt hk'
              have hown_ : (bl (l.set i (nxB l))).getD i 0 = 120 := by
                have h2 : (l.set i (nxB l))[i]? = some (nxB l) := by rw [List.getElem?_set_self (by rw [HPre.out.len]; exact hin)]
                rw [bl_get h2, HP.out]
              have HO := Aside0.mk hown_
              have hm1 : m + i * tP k + tP k + 1 ≤ m + tN (l.count 46) := by
                have h1 := htp
                rw [HC.out] at h1 ⊢
                have h2 := Nat.mul_le_mul_right (tP k) (show i + 1 ≤ 121 by omega)
                rw [Nat.add_mul, Nat.one_mul] at h2
                omega
              have HM1 := Aside0.mk hm1
              have hlm : m + i * tP k + tP k < maxLen := by
                have h3 := HBud.out
                have : maxLen = 9223372036854775807 := rfl
                omega
              have hin0 := Aside0.mk hin
              clear hown_ hm1 hbnd htp
              by_cases hw : gv n (l.set i (nxB l)) = 120
              · have hgv := gv_move H0.out hb (hw.trans HP.out.symm)
                rw [HP.out] at hgv
                have HGV := Aside0.mk hgv
                have HWW := Aside0.mk hw
                have hv1 := hval 120 (by decide)
                clear hw hgv hb hin
                go_wp2_with fail
                refine HCall.out.mono ?_
                intro e w2 hp2
                obtain ⟨rfl, hk2, hb2, D2, hI2⟩ := HBack.out e w2 hp2
                have cg2 : w2.cell? ⟨g, 1, none⟩ = some (.slice (some ⟨gb, 0, none⟩) M cb) := by
                  have := (hk2.blk HPre1.out.hd ⟨HPre.out.ng, HPre.out.ngm⟩).cell 1
                  rw [HM.out] at this
                  exact this
                have cb2 := hb2.cell hin0.out
                have fr2 := hb2.frozen hin0.out
                have HI2 := Aside0.mk hI2
                have hown2 : (w2.setCell ⟨gb, i, none⟩ (.int .u8 46)).ownsMap Tryd.prog 9 (plainElem Tryd.prog 5) mb (m + i * tP k + tP k) D2 := hI2.own
                rw [HWW.out]
                rw [HO.out] at cb2
                clear hp2 hk2 hb2 hI2 HCall HBack cgr cb0 fr0 HI
                go_wp2_with (at_mapUpdate; refine wpList_mapUpdate_own _ rfl _ _ _ 58 rfl 9 5 K Tryd.underlying58 _ mb (m + i * tP k + tP k) D2 rfl hown2 hlm _ _ (.string l) rfl rfl hkey (.lit (.int .u8 120)) [] hv1 ?_; intro w3 hown3 hg3; have HW3 := Aside0.mk hown3; have HG3 := Aside0.mk hg3; clear hown3 hg3)
                go_ret
                have hfin := wins_end HPre.out HB1.out HI2.out HM1.out (by rw [HGV.out]; exact HW3.out) HG3.out
                rw [HGV.out] at hfin
                exact hfin
              · have HN2 : Aside0 (∀ j : Nat, j < i + 1 → l[j]? = some 46 → gv n (l.set j (nxB l)) ≠ 120) := ⟨fun j hj h => by
                  rcases Nat.lt_or_ge j i with h2 | h2
                  · exact HN.out j h2 h
                  · obtain rfl : j = i := by omega
                    exact hw⟩
                have hx : (gv n (l.set i (nxB l)) == 120) = false := beq_eq_false_iff_ne.2 hw
                clear hw hb hin
                go_wp2_with fail
                refine HCall.out.mono ?_
                intro e w2 hp2
                obtain ⟨rfl, hk2, hb2, D2, hI2⟩ := HBack.out e w2 hp2
                have cg2 : w2.cell? ⟨g, 1, none⟩ = some (.slice (some ⟨gb, 0, none⟩) M cb) := by
                  have := (hk2.blk HPre1.out.hd ⟨HPre.out.ng, HPre.out.ngm⟩).cell 1
                  rw [HM.out] at this
                  exact this
                have cb2 := hb2.cell hin0.out
                have fr2 := hb2.frozen hin0.out
                have HI2 := Aside0.mk hI2
                rw [HO.out] at cb2
                have HN3 := HN2
                clear hp2 hk2 hb2 hI2 HCall HBack cgr cb0 fr0 HI HN2
                generalize gv n (l.set i (nxB l)) = xv at *
                go_wp2_with fail
                go_roundw
                case rel => exact ⟨i + 1, D2, hiM, by go_num, rfl, HN3, ⟨by rw [Nat.add_mul, Nat.one_mul, ← Nat.add_assoc]; exact HI2.out⟩⟩
                case measure => simp [intOf]; omega
            · have hne : ((b.toNat : Int) == 46) = false := by
                have : b.toNat ≠ 46 := fun e => hd (UInt8.toNat_inj.1 e)
                exact beq_eq_false_iff_ne.2 (by omega)
              have hne' : ((b.toNat : Int) != 46) = true := by rw [bne, hne]; rfl
              have HN2 : Aside0 (∀ j : Nat, j < i + 1 → l[j]? = some 46 → gv n (l.set j (nxB l)) ≠ 120) := ⟨fun j hj h => by
                rcases Nat.lt_or_ge j i with h2 | h2
                · exact HN.out j h2 h
                · obtain rfl : j = i := by omega
                  rw [hb] at h
                  exact absurd (Option.some.inj h) hd⟩
              have HI2 : Aside0 (WinsI n gb mb (m + (i + 1) * tP k) l w1 D' wr) := ⟨⟨HI.out.keep, HI.out.byt, World.ownsMap.mono HI.out.own (by rw [Nat.add_mul]; omega), HI.out.kn⟩⟩
              clear hb hd hlt hbnd
              generalize (b.toNat : Int) = bz at *
              go_wp2_with fail
              go_roundw
              case rel => exact ⟨i + 1, D', hiM, by go_num, rfl, HN2, HI2⟩
              case measure => simp [intOf]; omega
          · obtain hiE : i = M := by omega
            have hgv : gv n l = 111 := by
              rw [gv_no H0.out (fun j hj => by
                rw [HP.out]
                refine HN.out j ?_ hj
                have h2 := HPre.out.len
                rw [HM.out] at h2
                rcases Nat.lt_or_ge j l.length with h' | h'
                · omega
                · rw [List.getElem?_eq_none h'] at hj; cases hj), HP.out]
              rfl
            have HGV := Aside0.mk hgv
            have hv1 := hval 111 (by decide)
            have hown2 : wr.ownsMap Tryd.prog 9 (plainElem Tryd.prog 5) mb (m + i * tP k) D' := HI.out.own
            have hlm : m + i * tP k < maxLen := by
              have h3 := HBud.out
              have : maxLen = 9223372036854775807 := rfl
              omega
            clear hgv hbnd htp
            go_wp2_with (at_mapUpdate; refine wpList_mapUpdate_own _ rfl _ _ _ 58 rfl 9 5 K Tryd.underlying58 _ mb (m + i * tP k) D' rfl hown2 hlm _ _ (.string l) rfl rfl hkey (.lit (.int .u8 111)) [] hv1 ?_; intro w3 hown3 hg3; have HW3 := Aside0.mk hown3; have HG3 := Aside0.mk hg3; clear hown3 hg3)
            go_ret
            have hfin := wins_end HPre.out HB1.out HI.out HBnd.out (by rw [HGV.out]; exact HW3.out) HG3.out
            rw [HGV.out] at hfin
            exact hfin

      · go_enter Tryd.func44, Tryd.ntmps44
        go_wp2_with (at_lookup; refine wpList_lookup_own_ok_int _ rfl _ _ 58 rfl 9 5 .u8 K Tryd.underlying58 Tryd.underlying5 (zeroU _) mb m D rfl hown _ _ rfl hkey ?_; intro c hat hwc; rw [hhas]; clear hat)
        refine HW.out.mono ?_
        rintro e w1 ⟨rfl, hb1⟩
        have HB1 := Aside0.mk hb1
        have HPre1 := Aside0.mk (HPre.out.later hb1)
        have cg1 : w1.cell? ⟨g, 1, none⟩ = some (.slice (some ⟨gb, 0, none⟩) M cb) := (hb1.cell (World.block_lt_of_cell? w _ cg0)).trans cg0
        clear hb1 HW cg0 hcv hown
        go_wp2_with fail
        have hI0 : WinsI n gb mb m l w1 D w1 := ⟨Keep.refl _ _, HPre1.out.byt, HPre1.out.own, HPre1.out.kn⟩
        have HI0 := Aside0.mk hI0
        clear hI0
        go_loopw [11, 40] (fun v11 v40 wr => ∃ (i : Nat) (D' : DataW Unit), i ≤ M ∧ v40 = .int .i64 (i : Int) ∧ v11 = .int .u8 120 ∧ Aside0 (∀ j : Nat, j < i → l[j]? = some 46 → gv n (l.set j (nxB l)) ≠ 111) ∧ Aside0 (WinsI n gb mb (m + i * tP k) l w1 D' wr)) (fun _ v _ => M - (intOf v).toNat)
        case atStart => exact ⟨0, D, Nat.zero_le _, rfl, rfl, ⟨fun j hj => absurd hj (Nat.not_lt_zero j)⟩, ⟨by rw [Nat.zero_mul]; exact HI0.out⟩⟩
        case round =>
          clear HI0
          obtain ⟨i, D', hi, rfl, rfl, HN, HI⟩ := hrel
          have hbnd : m + i * tP k + 1 ≤ m + tN (l.count 46) := by
            have h1 := htp
            rw [HC.out] at h1 ⊢
            have h2 := Nat.mul_le_mul_right (tP k) (Nat.le_trans hi hM121)
            omega
          have HBnd := Aside0.mk hbnd
          by_cases hiM : i < M
          · have hlt : i < l.length := by rw [HPre.out.len, HM.out]; exact hiM
            obtain ⟨b, hb⟩ : ∃ b, l[i]? = some b := ⟨_, List.getElem?_eq_getElem hlt⟩
            have cb0 : wr.cell? ⟨gb, i, none⟩ = some (.int .u8 (b.toNat : Int)) := by
              have := HI.out.byt.cell (i := i) (by rw [HM.out]; exact hiM)
              rw [bl_get hb] at this
              exact this
            have i0 : (0 : Int) ≤ (i : Int) := Int.natCast_nonneg i
            have i1 : (i : Int) < (M : Int) := Int.ofNat_lt.2 hiM
            by_cases hd : b = 46
            · subst hd
              obtain ⟨k', hk'⟩ : ∃ k', k' + 1 = k := ⟨(l.set i (nxB l)).count 46, by rw [count_dots hb (nxB l) (nx_ne l)]; exact HC.out⟩
              have hck : (l.set i (nxB l)).count 46 = k' := by have := count_dots hb (nxB l) (nx_ne l); have := HC.out; omega
              have htk : tP k = tN k' := by rw [← hk']; rfl
              have hin : i < n * n := by rw [HM.out]; exact hiM
              have hbk : m + i * tP k + tN ((l.set i (nxB l)).count 46) ≤ 9223372036854775807 := by
                rw [hck, ← htk]
                have h1 := htp
                have h3 := HBud.out
                rw [HC.out] at h1 h3
                have h2 := Nat.mul_le_mul_right (tP k) (show i + 1 ≤ 121 by omega)
                rw [Nat.add_mul, Nat.one_mul] at h2
                omega
              have hinto := HI.out.into HPre1.out hb hin hbk
              have hnx : ((nxB (l.set i (nxB l))).toNat : Int) = 120 := by
                rw [(cnt_set HPre.out.cnt hb).2, ← nx_num, HP.out]; rfl
              have hcall := IH.out k' hk' (l.set i (nxB l)) (m + i * tP k) _ D' 120 hck hnx hinto
              rw [HP.out] at hcall
              have HCall := Aside0.mk hcall
              have HBack := Aside0.mk (fun e w2 h => HI.out.back (e := e) (w2 := w2) HPre1.out hb hin h)
              rw [HP.out, hck, ← htk] at HBack
              have cgr : wr.cell? ⟨g, 1, none⟩ = some (.slice (some ⟨gb, 0, none⟩) M cb) := by
                have := (HI.out.keep.blk HPre1.out.hd ⟨HPre.out.ng, HPre.out.ngm⟩).cell 1
                rw [HM.out] at this
                exact this
              have fr0 := HI.out.byt.frozen hin
              clear hinto hcall hbk hnx hck htk hlt hk'
              have hown_ : (bl (l.set i (nxB l))).getD i 0 = 111 := by
                have h2 : (l.set i (nxB l))[i]? = some (nxB l) := by rw [List.getElem?_set_self (by rw [HPre.out.len]; exact hin)]
                rw [bl_get h2, HP.out]
              have HO := Aside0.mk hown_
              have hm1 : m + i * tP k + tP k + 1 ≤ m + tN (l.count 46) := by
                have h1 := htp
                rw [HC.out] at h1 ⊢
                have h2 := Nat.mul_le_mul_right (tP k) (show i + 1 ≤ 121 by omega)
                rw [Nat.add_mul, Nat.one_mul] at h2
                omega
              have HM1 := Aside0.mk hm1
              have hlm : m + i * tP k + tP k < maxLen := by
                have h3 := HBud.out
                have : maxLen = 9223372036854775807 := rfl
                omega
              have hin0 := Aside0.mk hin
              clear hown_ hm1 hbnd htp
              by_cases hw : gv n (l.set i (nxB l)) = 111
              · have hgv := gv_move H0.out hb (hw.trans HP.out.symm)
                rw [HP.out] at hgv
                have HGV := Aside0.mk hgv
                have HWW := Aside0.mk hw
                have hv1 := hval 111 (by decide)
                clear hw hgv hb hin
                go_wp2_with fail
                refine HCall.out.mono ?_
                intro e w2 hp2
                obtain ⟨rfl, hk2, hb2, D2, hI2⟩ := HBack.out e w2 hp2
                have cg2 : w2.cell? ⟨g, 1, none⟩ = some (.slice (some ⟨gb, 0, none⟩) M cb) := by
                  have := (hk2.blk HPre1.out.hd ⟨HPre.out.ng, HPre.out.ngm⟩).cell 1
                  rw [HM.out] at this
                  exact this
                have cb2 := hb2.cell hin0.out
                have fr2 := hb2.frozen hin0.out
                have HI2 := Aside0.mk hI2
                have hown2 : (w2.setCell ⟨gb, i, none⟩ (.int .u8 46)).ownsMap Tryd.prog 9 (plainElem Tryd.prog 5) mb (m + i * tP k + tP k) D2 := hI2.own
                rw [HWW.out]
                rw [HO.out] at cb2
                clear hp2 hk2 hb2 hI2 HCall HBack cgr cb0 fr0 HI
                go_wp2_with (at_mapUpdate; refine wpList_mapUpdate_own _ rfl _ _ _ 58 rfl 9 5 K Tryd.underlying58 _ mb (m + i * tP k + tP k) D2 rfl hown2 hlm _ _ (.string l) rfl rfl hkey (.lit (.int .u8 111)) [] hv1 ?_; intro w3 hown3 hg3; have HW3 := Aside0.mk hown3; have HG3 := Aside0.mk hg3; clear hown3 hg3)
                go_ret
                have hfin := wins_end HPre.out HB1.out HI2.out HM1.out (by rw [HGV.out]; exact HW3.out) HG3.out
                rw [HGV.out] at hfin
                exact hfin
              · have HN2 : Aside0 (∀ j : Nat, j < i + 1 → l[j]? = some 46 → gv n (l.set j (nxB l)) ≠ 111) := ⟨fun j hj h => by
                  rcases Nat.lt_or_ge j i with h2 | h2
                  · exact HN.out j h2 h
                  · obtain rfl : j = i := by omega
                    exact hw⟩
                have hx : (gv n (l.set i (nxB l)) == 111) = false := beq_eq_false_iff_ne.2 hw
                clear hw hb hin
                go_wp2_with fail
                refine HCall.out.mono ?_
                intro e w2 hp2
                obtain ⟨rfl, hk2, hb2, D2, hI2⟩ := HBack.out e w2 hp2
                have cg2 : w2.cell? ⟨g, 1, none⟩ = some (.slice (some ⟨gb, 0, none⟩) M cb) := by
                  have := (hk2.blk HPre1.out.hd ⟨HPre.out.ng, HPre.out.ngm⟩).cell 1
                  rw [HM.out] at this
                  exact this
                have cb2 := hb2.cell hin0.out
                have fr2 := hb2.frozen hin0.out
                have HI2 := Aside0.mk hI2
                rw [HO.out] at cb2
                have HN3 := HN2
                clear hp2 hk2 hb2 hI2 HCall HBack cgr cb0 fr0 HI HN2
                generalize gv n (l.set i (nxB l)) = xv at *
                go_wp2_with fail
                go_roundw
                case rel => exact ⟨i + 1, D2, hiM, by go_num, rfl, HN3, ⟨by rw [Nat.add_mul, Nat.one_mul, ← Nat.add_assoc]; exact HI2.out⟩⟩
                case measure => simp [intOf]; omega
            · have hne : ((b.toNat : Int) == 46) = false := by
                have : b.toNat ≠ 46 := fun e => hd (UInt8.toNat_inj.1 e)
                exact beq_eq_false_iff_ne.2 (by omega)
              have hne' : ((b.toNat : Int) != 46) = true := by rw [bne, hne]; rfl
              have HN2 : Aside0 (∀ j : Nat, j < i + 1 → l[j]? = some 46 → gv n (l.set j (nxB l)) ≠ 111) := ⟨fun j hj h => by
                rcases Nat.lt_or_ge j i with h2 | h2
                · exact HN.out j h2 h
                · obtain rfl : j = i := by omega
                  rw [hb] at h
                  exact absurd (Option.some.inj h) hd⟩
              have HI2 : Aside0 (WinsI n gb mb (m + (i + 1) * tP k) l w1 D' wr) := ⟨⟨HI.out.keep, HI.out.byt, World.ownsMap.mono HI.out.own (by rw [Nat.add_mul]; omega), HI.out.kn⟩⟩
              clear hb hd hlt hbnd
              generalize (b.toNat : Int) = bz at *
              go_wp2_with fail
              go_roundw
              case rel => exact ⟨i + 1, D', hiM, by go_num, rfl, HN2, HI2⟩
              case measure => simp [intOf]; omega
          · obtain hiE : i = M := by omega
            have hgv : gv n l = 120 := by
              rw [gv_no H0.out (fun j hj => by
                rw [HP.out]
                refine HN.out j ?_ hj
                have h2 := HPre.out.len
                rw [HM.out] at h2
                rcases Nat.lt_or_ge j l.length with h' | h'
                · omega
                · rw [List.getElem?_eq_none h'] at hj; cases hj), HP.out]
              rfl
            have HGV := Aside0.mk hgv
            have hv1 := hval 120 (by decide)
            have hown2 : wr.ownsMap Tryd.prog 9 (plainElem Tryd.prog 5) mb (m + i * tP k) D' := HI.out.own
            have hlm : m + i * tP k < maxLen := by
              have h3 := HBud.out
              have : maxLen = 9223372036854775807 := rfl
              omega
            clear hgv hbnd htp
            go_wp2_with (at_mapUpdate; refine wpList_mapUpdate_own _ rfl _ _ _ 58 rfl 9 5 K Tryd.underlying58 _ mb (m + i * tP k) D' rfl hown2 hlm _ _ (.string l) rfl rfl hkey (.lit (.int .u8 120)) [] hv1 ?_; intro w3 hown3 hg3; have HW3 := Aside0.mk hown3; have HG3 := Aside0.mk hg3; clear hown3 hg3)
            go_ret
            have hfin := wins_end HPre.out HB1.out HI.out HBnd.out (by rw [HGV.out]; exact HW3.out) HG3.out
            rw [HGV.out] at hfin
            exact hfin

    · have hgv := gv_won h0
      have HGV := Aside0.mk hgv
      have hz : (winB n (bl l) == 0) = false := beq_eq_false_iff_ne.2 h0
      have hwf : (Lit.int .u8 (winB n (bl l))).wf = true := by rw [← hgv]; exact hwl
      have hv1 := hval _ hwf
      have hbnd : m + 1 ≤ m + tN (l.count 46) := by omega
      have HBnd := Aside0.mk hbnd
      have hlm : m < maxLen := by
        have h3 := HBud.out
        have : maxLen = 9223372036854775807 := rfl
        omega
      clear hbnd htp hgv h0 hwl
      generalize winB n (bl l) = wv at *
      rcases hpq with ⟨rfl, rfl⟩ | ⟨rfl, rfl⟩
      all_goals
        go_enter Tryd.func44, Tryd.ntmps44
        go_wp2_with (at_lookup; refine wpList_lookup_own_ok_int _ rfl _ _ 58 rfl 9 5 .u8 K Tryd.underlying58 Tryd.underlying5 (zeroU _) mb m D rfl hown _ _ rfl hkey ?_; intro c hat hwc; rw [hhas]; clear hat)
        refine HW.out.mono ?_
        rintro e w1 ⟨rfl, hb1⟩
        have HB1 := Aside0.mk hb1
        have HPre1 := Aside0.mk (HPre.out.later hb1)
        have hown2 : w1.ownsMap Tryd.prog 9 (plainElem Tryd.prog 5) mb m D := HPre1.out.own
        clear hb1 HW cg0 hcv hown
        go_wp2_with (at_mapUpdate; refine wpList_mapUpdate_own _ rfl _ _ _ 58 rfl 9 5 K Tryd.underlying58 _ mb m D rfl hown2 hlm _ _ (.string l) rfl rfl hkey (.lit (.int .u8 wv)) [] hv1 ?_; intro w3 hown3 hg3; have HW3 := Aside0.mk hown3; have HG3 := Aside0.mk hg3; clear hown3 hg3)
        go_ret
        have hfin := wins_end HPre.out HB1.out ⟨Keep.refl _ _, HPre1.out.byt, HPre1.out.own, HPre1.out.kn⟩ HBnd.out (by rw [HGV.out]; exact HW3.out) HG3.out
        rw [HGV.out] at hfin
        exact hfin
theorem wins_method (n g gb cb mb : Nat) : ∀ k, WinsAt n g gb cb mb k
  | 0 => fun l m w D p hc hp hpre => wins_at n g gb cb mb 0 (fun k' h => absurd h (by omega)) l m w D p (231 - p) hc hp (by rcases nxB_or l with e | e <;> rw [e] at hp <;> subst hp <;> simp) hpre
  | k + 1 => fun l m w D p hc hp hpre => wins_at n g gb cb mb (k + 1) (fun k' h => by
      obtain rfl : k' = k := by omega
      exact wins_method n g gb cb mb k') l m w D p (231 - p) hc hp (by rcases nxB_or l with e | e <;> rw [e] at hp <;> subst hp <;> simp) hpre
end Go.Proofs.YtlmgkmmdaecpdaaDoor.Im

namespace Go.Proofs.YtlmgkmmdaecpdaaDoor.Im
open Go.RowKit Go.Proofs.YtlmgkmmdaecpdaaDoorW.PrintWords Go.Proofs.YtlmgkmmdaecpdaaDoorW.PrintLast Go.Proofs.YtlmgkmmdaecpdaaDoorW.PrintMore Go.Proofs.YtlmgkmmdaecpdaaDoor.Mi
set_option linter.unusedVariables false
set_option linter.unusedSimpArgs false
def strW (v : Int) : ByteArray := if v = 120 then ⟨#[120]⟩ else ⟨#[111]⟩
instance (l : List UInt8) : Decidable (CntOk l) := by unfold CntOk; infer_instance
noncomputable def winsR (n : Int) (s : ByteArray) : ByteArray × Int :=
  if boE n s xodB = 0 then (if CntOk s.data.toList then (if s.data.toList.count 46 ≤ 9 then (strW (gv n.toNat s.data.toList), 0) else (⟨#[]⟩, 8)) else (⟨#[]⟩, 9)) else (⟨#[]⟩, boE n s xodB)
def WinsPost2 (n : Int) (s : ByteArray) (w : World) (e : Ending) (w' : World) : Prop := Below w.heap.size w w' ∧ e = .returned (.tuple #[.string (winsR n s).1, .int .i64 (winsR n s).2])
theorem tN_le : ∀ k, k ≤ 9 → tN k ≤ 9223372036854775807 := by decide
set_option maxHeartbeats 6400000 in
set_option maxRecDepth 100000 in
theorem wins_call (n : Int) (s : ByteArray) (w : World) (hst : Steps w) (hs : s.size ≤ 9223372036854775807) :
    Calls Tryd.prog 18 #[.int .i64 n, .string s] w (WinsPost2 n s w) := by
  have HBo := Aside0.mk (fun w => boarded_any n s xodB w hs (by decide) (by decide))
  have HS := Aside0.mk hst
  have hmk := @run_makeMap Tryd.prog
  have HCo := Aside0.mk (fun (c : UInt8) (w : World) => Tryd.strings_Count_one s c w)
  by_cases hE : boE n s xodB = 0
  · have hok := boE_ok hE
    have HE := Aside0.mk hE
    obtain ⟨m, rfl⟩ : ∃ m : Nat, n = m := ⟨n.toNat, by omega⟩
    have hsz : s.size = m * m := by have := hok.2.2; rw [Int.toNat_natCast] at this; exact this
    have hm1 : 1 ≤ m := by omega
    have hm11 : m ≤ 11 := by omega
    have hmm : m * m ≤ 121 := Nat.mul_le_mul hm11 hm11
    have hlen : s.data.toList.length = m * m := by rw [Array.length_toList]; exact hsz
    have HLen := Aside0.mk hlen
    have HSz := Aside0.mk hsz
    obtain ⟨cx, hcx⟩ : ∃ cx, s.data.toList.count 120 = cx := ⟨_, rfl⟩
    obtain ⟨co, hco⟩ : ∃ co, s.data.toList.count 111 = co := ⟨_, rfl⟩
    obtain ⟨cd, hcd⟩ : ∃ cd, s.data.toList.count 46 = cd := ⟨_, rfl⟩
    have lx : cx ≤ 121 := by have := List.count_le_length (a := (120 : UInt8)) (l := s.data.toList); omega
    have lo : co ≤ 121 := by have := List.count_le_length (a := (111 : UInt8)) (l := s.data.toList); omega
    have ld : cd ≤ 121 := by have := List.count_le_length (a := (46 : UInt8)) (l := s.data.toList); omega
    have HX : Aside0 (∀ w, Calls Tryd.prog 43 #[.string s, .string ⟨#[120]⟩] w fun e w' => e = .returned (.int .i64 (cx : Nat)) ∧ w' = w) := ⟨fun w => by have := HCo.out 120 w; unfold Lib.countByte at this; rw [hcx] at this; exact this⟩
    have HO : Aside0 (∀ w, Calls Tryd.prog 43 #[.string s, .string ⟨#[111]⟩] w fun e w' => e = .returned (.int .i64 (co : Nat)) ∧ w' = w) := ⟨fun w => by have := HCo.out 111 w; unfold Lib.countByte at this; rw [hco] at this; exact this⟩
    have HD : Aside0 (∀ w, Calls Tryd.prog 43 #[.string s, .string ⟨#[46]⟩] w fun e w' => e = .returned (.int .i64 (cd : Nat)) ∧ w' = w) := ⟨fun w => by have := HCo.out 46 w; unfold Lib.countByte at this; rw [hcd] at this; exact this⟩
    have HR1 : Aside0 ((cx = co ∨ cx = co + 1) → cd ≤ 9 → winsR m s = (strW (gv m s.data.toList), 0)) := ⟨fun h1 h2 => by
      unfold winsR
      rw [if_pos hE, if_pos (show CntOk s.data.toList by unfold CntOk; rw [hcx, hco]; exact h1), if_pos (by rw [hcd]; exact h2), Int.toNat_natCast]⟩
    have HR2 : Aside0 ((cx = co ∨ cx = co + 1) → ¬ cd ≤ 9 → winsR m s = (⟨#[]⟩, 8)) := ⟨fun h1 h2 => by
      unfold winsR
      rw [if_pos hE, if_pos (show CntOk s.data.toList by unfold CntOk; rw [hcx, hco]; exact h1), if_neg (by rw [hcd]; exact h2)]⟩
    have HR3 : Aside0 (¬ (cx = co ∨ cx = co + 1) → winsR m s = (⟨#[]⟩, 9)) := ⟨fun h1 => by
      unfold winsR
      rw [if_pos hE, if_neg (show ¬ CntOk s.data.toList by unfold CntOk; rw [hcx, hco]; exact h1)]⟩
    have HCX := Aside0.mk hcx
    have HCOO := Aside0.mk hco
    have HCD := Aside0.mk hcd
    have ww : wrap64 ((cx : Int) - (co : Int)) = (cx : Int) - (co : Int) := by unfold wrap64; omega
    unfold xodB at HBo HE
    clear hst hs hE hok hcx hco hcd hlen hsz HCo
    by_cases hA : cx = co ∨ cx = co + 1
    · by_cases hD : cd ≤ 9
      · have HRR : Aside0 (winsR m s = (strW (gv m s.data.toList), 0)) := ⟨HR1.out hA hD⟩
        have hdd : decide (9 < (cd : Int)) = false := decide_eq_false (by omega)
        have HDD := Aside0.mk hD
        have HAA := Aside0.mk hA
        clear HR1 HR2 HR3
        rcases hA with hA | hA
        · have t0 : (((cx : Int) - (co : Int)) == 0) = true := beq_iff_eq.2 (by omega)
          have hnx : ((nxB s.data.toList).toNat : Int) = 120 := by unfold nxB; rw [HCX.out, HCOO.out, if_neg (by omega)]; rfl
          have HNX := Aside0.mk hnx
          clear hnx hA
          go_enter Tryd.func18, Tryd.ntmps18
          go_wp2_with fail
          refine (HBo.out _).mono ?_
          rintro e w1 ⟨hb1, h1⟩
          rw [if_pos HE.out] at h1
          obtain ⟨g, gb, cb, rfl, hbr, hby, hgl, hgg⟩ := h1
          have HB1 := Aside0.mk hb1
          have HBr := Aside0.mk hbr
          have HBy := Aside0.mk hby
          have HG := Aside0.mk (And.intro hgl hgg)
          clear hb1 hbr hby hgl hgg
          go_wp2_with fail
          refine (HX.out _).mono ?_
          rintro e w2 ⟨rfl, rfl⟩
          go_wp2_with fail
          refine (HO.out _).mono ?_
          rintro e w2 ⟨rfl, rfl⟩
          go_wp2_with fail
          refine (HD.out _).mono ?_
          rintro e w2 ⟨rfl, rfl⟩
          go_wp2_with fail
          have hb2 : Below w2.heap.size w2 (w2.alloc (.map #[] 0)) := below_alloc (Below.refl _ _) _
          have hpre : WinsPre m g gb cb w2.heap.size 0 s.data.toList (w2.alloc (.map #[] 0)) (.map []) := by
            have h0 := HBr.out.later hb2
            rw [Int.toNat_natCast] at h0
            have hy : Byts w2 gb (m * m) (bl s.data.toList) := by have := HBy.out; rw [HSz.out] at this; exact this
            have hl0 : 0 < w.heap.size := Blk.lt HS.out
            have hlg : g < w2.heap.size := Blk.lt HBr.out.hd
            have hg := HG.out
            have hcd := HCD.out
            exact ⟨HS.out.later (below_then HB1.out HB1.out.size hb2), h0.hd, hy.later hb2, HLen.out, h0.n1, h0.n11, World.ownsMap_made w2 _ _ _, Known.nil m, by rw [Nat.zero_add]; exact tN_le _ (by rw [hcd]; exact HDD.out), by unfold CntOk; rw [HCX.out, HCOO.out]; exact HAA.out, by omega, by omega, by omega, by omega, by omega⟩
          have HW := Aside0.mk (wins_method m g gb cb w2.heap.size _ s.data.toList 0 _ (.map []) 120 rfl HNX.out hpre)
          have HK2 := Aside0.mk hb2
          clear hpre hb2
          have hgc := gv_cases m s.data.toList
          go_wp2_with fail
          refine HW.out.mono ?_
          rintro e w3 ⟨rfl, hk3, hby3, D3, ho3, hkn3⟩
          have HB3 : Aside0 (Below w.heap.size w w3) := ⟨by
            have hg := HG.out
            have h1 := below_then HB1.out HB1.out.size HK2.out
            have h2 := hk3.below (B := w.heap.size) h1.size (fun i hi => ⟨by omega, by have := HB1.out.size; omega⟩)
            exact h1.trans h2⟩
          clear hk3 hby3 ho3 hkn3 HW
          have hRR := HRR.out
          rcases hgc with hgc | hgc
          · rw [hgc] at hRR ⊢
            go_wp2_with fail
            go_ret2
            exact ⟨HB3.out, by rw [hRR]; rfl⟩
          · rw [hgc] at hRR ⊢
            go_wp2_with fail
            go_ret2
            exact ⟨HB3.out, by rw [hRR]; rfl⟩
        · have t0 : (((cx : Int) - (co : Int)) == 1) = true := beq_iff_eq.2 (by omega)
          have t1 : (((cx : Int) - (co : Int)) == 0) = false := beq_eq_false_iff_ne.2 (by omega)
          have hnx : ((nxB s.data.toList).toNat : Int) = 111 := by unfold nxB; rw [HCX.out, HCOO.out, if_pos (by omega)]; rfl
          have HNX := Aside0.mk hnx
          clear hnx hA
          go_enter Tryd.func18, Tryd.ntmps18
          go_wp2_with fail
          refine (HBo.out _).mono ?_
          rintro e w1 ⟨hb1, h1⟩
          rw [if_pos HE.out] at h1
          obtain ⟨g, gb, cb, rfl, hbr, hby, hgl, hgg⟩ := h1
          have HB1 := Aside0.mk hb1
          have HBr := Aside0.mk hbr
          have HBy := Aside0.mk hby
          have HG := Aside0.mk (And.intro hgl hgg)
          clear hb1 hbr hby hgl hgg
          go_wp2_with fail
          refine (HX.out _).mono ?_
          rintro e w2 ⟨rfl, rfl⟩
          go_wp2_with fail
          refine (HO.out _).mono ?_
          rintro e w2 ⟨rfl, rfl⟩
          go_wp2_with fail
          refine (HD.out _).mono ?_
          rintro e w2 ⟨rfl, rfl⟩
          go_wp2_with fail
          have hb2 : Below w2.heap.size w2 (w2.alloc (.map #[] 0)) := below_alloc (Below.refl _ _) _
          have hpre : WinsPre m g gb cb w2.heap.size 0 s.data.toList (w2.alloc (.map #[] 0)) (.map []) := by
            have h0 := HBr.out.later hb2
            rw [Int.toNat_natCast] at h0
            have hy : Byts w2 gb (m * m) (bl s.data.toList) := by have := HBy.out; rw [HSz.out] at this; exact this
            have hl0 : 0 < w.heap.size := Blk.lt HS.out
            have hlg : g < w2.heap.size := Blk.lt HBr.out.hd
            have hg := HG.out
            have hcd := HCD.out
            exact ⟨HS.out.later (below_then HB1.out HB1.out.size hb2), h0.hd, hy.later hb2, HLen.out, h0.n1, h0.n11, World.ownsMap_made w2 _ _ _, Known.nil m, by rw [Nat.zero_add]; exact tN_le _ (by rw [hcd]; exact HDD.out), by unfold CntOk; rw [HCX.out, HCOO.out]; exact HAA.out, by omega, by omega, by omega, by omega, by omega⟩
          have HW := Aside0.mk (wins_method m g gb cb w2.heap.size _ s.data.toList 0 _ (.map []) 111 rfl HNX.out hpre)
          have HK2 := Aside0.mk hb2
          clear hpre hb2
          have hgc := gv_cases m s.data.toList
          go_wp2_with fail
          refine HW.out.mono ?_
          rintro e w3 ⟨rfl, hk3, hby3, D3, ho3, hkn3⟩
          have HB3 : Aside0 (Below w.heap.size w w3) := ⟨by
            have hg := HG.out
            have h1 := below_then HB1.out HB1.out.size HK2.out
            have h2 := hk3.below (B := w.heap.size) h1.size (fun i hi => ⟨by omega, by have := HB1.out.size; omega⟩)
            exact h1.trans h2⟩
          clear hk3 hby3 ho3 hkn3 HW
          have hRR := HRR.out
          rcases hgc with hgc | hgc
          · rw [hgc] at hRR ⊢
            go_wp2_with fail
            go_ret2
            exact ⟨HB3.out, by rw [hRR]; rfl⟩
          · rw [hgc] at hRR ⊢
            go_wp2_with fail
            go_ret2
            exact ⟨HB3.out, by rw [hRR]; rfl⟩
      · have HRR : Aside0 (winsR m s = (⟨#[]⟩, 8)) := ⟨HR2.out hA hD⟩
        have hdd : decide (9 < (cd : Int)) = true := decide_eq_true (by omega)
        clear HR1 HR2 HR3
        rcases hA with hA | hA
        · have t0 : (((cx : Int) - (co : Int)) == 0) = true := beq_iff_eq.2 (by omega)
          clear hA
          go_enter Tryd.func18, Tryd.ntmps18
          go_wp2_with fail
          refine (HBo.out _).mono ?_
          rintro e w1 ⟨hb1, h1⟩
          rw [if_pos HE.out] at h1
          obtain ⟨g, gb, cb, rfl, hbr, hby, hgl, hgg⟩ := h1
          have HB1 := Aside0.mk hb1
          have HBr := Aside0.mk hbr
          have HBy := Aside0.mk hby
          have HG := Aside0.mk (And.intro hgl hgg)
          clear hb1 hbr hby hgl hgg
          go_wp2_with fail
          refine (HX.out _).mono ?_
          rintro e w2 ⟨rfl, rfl⟩
          go_wp2_with fail
          refine (HO.out _).mono ?_
          rintro e w2 ⟨rfl, rfl⟩
          go_wp2_with fail
          refine (HD.out _).mono ?_
          rintro e w2 ⟨rfl, rfl⟩
          go_wp2_with fail
          go_ret2
          exact ⟨HB1.out, by rw [HRR.out]; rfl⟩
        · have t0 : (((cx : Int) - (co : Int)) == 1) = true := beq_iff_eq.2 (by omega)
          have t1 : (((cx : Int) - (co : Int)) == 0) = false := beq_eq_false_iff_ne.2 (by omega)
          clear hA
          go_enter Tryd.func18, Tryd.ntmps18
          go_wp2_with fail
          refine (HBo.out _).mono ?_
          rintro e w1 ⟨hb1, h1⟩
          rw [if_pos HE.out] at h1
          obtain ⟨g, gb, cb, rfl, hbr, hby, hgl, hgg⟩ := h1
          have HB1 := Aside0.mk hb1
          have HBr := Aside0.mk hbr
          have HBy := Aside0.mk hby
          have HG := Aside0.mk (And.intro hgl hgg)
          clear hb1 hbr hby hgl hgg
          go_wp2_with fail
          refine (HX.out _).mono ?_
          rintro e w2 ⟨rfl, rfl⟩
          go_wp2_with fail
          refine (HO.out _).mono ?_
          rintro e w2 ⟨rfl, rfl⟩
          go_wp2_with fail
          refine (HD.out _).mono ?_
          rintro e w2 ⟨rfl, rfl⟩
          go_wp2_with fail
          go_ret2
          exact ⟨HB1.out, by rw [HRR.out]; rfl⟩
    · have HRR : Aside0 (winsR m s = (⟨#[]⟩, 9)) := ⟨HR3.out hA⟩
      have t0 : (((cx : Int) - (co : Int)) == 0) = false := beq_eq_false_iff_ne.2 (by omega)
      have t1 : (((cx : Int) - (co : Int)) == 1) = false := beq_eq_false_iff_ne.2 (by omega)
      clear hA HR1 HR2 HR3
      go_enter Tryd.func18, Tryd.ntmps18
      go_wp2_with fail
      refine (HBo.out _).mono ?_
      rintro e w1 ⟨hb1, h1⟩
      rw [if_pos HE.out] at h1
      obtain ⟨g, gb, cb, rfl, hbr, hby, hgl, hgg⟩ := h1
      have HB1 := Aside0.mk hb1
      have HBr := Aside0.mk hbr
      have HBy := Aside0.mk hby
      have HG := Aside0.mk (And.intro hgl hgg)
      clear hb1 hbr hby hgl hgg
      go_wp2_with fail
      refine (HX.out _).mono ?_
      rintro e w2 ⟨rfl, rfl⟩
      go_wp2_with fail
      refine (HO.out _).mono ?_
      rintro e w2 ⟨rfl, rfl⟩
      go_wp2_with fail
      go_ret2
      exact ⟨HB1.out, by rw [HRR.out]; rfl⟩
  · have HR : Aside0 (∀ w', Below w.heap.size w w' → WinsPost2 n s w (.returned (.tuple #[.string ⟨#[]⟩, .int .i64 (boE n s xodB)])) w') := ⟨fun w' hb => ⟨hb, by unfold winsR; rw [if_neg hE]⟩⟩
    have HBo2 := Aside0.mk (fun w1 e w2 (h : BoardedPost n s xodB w1 e w2) => (show e = .returned (.tuple #[.pointer none, .int .i64 (boE n s xodB)]) ∧ Below w1.heap.size w1 w2 by
      unfold BoardedPost at h
      rw [if_neg hE] at h
      exact ⟨h.2, h.1⟩))
    have hz : (boE n s xodB == 0) = false := beq_eq_false_iff_ne.2 hE
    unfold xodB at *
    clear hst hs hE HCo
    generalize boE n s ⟨#[120, 111, 46]⟩ = z at *
    go_enter Tryd.func18, Tryd.ntmps18
    go_wp2_with fail
    refine (HBo.out _).mono ?_
    intro e w1 h1
    obtain ⟨rfl, hb1⟩ := HBo2.out _ _ _ h1
    have HB1 := Aside0.mk hb1
    clear h1 hb1
    go_wp2_with fail
    go_ret2
    exact HR.out _ HB1.out
end Go.Proofs.YtlmgkmmdaecpdaaDoor.Im

namespace Go.Proofs.YtlmgkmmdaecpdaaDoor.Im
open Go.RowKit Go.Proofs.YtlmgkmmdaecpdaaDoorW.PrintWords Go.Proofs.YtlmgkmmdaecpdaaDoorW.PrintLast Go.Proofs.YtlmgkmmdaecpdaaDoorW.PrintMore Go.Proofs.YtlmgkmmdaecpdaaDoor.Mi
set_option linter.unusedVariables false
theorem winB_zero {n : Nat} {bs : List Int} (h1 : brO n bs 120 = none) (h2 : brO n bs 111 = none) : winB n bs = 0 := by unfold winB; rw [h1, h2]; rfl
theorem winB_x {n : Nat} {bs : List Int} (h : (brO n bs 120).isSome = true) : winB n bs = 120 := by unfold winB; rw [if_pos h]
theorem gv_x {n : Nat} {l : List UInt8} (h : (brO n (bl l) 120).isSome = true) : gv n l = 120 := by rw [gv_won (by rw [winB_x h]; decide), winB_x h]
theorem w12 {bs : List Int} (h1 : okP bs 120 1) (h2 : okP bs 120 2) : (brO 2 bs 120).isSome = true :=
  brO_ex (P := [1, 2]) ⟨by simp, ⟨by decide, trivial⟩, fun p hp => by
    simp at hp
    rcases hp with rfl | rfl
    · exact ⟨by omega, h1⟩
    · exact ⟨by omega, h2⟩, by show enP 2 120 2; decide⟩ (by show beP 2 120 1; decide)
theorem w13 {bs : List Int} (h1 : okP bs 120 1) (h2 : okP bs 120 3) : (brO 2 bs 120).isSome = true :=
  brO_ex (P := [1, 3]) ⟨by simp, ⟨by decide, trivial⟩, fun p hp => by
    simp at hp
    rcases hp with rfl | rfl
    · exact ⟨by omega, h1⟩
    · exact ⟨by omega, h2⟩, by show enP 2 120 3; decide⟩ (by show beP 2 120 1; decide)
theorem al_gv0 : gv 2 [111, 120, 46, 46] = 120 :=
  gv_move (winB_zero (brO_closed [1] (by decide) (by decide) (by decide)) (brO_closed [0] (by decide) (by decide) (by decide))) (i := 2) rfl (gv_x (w12 (by decide) (by decide)))
theorem al_gv2 : gv 2 [46, 120, 111, 46] = 120 :=
  gv_move (winB_zero (brO_closed [1] (by decide) (by decide) (by decide)) (brO_closed [2] (by decide) (by decide) (by decide))) (i := 3) rfl (gv_x (w13 (by decide) (by decide)))
theorem al_gv3 : gv 2 [46, 120, 46, 111] = 120 :=
  gv_move (winB_zero (brO_closed [1] (by decide) (by decide) (by decide)) (brO_closed [] (by decide) (by decide) (by decide))) (i := 2) rfl (gv_x (w12 (by decide) (by decide)))
theorem al_gv1 : gv 2 [46, 120, 46, 46] = 120 := by
  have h := gv_no (n := 2) (l := [46, 120, 46, 46]) (winB_zero (brO_closed [1] (by decide) (by decide) (by decide)) (brO_closed [] (by decide) (by decide) (by decide))) (fun i hi => by
    match i, hi with
    | 0, _ => show gv 2 [111, 120, 46, 46] ≠ 111; rw [al_gv0]; decide
    | 1, hi => exact absurd hi (by decide)
    | 2, _ => show gv 2 [46, 120, 111, 46] ≠ 111; rw [al_gv2]; decide
    | 3, _ => show gv 2 [46, 120, 46, 111] ≠ 111; rw [al_gv3]; decide
    | i + 4, hi => simp at hi)
  rw [h]; rfl
theorem al_gv : gv 2 [46, 46, 46, 46] = 120 := gv_move (winB_zero (brO_closed [] (by decide) (by decide) (by decide)) (brO_closed [] (by decide) (by decide) (by decide))) (i := 1) rfl al_gv1
end Go.Proofs.YtlmgkmmdaecpdaaDoor.Im

namespace Go.Proofs.YtlmgkmmdaecpdaaDoor.Im
open Go.RowKit Go.Proofs.YtlmgkmmdaecpdaaDoorW.PrintWords Go.Proofs.YtlmgkmmdaecpdaaDoorW.PrintLast Go.Proofs.YtlmgkmmdaecpdaaDoorW.PrintMore Go.Proofs.YtlmgkmmdaecpdaaDoor.Mi
set_option linter.unusedVariables false
theorem al_c : ∀ a, a < 4 → coC [46, 46, 46, 46] (cost0 120) a = 1 := by decide
theorem al_need : needO 2 [46, 46, 46, 46] 120 = some 2 := needO_some {
  real := ⟨[0, 2], ⟨by simp, ⟨by decide, trivial⟩, fun p hp => by
    simp at hp
    rcases hp with rfl | rfl
    · exact ⟨by omega, by unfold okC; decide⟩
    · exact ⟨by omega, by unfold okC; decide⟩, by show enP 2 120 2; decide⟩, by show beP 2 120 0; decide, by decide⟩
  le := fun P h hb => by
    match P, h, hb with
    | [], h, _ => exact absurd rfl h.ne
    | [p], h, hb =>
      have hm := (h.mem p List.mem_cons_self).1
      have h1 : beP 2 120 p := hb
      have h2 : enP 2 120 p := h.fin
      unfold beP at h1
      unfold enP at h2
      omega
    | p :: q :: t, h, hb =>
      have h1 := al_c p (h.mem p List.mem_cons_self).1
      have h2 := al_c q (h.mem q (List.mem_cons_of_mem _ List.mem_cons_self)).1
      show 2 ≤ coC _ _ p + (coC _ _ q + costN _ t)
      rw [h1, h2]
      omega }
theorem al_way : WyP 2 [120, 111, 111, 120] 111 [2, 1] := ⟨by simp, ⟨by decide, trivial⟩, fun p hp => by
    simp at hp
    rcases hp with rfl | rfl
    · exact ⟨by omega, by decide⟩
    · exact ⟨by omega, by decide⟩, by show enP 2 111 1; decide⟩
theorem al_be : ∀ a, a < 4 → okP [120, 111, 111, 120] 111 a → beP 2 111 a → a = 2 := by decide
theorem al_two {P : List Nat} (h : WyP 2 [120, 111, 111, 120] 111 P) (hb : beP 2 111 (headN P)) : 2 ≤ P.length := by
  match P, h, hb with
  | [], h, _ => exact absurd rfl h.ne
  | [p], h, hb =>
    have h1 : beP 2 111 p := hb
    have h2 : enP 2 111 p := h.fin
    unfold beP at h1
    unfold enP at h2
    omega
  | p :: q :: t, h, hb => simp
theorem al_dist {a d : Nat} (hb : beP 2 111 a) (h : DistP 2 [120, 111, 111, 120] 111 a d) : 2 ≤ d := by
  obtain ⟨P, h1, h2, h3⟩ := h.real
  rw [cost_one] at h3
  have := al_two h1 (by rw [h2]; exact hb)
  omega
theorem al_first : FirstP 2 [120, 111, 111, 120] 111 [2, 1] where
  way := al_way
  start := by show beP 2 111 2; decide
  dist := ⟨⟨[2, 1], al_way, rfl, rfl⟩, fun P hP hh => by
    rw [cost_one]
    exact al_two hP (by rw [hh]; show beP 2 111 2; decide)⟩
  short := fun a d hb h => al_dist hb h
  least := fun a hb h => by
    obtain ⟨P, h1, h2, _⟩ := h.real
    have hm : headN P ∈ P := by
      cases P with
      | nil => exact absurd rfl h1.ne
      | cons x t => exact List.mem_cons_self
    have h3 := h1.mem _ hm
    rw [h2] at h3
    have := al_be a h3.1 h3.2 hb
    show 2 ≤ a
    omega
  greedy := ⟨⟨by decide, fun j hj h => by
    obtain ⟨P, h1, h2, _⟩ := h.real
    have hm : headN P ∈ P := by
      cases P with
      | nil => exact absurd rfl h1.ne
      | cons x t => exact List.mem_cons_self
    have h3 := h1.mem _ hm
    rw [h2] at h3
    have h4 : j ≠ 0 := fun e => by
      have := h3.2
      rw [e] at this
      exact absurd this (by decide)
    omega⟩, trivial⟩
theorem al_bridge : brO 2 [120, 111, 111, 120] 111 = some [2, 1] := brO_some al_first
theorem al_winB : winB 2 [120, 111, 111, 120] = 111 := by unfold winB; rw [al_ox, al_bridge]; rfl
end Go.Proofs.YtlmgkmmdaecpdaaDoor.Im

namespace Go.Proofs.YtlmgkmmdaecpdaaDoor.Im
open Go.RowKit Go.Proofs.YtlmgkmmdaecpdaaDoorW.PrintWords Go.Proofs.YtlmgkmmdaecpdaaDoorW.PrintLast Go.Proofs.YtlmgkmmdaecpdaaDoorW.PrintMore Go.Proofs.YtlmgkmmdaecpdaaDoor.Mi
set_option linter.unusedVariables false
theorem bl_byte (l : List UInt8) (a : Nat) : (bl l).getD a 0 = ((l.getD a 0).toNat : Int) := by
  unfold bl
  rw [List.getD, List.getD, List.getElem?_map]
  cases l[a]? <;> rfl
end Go.Proofs.YtlmgkmmdaecpdaaDoor.Im

namespace Go.Proofs.YtlmgkmmdaecpdaaDoor.Im
open Go.RowKit Go.Proofs.YtlmgkmmdaecpdaaDoorW.PrintWords Go.Proofs.YtlmgkmmdaecpdaaDoorW.PrintLast Go.Proofs.YtlmgkmmdaecpdaaDoorW.PrintMore Go.Proofs.YtlmgkmmdaecpdaaDoor.Mi
set_option linter.unusedVariables false
theorem colour_end (n : Nat) (s : ByteArray) (I j : Nat) (hI : I + j ≤ n) (hs : s.size = offT n (n + 1)) : Gives (fun k => pomaderef04_colour.l0 k n s ((offT n I + j : Nat) : Int) I I j) (((colB n s.data.toList I j).toNat : Nat) : Int) := by
  have hlt := offT_lt hI
  rw [← hs] at hlt
  unfold colB
  clear hs
  generalize offT n I + j = q at *
  refine Gives.now fun k => ?_
  simp only [pomaderef04_colour.l0]
  rw [if_neg (Int.lt_irrefl _), if_pos (Int.natCast_nonneg _), if_pos (Int.ofNat_lt.2 hlt)]
  rw [bt_bs, show bsOf s = bl s.data.toList from rfl, bl_byte]
theorem colour_step (n : Nat) (s : ByteArray) (I j i p q : Nat) (r : Int) (hn : n ≤ 20) (hi : i < I) (hI : I + j ≤ n) (hp : p ≤ 1000) (hq : q = p + (n + 1 - i)) (h : Gives (fun k => pomaderef04_colour.l0 k n s (q : Int) ((i + 1 : Nat) : Int) I j) r) : Gives (fun k => pomaderef04_colour.l0 k n s (p : Int) i I j) r := by
  refine h.step fun k hk => ?_
  have e1 : wrap64 ((p : Int) + wrap64 (wrap64 ((n : Int) + 1) - (i : Int))) = (q : Int) := by
    rw [wr_small (x := (n : Int) + 1) (by omega) (by omega), wr_small (x := (n : Int) + 1 - (i : Int)) (by omega) (by omega), wr_small (by omega) (by omega)]
    omega
  simp only [pomaderef04_colour.l0]
  rw [if_pos (Int.ofNat_lt.2 hi), e1, wr_succ i (by omega)]
  exact hk
theorem colour_l0 (n : Nat) (s : ByteArray) (I j : Nat) (hn : n ≤ 20) (hI : I + j ≤ n) (hs : s.size = offT n (n + 1)) (d : Nat) : ∀ i, i + d = I → Gives (fun k => pomaderef04_colour.l0 k n s ((offT n i + j : Nat) : Int) i I j) (((colB n s.data.toList I j).toNat : Nat) : Int) := by
  induction d with
  | zero =>
    intro i h
    have h2 : i = I := h
    subst h2
    exact colour_end n s i j hI hs
  | succ d ih =>
    intro i h
    have hle := offT_le hn
    have hlt := offT_lt (n := n) (i := i) (j := j) (by omega)
    have hsucc : offT n (i + 1) = offT n i + (n + 1 - i) := rfl
    refine colour_step n s I j i (offT n i + j) (offT n (i + 1) + j) _ hn (by omega) hI (by omega) (by omega) ?_
    exact ih (i + 1) (by omega)
theorem colour_g (n : Nat) (s : ByteArray) (i j : Nat) (hn : n ≤ 20) (hi : i + j ≤ n) (hs : s.size = offT n (n + 1)) : Gives (fun k => pomaderef04_colour.f k n s i j) (((colB n s.data.toList i j).toNat : Nat) : Int) :=
  (colour_l0 n s i j hn hi hs i 0 (by omega)).map fun k hk => by
    simp only [pomaderef04_colour.f]
    rw [show offT n 0 = 0 from rfl, Nat.zero_add] at hk
    exact hk
theorem colour_any (n : Nat) (s : ByteArray) (i j : Nat) (w : World) (hn : n ≤ 20) (hi : i + j ≤ n) (hs : s.size = offT n (n + 1)) : Calls Tryd.prog 73 #[.int .i64 n, .string s, .agg #[.int .i64 i, .int .i64 j]] w fun e w' => e = .returned (.int .u8 ((colB n s.data.toList i j).toNat : Nat)) ∧ Below w.heap.size w w' := by
  obtain ⟨k0, hk0⟩ := colour_g n s i j hn hi hs
  exact pomaderef04_colour.calls k0 n s i j _ w (hk0 k0 (Nat.le_refl _))
theorem rfull_fin : ∀ x ∈ three, ∀ y ∈ three, ∀ z ∈ three, pomaderef04_full.f ⟨#[x, y, z]⟩ = some (fulB ⟨#[x, y, z]⟩) := by
  intro x hx y hy z hz
  simp only [three, List.mem_cons, List.not_mem_nil, or_false] at hx hy hz
  rcases hx with rfl | rfl | rfl <;> rcases hy with rfl | rfl | rfl <;> rcases hz with rfl | rfl | rfl <;> decide +kernel
theorem rfull_any (x y z : UInt8) (hx : x ∈ three) (hy : y ∈ three) (hz : z ∈ three) (w : World) : Calls Tryd.prog 57 #[.string ⟨#[x, y, z]⟩] w fun e w' => e = .returned (.bool (fulB ⟨#[x, y, z]⟩)) ∧ Below w.heap.size w w' :=
  (pomaderef04_full.calls _ _ w (rfull_fin x hx y hy z hz)).mono fun e w' ⟨h1, h2⟩ => ⟨h1, h2.below⟩
end Go.Proofs.YtlmgkmmdaecpdaaDoor.Im

