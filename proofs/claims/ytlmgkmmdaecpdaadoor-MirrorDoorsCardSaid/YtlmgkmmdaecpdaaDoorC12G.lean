/- Further parts of the same walk: contracts of the functions that the law reaches, each under the conditions that it states. -/
import Derived.Test.YtlmgkmmdaecpdaaDoorC12F
import Derived.Deep.WholeRow
namespace Go.Proofs.YtlmgkmmdaecpdaaDoor.Im
open Go.RowKit Go.Proofs.YtlmgkmmdaecpdaaDoorW.PrintWords Go.Proofs.YtlmgkmmdaecpdaaDoorW.PrintLast Go.Proofs.YtlmgkmmdaecpdaaDoorW.PrintMore
set_option linter.unusedVariables false
def stepsA : Array Value := #[.int .i64 0, .int .i64 (-1), .int .i64 0, .int .i64 1, .int .i64 (-1), .int .i64 0, .int .i64 (-1), .int .i64 1, .int .i64 1, .int .i64 (-1), .int .i64 1, .int .i64 0]
def Steps (w : World) : Prop := Blk w 0 121 stepsA
def stepsV : Value := .agg #[.int .i64 0, .int .i64 (-1), .int .i64 0, .int .i64 1, .int .i64 (-1), .int .i64 0, .int .i64 (-1), .int .i64 1, .int .i64 1, .int .i64 (-1), .int .i64 1, .int .i64 0]
def stA : Nat → Int | 0 => 0 | 1 => 0 | 2 => -1 | 3 => -1 | _ => 1
def stB : Nat → Int | 0 => -1 | 1 => 1 | 2 => 0 | 3 => 1 | 4 => -1 | _ => 0
theorem step_idx0 (w : World) : (Instr.index 121 stepsV (.int .i64 0)).run Tryd.prog w = .ok (.agg #[.int .i64 0, .int .i64 (-1)]) w := by kernel_rfl
theorem step_idx1 (w : World) : (Instr.index 121 stepsV (.int .i64 1)).run Tryd.prog w = .ok (.agg #[.int .i64 0, .int .i64 1]) w := by kernel_rfl
theorem step_idx2 (w : World) : (Instr.index 121 stepsV (.int .i64 2)).run Tryd.prog w = .ok (.agg #[.int .i64 (-1), .int .i64 0]) w := by kernel_rfl
theorem step_idx3 (w : World) : (Instr.index 121 stepsV (.int .i64 3)).run Tryd.prog w = .ok (.agg #[.int .i64 (-1), .int .i64 1]) w := by kernel_rfl
theorem step_idx4 (w : World) : (Instr.index 121 stepsV (.int .i64 4)).run Tryd.prog w = .ok (.agg #[.int .i64 1, .int .i64 (-1)]) w := by kernel_rfl
theorem step_idx5 (w : World) : (Instr.index 121 stepsV (.int .i64 5)).run Tryd.prog w = .ok (.agg #[.int .i64 1, .int .i64 0]) w := by kernel_rfl
theorem step_idx (k : Nat) (hk : k < 6) (w : World) : (Instr.index 121 stepsV (.int .i64 (k : Nat))).run Tryd.prog w = .ok (.agg #[.int .i64 (stA k), .int .i64 (stB k)]) w := by
  rcases k with _|_|_|_|_|_|k
  · exact step_idx0 w
  · exact step_idx1 w
  · exact step_idx2 w
  · exact step_idx3 w
  · exact step_idx4 w
  · exact step_idx5 w
  · omega
theorem stA_le (k : Nat) : -1 ≤ stA k ∧ stA k ≤ 1 := by unfold stA; split <;> omega
theorem stB_le (k : Nat) : -1 ≤ stB k ∧ stB k ≤ 1 := by unfold stB; split <;> omega
def nbAt (n i : Nat) (a b : Int) : List Nat := if 0 ≤ (i / n : Nat) + a ∧ (i / n : Nat) + a < n ∧ 0 ≤ (i % n : Nat) + b ∧ (i % n : Nat) + b < n then [(((i / n : Nat) + a) * n + ((i % n : Nat) + b)).toNat] else []
def unsN (n i k : Nat) : List Nat := (List.range k).flatMap fun j => nbAt n i (stA j) (stB j)
theorem unsN_succ (n i k : Nat) : unsN n i (k + 1) = unsN n i k ++ nbAt n i (stA k) (stB k) := by
  unfold unsN
  rw [List.range_succ, List.flatMap_append]
  simp
theorem unsN_len (n i : Nat) : ∀ k, (unsN n i k).length ≤ k
  | 0 => by simp [unsN]
  | k + 1 => by
    have := unsN_len n i k
    rw [unsN_succ, List.length_append]
    unfold nbAt
    split <;> simp <;> omega
theorem ints_append (a b : List Nat) : ints (a ++ b) = ints a ++ ints b := by simp [ints]
set_option maxHeartbeats 1600000 in
set_option maxRecDepth 100000 in
theorem neighbours0 (g : Nat) (n i : Nat) (u : Value) (w : World) (h1 : 1 ≤ n) (h11 : n ≤ 11) (hi : i < n * n) (hs : Steps w) (hb : Blk w g 89 #[.int .i64 n, u]) :
    Calls Tryd.prog 67 #[.pointer (some ⟨g, 0, none⟩), .int .i64 i] w fun e w' => ∃ v, e = .returned v ∧ Kd.R (Kd.int .i64) 3 w' w.heap.size (fun _ => True) v ((ints (unsN n i 6)).mergeSort fun x y => decide (x ≤ y)) ∧ Below w.heap.size w w' := by
  have hb0 : w.cell? ⟨g, 0, none⟩ = some (.int .i64 n) := hb.cell 0
  have s0 : w.cell? ⟨0, 0, none⟩ = some (.int .i64 0) := hs.cell 0
  have s1 : w.cell? ⟨0, 1, none⟩ = some (.int .i64 (-1)) := hs.cell 1
  have s2 : w.cell? ⟨0, 2, none⟩ = some (.int .i64 0) := hs.cell 2
  have s3 : w.cell? ⟨0, 3, none⟩ = some (.int .i64 1) := hs.cell 3
  have s4 : w.cell? ⟨0, 4, none⟩ = some (.int .i64 (-1)) := hs.cell 4
  have s5 : w.cell? ⟨0, 5, none⟩ = some (.int .i64 0) := hs.cell 5
  have s6 : w.cell? ⟨0, 6, none⟩ = some (.int .i64 (-1)) := hs.cell 6
  have s7 : w.cell? ⟨0, 7, none⟩ = some (.int .i64 1) := hs.cell 7
  have s8 : w.cell? ⟨0, 8, none⟩ = some (.int .i64 1) := hs.cell 8
  have s9 : w.cell? ⟨0, 9, none⟩ = some (.int .i64 (-1)) := hs.cell 9
  have s10 : w.cell? ⟨0, 10, none⟩ = some (.int .i64 1) := hs.cell 10
  have s11 : w.cell? ⟨0, 11, none⟩ = some (.int .i64 0) := hs.cell 11
  have HS := Aside0.mk hs
  have HB := Aside0.mk hb
  clear hs hb
  go_enter Tryd.func67, Tryd.ntmps67
  go_wp2_with fail
  clear s0 s1 s2 s3 s4 s5 s6 s7 s8 s9 s10 s11
  have hidx := step_idx
  unfold stepsV at hidx
  generalize Value.agg #[.int .i64 0, .int .i64 (-1), .int .i64 0, .int .i64 1, .int .i64 (-1), .int .i64 0, .int .i64 (-1), .int .i64 1, .int .i64 1, .int .i64 (-1), .int .i64 1, .int .i64 0] = V at *
  have HI := Aside0.mk hidx
  clear hidx
  go_loopw [5, 11] (fun v5 v wr => ∃ k : Nat, k ≤ 6 ∧ v = .int .i64 (k : Int) ∧ Aside0 (Kd.R (Kd.int .i64) 3 wr w.heap.size (fun _ => True) v5 (ints (unsN n i k))) ∧ Aside0 (Below w.heap.size w wr)) (fun _ v _ => 6 - (intOf v).toNat)
  case atStart => exact ⟨0, Nat.zero_le _, rfl, ⟨Kd.R_nil _ _ _ _ _⟩, ⟨Below.refl _ _⟩⟩
  case round =>
    obtain ⟨k, hk, rfl, HR, HBr⟩ := hrel
    by_cases hk6 : k < 6
    · have hidx := HI.out k hk6 wr
      have hsn := unsN_succ n i k
      have hA := stA_le k
      have hB := stB_le k
      have hln := unsN_len n i k
      unfold nbAt at hsn
      generalize stA k = a at *
      generalize stB k = b at *
      have q11 : i / n < n := Nat.div_lt_of_lt_mul hi
      have m11 : i % n < n := Nat.mod_lt _ (by omega)
      have e1 : wrap64 ((i : Int) / (n : Int)) = ((i / n : Nat) : Int) := by
        rw [← Int.natCast_ediv]
        generalize i / n = q at *
        unfold wrap64; omega
      have e3 : (i : Int) % (n : Int) = ((i % n : Nat) : Int) := rfl
      generalize i / n = q at *
      generalize i % n = m at *
      obtain ⟨R, hR⟩ : ∃ R : Int, (q : Int) + a = R := ⟨_, rfl⟩
      obtain ⟨C, hC⟩ : ∃ C : Int, (m : Int) + b = C := ⟨_, rfl⟩
      have e2 : wrap64 ((q : Int) + a) = R := by rw [hR]; unfold wrap64; omega
      have e4 : wrap64 ((m : Int) + b) = C := by rw [hC]; unfold wrap64; omega
      rw [hR, hC] at hsn
      clear hR hC hA hB q11 m11
      have cb := HB.out.later HBr.out
      have cb0 : wr.cell? ⟨g, 0, none⟩ = some (.int .i64 n) := cb.cell 0
      have HCB := Aside0.mk cb
      clear cb hb0
      have hn0 : ((n : Int) == 0) = false := beq_eq_false_iff_ne.2 (by omega)
      have hi' : Aside0 (k < 6) := ⟨hk6⟩
      go_wp2_with fail
      have hbl : Below wr.heap.size wr (wr.alloc (.cells #[.int .i64 a, .int .i64 b] 95)) := below_alloc (Below.refl _ _) _
      have n0 := Blk.new wr 95 #[.int .i64 a, .int .i64 b]
      have HB2 := Aside0.mk (below_then HBr.out HBr.out.size hbl)
      have HR2 := Aside0.mk (Kd.R_below HR.out hbl)
      have cb1 := (HCB.out.later hbl).cell 0
      have cx0 := n0.cell 0
      have cx1 := n0.cell 1
      clear hbl n0 hidx cb0 HR HCB
      generalize wr.alloc (.cells #[.int .i64 a, .int .i64 b] 95) = W1 at *
      generalize wr.heap.size = gs at *
      have cb1' : W1.cell? ⟨g, 0, none⟩ = some (.int .i64 n) := cb1
      have cx0' : W1.cell? ⟨gs, 0, none⟩ = some (.int .i64 a) := cx0
      have cx1' : W1.cell? ⟨gs, 1, none⟩ = some (.int .i64 b) := cx1
      clear cb1 cx0 cx1
      go_quiet (fail)
      have HB3 := Aside0.mk (pw_below_drewN HB2.out nq)
      have HR3 := Aside0.mk (Kd.R_below HR2.out (pw_below_drewN (Below.refl _ _) nq))
      have cb2 : (W1.drewN nq).cell? ⟨g, 0, none⟩ = some (.int .i64 n) := cb1'
      clear HB2 HR2 cb1' cx0' cx1'
      generalize W1.drewN nq = W2 at *
      by_cases h0 : 0 ≤ R ∧ R < n ∧ 0 ≤ C ∧ C < n
      · rw [if_pos h0] at hsn
        obtain ⟨h0, h2, h3, h4⟩ := h0
        have HSN := Aside0.mk hsn
        obtain ⟨V2, hV⟩ : ∃ V : Nat, R * n + C = V := ⟨(R * n + C).toNat, by have : 0 ≤ R * (n : Int) := Int.mul_nonneg h0 (by omega); omega⟩
        have hm : R * (n : Int) ≤ 11 * 11 := Int.mul_le_mul (by omega) (by omega) (by omega) (by omega)
        have hm0 : 0 ≤ R * (n : Int) := Int.mul_nonneg h0 (by omega)
        have e5 : wrap64 (R * (n : Int)) = R * (n : Int) := by unfold wrap64; omega
        have e6 : wrap64 (R * (n : Int) + C) = (V2 : Int) := by rw [hV]; unfold wrap64; omega
        rw [hV, Int.toNat_natCast] at HSN
        clear hV hm hm0 hsn
        go_wp2_with (first | ((with_reducible refine gate_builtin (b := .append) (xs := #[.tmp 54, .tmp 63]) rfl ?_); at_builtin; refine Kd.R_append (Kd.int .i64) (w0 := w) w.heap.size rfl (.tmp 54) (.tmp 63) 34 3 (.int .i64 0) 8 rfl Tryd.underlying34 info3 rfl (by decide) (by omega) u5 (ints (unsN n i k)) (V2 : Int) [.int .i64 V2] (fun _ => True) (fun _ => False) rfl rfl rfl (fun _ hk => hk.elim) (fun _ _ => trivial) HR3.out HB3.out HB3.out.size (by rw [ints_length]; omega) ?_; intro v9 w9 ho hb hg hat; have HO9 := Aside0.mk ho; have HB9 := Aside0.mk hb; clear ho hb hg hat))
        go_roundw
        case rel => exact ⟨k + 1, by omega, by go_num, ⟨by rw [HSN.out, ints_append]; exact HO9.out⟩, HB9⟩
        case measure => simp [intOf]; omega
      · rw [if_neg h0, List.append_nil] at hsn
        have HSN := Aside0.mk hsn
        clear hsn
        by_cases h1' : 0 ≤ R
        · by_cases h2 : R < n
          · by_cases h3 : 0 ≤ C
            · have h4 : ¬ C < n := fun h4 => h0 ⟨h1', h2, h3, h4⟩
              clear h0
              go_wp2_with fail
              go_roundw
              case rel => exact ⟨k + 1, by omega, by go_num, ⟨by rw [HSN.out]; exact HR3.out⟩, HB3⟩
              case measure => simp [intOf]; omega
            · clear h0
              go_wp2_with fail
              go_roundw
              case rel => exact ⟨k + 1, by omega, by go_num, ⟨by rw [HSN.out]; exact HR3.out⟩, HB3⟩
              case measure => simp [intOf]; omega
          · clear h0
            go_wp2_with fail
            go_roundw
            case rel => exact ⟨k + 1, by omega, by go_num, ⟨by rw [HSN.out]; exact HR3.out⟩, HB3⟩
            case measure => simp [intOf]; omega
        · clear h0
          go_wp2_with fail
          go_roundw
          case rel => exact ⟨k + 1, by omega, by go_num, ⟨by rw [HSN.out]; exact HR3.out⟩, HB3⟩
          case measure => simp [intOf]; omega
    · obtain rfl : k = 6 := by omega
      have hln := unsN_len n i 6
      have hne : ∀ j, u5.ownBlock = some j → w.heap.size ≤ j := fun j hj => by
        rcases (Kd.own_of_R HR.out).2 with ⟨rfl, _⟩ | ⟨g', cap, cur, rfl, hbase, _⟩
        · cases hj
        · cases hj; exact hbase
      have HS2 := Aside0.mk (sort_any wr HR.out (by rw [ints_length]; omega))
      have HNE := Aside0.mk hne
      clear hne hln HI hb0
      go_wp2_with fail
      refine HS2.out.mono ?_
      rintro e w2 ⟨rfl, hR2, hg2⟩
      have HB2 := Aside0.mk (HBr.out.grown hg2 HBr.out.size HNE.out)
      have HR2 := Aside0.mk hR2
      clear hR2 hg2 HS2
      go_wp2_with fail
      go_ret
      exact ⟨_, rfl, HR2.out, HB2.out⟩
end Go.Proofs.YtlmgkmmdaecpdaaDoor.Im

namespace Go.Proofs.YtlmgkmmdaecpdaaDoor.Mi
set_option linter.unusedVariables false
def sm : Nat → (Nat → Int) → Int
  | 0, _ => 0
  | n + 1, f => sm n f + f n
theorem sm_congr {f g : Nat → Int} : ∀ n, (∀ i, i < n → f i = g i) → sm n f = sm n g
  | 0, _ => rfl
  | n + 1, h => by rw [sm, sm, sm_congr n (fun i hi => h i (by omega)), h n (by omega)]
theorem sm_add (f g : Nat → Int) : ∀ n, sm n (fun i => f i + g i) = sm n f + sm n g
  | 0 => rfl
  | n + 1 => by rw [sm, sm, sm, sm_add f g n]; omega
theorem sm_sub (f g : Nat → Int) : ∀ n, sm n (fun i => f i - g i) = sm n f - sm n g
  | 0 => rfl
  | n + 1 => by rw [sm, sm, sm, sm_sub f g n]; omega
theorem sm_zero {f : Nat → Int} : ∀ n, (∀ i, i < n → f i = 0) → sm n f = 0
  | 0, _ => rfl
  | n + 1, h => by rw [sm, sm_zero n (fun i hi => h i (by omega)), h n (by omega)]; rfl
theorem sm_tele (f : Nat → Int) : ∀ n, sm n (fun i => f (i + 1) - f i) = f n - f 0
  | 0 => by simp [sm]
  | n + 1 => by rw [sm, sm_tele f n]; omega
def dr (x y : Nat) : Int := if x = 0 ∧ y = 1 then 1 else if x = 1 ∧ y = 0 then -1 else 0
def isD (x y : Nat) : Bool := (x == 0 && y == 1) || (x == 1 && y == 0)
theorem dr_back (x y : Nat) : dr x y = - dr y x := by
  unfold dr
  split <;> split <;> (try split) <;> (try split) <;> omega
def tri (x y z : Nat) : Int := dr x y + dr y z + dr z x
def fullC (x y z : Nat) : Bool := (x == 0 || y == 0 || z == 0) && ((x == 1 || y == 1 || z == 1) && (x == 2 || y == 2 || z == 2))
def leftC (x y z : Nat) : Bool := (x == 0 && y == 1 && z == 2) || (x == 1 && y == 2 && z == 0) || (x == 2 && y == 0 && z == 1)
def rightC (x y z : Nat) : Bool := (x == 0 && y == 2 && z == 1) || (x == 2 && y == 1 && z == 0) || (x == 1 && y == 0 && z == 2)
theorem tri_val {x y z : Nat} (hx : x < 3) (hy : y < 3) (hz : z < 3) : tri x y z = (if leftC x y z then 1 else 0) - (if rightC x y z then 1 else 0) := by
  have h : ∀ a : Fin 3, ∀ b : Fin 3, ∀ c : Fin 3, tri a b c = (if leftC a b c then 1 else 0) - (if rightC a b c then 1 else 0) := by decide
  exact h ⟨x, hx⟩ ⟨y, hy⟩ ⟨z, hz⟩
section
variable (c : Nat → Nat → Nat)
def upC (i j : Nat) : Int := tri (c i j) (c (i + 1) j) (c i (j + 1))
def loC (i j : Nat) : Int := tri (c (i + 1) j) (c (i + 1) (j + 1)) (c i (j + 1))
def colD (i m : Nat) : Int := sm m fun j => dr (c i j) (c i (j + 1))
theorem strip (i : Nat) : ∀ m, sm (m + 1) (upC c i) + sm m (loC c i) = dr (c i 0) (c (i + 1) 0) + dr (c (i + 1) m) (c i (m + 1)) - colD c i (m + 1) + colD c (i + 1) m
  | 0 => by
    simp only [sm, upC, colD, tri]
    have h := dr_back (c i 1) (c i 0)
    simp only [Nat.zero_add] at *
    omega
  | m + 1 => by
    have ih := strip i m
    have h1 := dr_back (c i (m + 1 + 1)) (c i (m + 1))
    have h2 := dr_back (c i (m + 1)) (c (i + 1) m)
    have h3 := dr_back (c i (m + 1)) (c (i + 1) (m + 1))
    have e1 : sm (m + 1 + 1) (upC c i) = sm (m + 1) (upC c i) + upC c i (m + 1) := rfl
    have e2 : sm (m + 1) (loC c i) = sm m (loC c i) + loC c i m := rfl
    have e3 : colD c i (m + 1 + 1) = colD c i (m + 1) + dr (c i (m + 1)) (c i (m + 1 + 1)) := rfl
    have e4 : colD c (i + 1) (m + 1) = colD c (i + 1) m + dr (c (i + 1) m) (c (i + 1) (m + 1)) := rfl
    have e5 : upC c i (m + 1) = dr (c i (m + 1)) (c (i + 1) (m + 1)) + dr (c (i + 1) (m + 1)) (c i (m + 1 + 1)) + dr (c i (m + 1 + 1)) (c i (m + 1)) := rfl
    have e6 : loC c i m = dr (c (i + 1) m) (c (i + 1) (m + 1)) + dr (c (i + 1) (m + 1)) (c i (m + 1)) + dr (c i (m + 1)) (c (i + 1) m) := rfl
    rw [e1, e2, e3, e4, e5, e6]
    omega
def Prop3 (n : Nat) : Prop := ∀ i j, i + j ≤ n → c i j < 3 ∧ (j = 0 → c i j ≠ 2) ∧ (i = 0 → c i j ≠ 1) ∧ (i + j = n → c i j ≠ 0)
def cnt (p : Nat → Nat → Nat → Bool) (n : Nat) : Int :=
  sm n (fun i => sm (n - i) fun j => if p (c i j) (c (i + 1) j) (c i (j + 1)) then 1 else 0) + sm n (fun i => sm (n - i - 1) fun j => if p (c (i + 1) j) (c (i + 1) (j + 1)) (c i (j + 1)) then 1 else 0)
def Col3 (n : Nat) : Prop := ∀ i j, i + j ≤ n → c i j < 3
end
end Go.Proofs.YtlmgkmmdaecpdaaDoor.Mi

namespace Go.Proofs.YtlmgkmmdaecpdaaDoor.Mi
set_option linter.unusedVariables false
abbrev Pt := Nat × Nat
def Adj (u v : Pt) : Prop := (u.1 = v.1 ∧ (u.2 = v.2 + 1 ∨ v.2 = u.2 + 1)) ∨ (v.1 = u.1 + 1 ∧ (v.2 = u.2 ∨ u.2 = v.2 + 1)) ∨ (u.1 = v.1 + 1 ∧ (u.2 = v.2 ∨ v.2 = u.2 + 1))
theorem Adj.symm {u v : Pt} (h : Adj u v) : Adj v u := by unfold Adj at *; omega
def Walk : List Pt → Prop
  | [] => True
  | [_] => True
  | p :: q :: t => Adj p q ∧ Walk (q :: t)
def stp (f : Pt → Pt → Nat) : List Pt → Nat
  | [] => 0
  | [_] => 0
  | p :: q :: t => f p q + stp f (q :: t)
def lastP : List Pt → Pt
  | [] => (0, 0)
  | [p] => p
  | _ :: q :: t => lastP (q :: t)
def firstP : List Pt → Pt
  | [] => (0, 0)
  | p :: _ => p
theorem stp_tele {f : Pt → Pt → Nat} {g : Pt → Nat} : ∀ {P : List Pt}, P ≠ [] → Walk P → (∀ p q, p ∈ P → q ∈ P → Adj p q → (f p q + g p + g q) % 2 = 0) → (stp f P + g (firstP P) + g (lastP P)) % 2 = 0
  | [], h, _, _ => absurd rfl h
  | [p], _, _, _ => by simp only [stp, firstP, lastP]; omega
  | p :: q :: t, _, hw, h => by
    have ih := stp_tele (f := f) (g := g) (P := q :: t) (by simp) hw.2 (fun a b ha hb hab => h a b (List.mem_cons_of_mem _ ha) (List.mem_cons_of_mem _ hb) hab)
    have h1 := h p q (by simp) (by simp) hw.1
    have e1 : firstP (q :: t) = q := rfl
    have e2 : firstP (p :: q :: t) = p := rfl
    have e3 : lastP (p :: q :: t) = lastP (q :: t) := rfl
    have e4 : stp f (p :: q :: t) = f p q + stp f (q :: t) := rfl
    rw [e1] at ih
    rw [e2, e3, e4]
    omega
theorem stp_congr {f g : Pt → Pt → Nat} : ∀ {P : List Pt}, Walk P → (∀ p q, p ∈ P → q ∈ P → Adj p q → f p q = g p q) → stp f P = stp g P
  | [], _, _ => rfl
  | [p], _, _ => rfl
  | p :: q :: t, hw, h => by
    rw [stp, stp, h p q (by simp) (by simp) hw.1, stp_congr (P := q :: t) hw.2 (fun a b ha hb hab => h a b (List.mem_cons_of_mem _ ha) (List.mem_cons_of_mem _ hb) hab)]
def stE (r c : Nat) (p q : Pt) : Nat := if (p.1 = r ∧ q.1 = r + 1 ∧ p.2 < c) ∨ (q.1 = r ∧ p.1 = r + 1 ∧ q.2 < c) then 1 else 0
def stF (r c : Nat) (p q : Pt) : Nat := if (p.1 = r ∧ q.1 = r + 1 ∧ q.2 < c) ∨ (q.1 = r ∧ p.1 = r + 1 ∧ p.2 < c) then 1 else 0
def inl (r c : Nat) (p : Pt) : Nat := if p.1 = r ∧ p.2 < c then 1 else 0
def side (P : List Pt) (v : Pt) : Nat := stp (stE v.1 v.2) P + inl v.1 v.2 (lastP P)
theorem last_mem : ∀ {P : List Pt}, P ≠ [] → lastP P ∈ P
  | [], h => absurd rfl h
  | [p], _ => by simp [lastP]
  | p :: q :: t, _ => List.mem_cons_of_mem _ (last_mem (P := q :: t) (by simp))
theorem side_row {P : List Pt} (hP : P ≠ []) (hw : Walk P) {r c : Nat} (hv : (r, c) ∉ P) : side P (r, c) = side P (r, c + 1) := by
  have h : ∀ p ∈ P, p.1 = r → p.2 ≠ c := fun p hp h1 h2 => hv (by rw [← h1, ← h2]; exact hp)
  unfold side
  have e1 : stp (stE r c) P = stp (stE r (c + 1)) P := stp_congr hw fun p q hp hq _ => by
    have a := h p hp
    have b := h q hq
    unfold stE
    apply if_congr' <;> omega
  have e2 : inl r c (lastP P) = inl r (c + 1) (lastP P) := by
    have a := h _ (last_mem hP)
    unfold inl
    apply if_congr' <;> omega
  show stp (stE r c) P + inl r c (lastP P) = stp (stE r (c + 1)) P + inl r (c + 1) (lastP P)
  rw [e1, e2]
where
  if_congr' : ∀ {p q : Prop} [Decidable p] [Decidable q], (p → q) → (q → p) → (if p then 1 else 0) = (if q then (1 : Nat) else 0) := fun h k => by
    split
    · rename_i a; rw [if_pos (h a)]
    · rename_i a; rw [if_neg (fun b => a (k b))]
theorem row_even {P : List Pt} (hP : P ≠ []) (hw : Walk P) {r c : Nat} (hv : (r + 1, c) ∉ P) (h0 : (firstP P).1 = 0) : (stp (stF r c) P + side P (r + 1, c)) % 2 = 0 := by
  have h : ∀ p ∈ P, p.1 = r + 1 → p.2 ≠ c := fun p hp h1 h2 => hv (by rw [← h1, ← h2]; exact hp)
  have k := stp_tele (f := fun p q => stF r c p q + stE (r + 1) c p q) (g := inl (r + 1) c) hP hw fun p q hp hq ha => by
    have a := h p hp
    have b := h q hq
    unfold Adj at ha
    unfold stF stE inl
    split <;> split <;> split <;> split <;> omega
  have e : stp (fun p q => stF r c p q + stE (r + 1) c p q) P = stp (stF r c) P + stp (stE (r + 1) c) P := stp_add _ _ P
  have e2 : inl (r + 1) c (firstP P) = 0 := by unfold inl; rw [if_neg (by omega)]
  rw [e, e2] at k
  show (stp (stF r c) P + (stp (stE (r + 1) c) P + inl (r + 1) c (lastP P))) % 2 = 0
  omega
where
  stp_add : ∀ (f g : Pt → Pt → Nat) (P : List Pt), stp (fun p q => f p q + g p q) P = stp f P + stp g P
    | f, g, [] => rfl
    | f, g, [p] => rfl
    | f, g, p :: q :: t => by
      rw [stp, stp, stp, stp_add f g (q :: t)]
      omega
theorem side_down {P : List Pt} (hP : P ≠ []) (hw : Walk P) {r c d : Nat} (hd : d = c ∨ c = d + 1) (hv : (r, c) ∉ P) (hv' : (r + 1, d) ∉ P) (h0 : (firstP P).1 = 0) (hl : (lastP P).1 ≠ r) : (side P (r, c) + side P (r + 1, d)) % 2 = 0 := by
  have k := row_even hP hw hv' h0
  have h : ∀ p ∈ P, p.1 = r → p.2 ≠ c := fun p hp h1 h2 => hv (by rw [← h1, ← h2]; exact hp)
  have h' : ∀ p ∈ P, p.1 = r + 1 → p.2 ≠ d := fun p hp h1 h2 => hv' (by rw [← h1, ← h2]; exact hp)
  have e : stp (stE r c) P = stp (stF r d) P := stp_congr hw fun p q hp hq ha => by
    have a := h p hp
    have b := h q hq
    have a' := h' p hp
    have b' := h' q hq
    unfold Adj at ha
    unfold stE stF
    split <;> split <;> omega
  have e2 : side P (r, c) = stp (stE r c) P := by
    show stp (stE r c) P + inl r c (lastP P) = _
    unfold inl
    rw [if_neg (by omega)]
    rfl
  rw [e2, e]
  exact k
theorem side_left (P : List Pt) (r : Nat) : side P (r, 0) = 0 := by
  have h : ∀ P : List Pt, stp (stE r 0) P = 0 := fun P => by
    induction P with
    | nil => rfl
    | cons p t ih =>
      cases t with
      | nil => rfl
      | cons q t =>
        have e : stE r 0 p q = 0 := by unfold stE; rw [if_neg (by omega)]
        rw [stp, e, ih]
  show stp (stE r 0) P + inl r 0 (lastP P) = 0
  rw [h P]
  unfold inl
  rw [if_neg (by omega)]
theorem side_right {P : List Pt} (hP : P ≠ []) (hw : Walk P) {n r : Nat} (hin : ∀ p ∈ P, p.1 < n ∧ p.2 < n) (hr : r < n) (hv : (r, n - 1) ∉ P) (h0 : (firstP P).1 = 0) (hl : (lastP P).1 = n - 1) : side P (r, n - 1) % 2 = 1 := by
  have h : ∀ p ∈ P, p.1 = r → p.2 ≠ n - 1 := fun p hp h1 h2 => hv (by rw [← h1, ← h2]; exact hp)
  have k := stp_tele (f := stE r (n - 1)) (g := fun p => if p.1 ≤ r then 1 else 0) hP hw fun p q hp hq ha => by
    have a := h p hp
    have b := h q hq
    have a' := hin p hp
    have b' := hin q hq
    unfold Adj at ha
    unfold stE
    show ((if _ then 1 else 0) + (if p.1 ≤ r then 1 else 0) + (if q.1 ≤ r then 1 else 0)) % 2 = 0
    split <;> split <;> split <;> omega
  have e1 : (if (firstP P).1 ≤ r then 1 else 0) = 1 := by rw [if_pos (by omega)]
  have a := h _ (last_mem hP)
  have b := hin _ (last_mem hP)
  show (stp (stE r (n - 1)) P + inl r (n - 1) (lastP P)) % 2 = 1
  simp only [e1] at k
  unfold inl
  by_cases hc : r = n - 1
  · rw [if_pos (by omega)] at k ⊢
    omega
  · rw [if_neg (by omega)] at k ⊢
    omega
theorem meet {n : Nat} {P Q : List Pt} (hP : P ≠ []) (hQ : Q ≠ []) (wP : Walk P) (wQ : Walk Q) (iP : ∀ p ∈ P, p.1 < n ∧ p.2 < n) (iQ : ∀ p ∈ Q, p.1 < n ∧ p.2 < n)
    (p0 : (firstP P).1 = 0) (p1 : (lastP P).1 = n - 1) (q0 : (firstP Q).2 = 0) (q1 : (lastP Q).2 = n - 1) : ∃ v, v ∈ P ∧ v ∈ Q := by
  refine Classical.byContradiction fun hno => ?_
  have hno : ∀ v ∈ Q, v ∉ P := fun v hv hp => hno ⟨v, hp, hv⟩
  have step : ∀ u v : Pt, u ∈ Q → v ∈ Q → Adj u v → (side P u + side P v) % 2 = 0 := by
    have down : ∀ u v : Pt, u ∈ Q → v ∈ Q → v.1 = u.1 + 1 → (v.2 = u.2 ∨ u.2 = v.2 + 1) → (side P u + side P v) % 2 = 0 := fun u v hu hv h1 h2 => by
      obtain ⟨r, c⟩ := u
      obtain ⟨r', d⟩ := v
      have h1 : r' = r + 1 := h1
      subst h1
      have := (iQ _ hv).1
      exact side_down hP wP h2 (hno _ hu) (hno _ hv) p0 (by rw [p1]; show n - 1 ≠ r; have : r + 1 < n := this; omega)
    intro u v hu hv ha
    rcases ha with ⟨h1, h2⟩ | ⟨h1, h2⟩ | ⟨h1, h2⟩
    · obtain ⟨r, c⟩ := u
      obtain ⟨r', d⟩ := v
      have h1 : r = r' := h1
      subst h1
      rcases h2 with h2 | h2
      · have h2 : c = d + 1 := h2
        subst h2
        have := side_row hP wP (hno _ hv)
        omega
      · have h2 : d = c + 1 := h2
        subst h2
        have := side_row hP wP (hno _ hu)
        omega
    · exact down u v hu hv h1 h2
    · have := down v u hv hu h1 h2
      omega
  have k := stp_tele (f := fun _ _ => 0) (g := side P) hQ wQ (fun u v hu hv ha => by have := step u v hu hv ha; omega)
  have e0 : ∀ Q : List Pt, stp (fun _ _ => 0) Q = 0 := fun Q => by
    induction Q with
    | nil => rfl
    | cons p t ih =>
      cases t with
      | nil => rfl
      | cons q t => rw [stp, ih]
  have l0 : side P (firstP Q) = 0 := by
    have e : firstP Q = ((firstP Q).1, 0) := by rw [← q0]
    rw [e]
    exact side_left P _
  have l1 : side P (lastP Q) % 2 = 1 := by
    have e : lastP Q = ((lastP Q).1, n - 1) := by rw [← q1]
    have hm := last_mem hQ
    have := iQ _ hm
    rw [e]
    exact side_right hP wP iP this.1 (by rw [← e]; exact hno _ hm) p0 p1
  rw [e0, l0] at k
  omega
end Go.Proofs.YtlmgkmmdaecpdaaDoor.Mi

namespace Go.Proofs.YtlmgkmmdaecpdaaDoor.Mi
set_option linter.unusedVariables false
theorem walk_snoc {u : Pt} : ∀ {P : List Pt}, P ≠ [] → Walk P → Adj (lastP P) u → Walk (P ++ [u]) ∧ lastP (P ++ [u]) = u ∧ firstP (P ++ [u]) = firstP P
  | [], h, _, _ => absurd rfl h
  | [p], _, _, ha => ⟨⟨ha, trivial⟩, rfl, rfl⟩
  | p :: q :: t, _, hw, ha => by
    obtain ⟨h1, h2, h3⟩ := walk_snoc (P := q :: t) (by simp) hw.2 ha
    exact ⟨⟨hw.1, h1⟩, h2, rfl⟩
structure Way (n : Nat) (S : Pt → Prop) (P : List Pt) : Prop where
  ne : P ≠ []
  walk : Walk P
  mem : ∀ p ∈ P, (p.1 < n ∧ p.2 < n) ∧ S p
theorem Way.one {n : Nat} {S : Pt → Prop} {v : Pt} (h : v.1 < n ∧ v.2 < n) (hs : S v) : Way n S [v] := ⟨by simp, trivial, fun p hp => by rw [List.mem_singleton.1 hp]; exact ⟨h, hs⟩⟩
theorem Way.snoc {n : Nat} {S : Pt → Prop} {P : List Pt} {u : Pt} (h : Way n S P) (ha : Adj (lastP P) u) (hu : u.1 < n ∧ u.2 < n) (hs : S u) : Way n S (P ++ [u]) :=
  ⟨by simp, (walk_snoc h.ne h.walk ha).1, fun p hp => by
    rcases List.mem_append.1 hp with h1 | h1
    · exact h.mem p h1
    · rw [List.mem_singleton.1 h1]; exact ⟨hu, hs⟩⟩
def RT (n : Nat) (S : Pt → Prop) (v : Pt) : Prop := ∃ P, Way n S P ∧ (firstP P).1 = 0 ∧ lastP P = v
def RL (n : Nat) (S : Pt → Prop) (v : Pt) : Prop := ∃ P, Way n S P ∧ (firstP P).2 = 0 ∧ lastP P = v
theorem RT.on {n : Nat} {S : Pt → Prop} {v u : Pt} (h : RT n S v) (ha : Adj v u) (hu : u.1 < n ∧ u.2 < n) (hs : S u) : RT n S u := by
  obtain ⟨P, h1, h2, rfl⟩ := h
  obtain ⟨_, k2, k3⟩ := walk_snoc h1.ne h1.walk ha
  exact ⟨P ++ [u], h1.snoc ha hu hs, by rw [k3]; exact h2, k2⟩
theorem RL.on {n : Nat} {S : Pt → Prop} {v u : Pt} (h : RL n S v) (ha : Adj v u) (hu : u.1 < n ∧ u.2 < n) (hs : S u) : RL n S u := by
  obtain ⟨P, h1, h2, rfl⟩ := h
  obtain ⟨_, k2, k3⟩ := walk_snoc h1.ne h1.walk ha
  exact ⟨P ++ [u], h1.snoc ha hu hs, by rw [k3]; exact h2, k2⟩
theorem RT.set {n : Nat} {S : Pt → Prop} {v : Pt} (h : RT n S v) : S v := by
  obtain ⟨P, h1, _, rfl⟩ := h
  exact (h1.mem _ (last_mem h1.ne)).2
theorem RL.set {n : Nat} {S : Pt → Prop} {v : Pt} (h : RL n S v) : S v := by
  obtain ⟨P, h1, _, rfl⟩ := h
  exact (h1.mem _ (last_mem h1.ne)).2
noncomputable def colR (n : Nat) (S : Pt → Prop) (i j : Nat) : Nat := open Classical in if RT n S (i, j) then 0 else if RL n (fun v => ¬ S v) (i, j) then 1 else 2
theorem col_lt (n : Nat) (S : Pt → Prop) (i j : Nat) : colR n S i j < 3 := by
  unfold colR
  split
  · omega
  · split <;> omega
theorem col_0 {n : Nat} {S : Pt → Prop} {i j : Nat} : colR n S i j = 0 ↔ RT n S (i, j) := by
  unfold colR
  split
  · rename_i h; exact ⟨fun _ => h, fun _ => rfl⟩
  · rename_i h
    split
    · exact ⟨fun e => (by cases e), fun k => absurd k h⟩
    · exact ⟨fun e => (by cases e), fun k => absurd k h⟩
theorem col_1 {n : Nat} {S : Pt → Prop} {i j : Nat} : colR n S i j = 1 ↔ RL n (fun v => ¬ S v) (i, j) := by
  unfold colR
  split
  · rename_i h; exact ⟨fun e => (by cases e), fun k => absurd h.set k.set⟩
  · split
    · rename_i h; exact ⟨fun _ => h, fun _ => rfl⟩
    · rename_i h; exact ⟨fun e => (by cases e), fun k => absurd k h⟩
theorem col_x {n : Nat} {S : Pt → Prop} {i j i' j' : Nat} (ha : Adj (i, j) (i', j')) (hu : i' < n ∧ j' < n) (h : colR n S i j = 0) (hs : S (i', j')) : colR n S i' j' = 0 := col_0.2 ((col_0.1 h).on ha hu hs)
theorem col_o {n : Nat} {S : Pt → Prop} {i j i' j' : Nat} (ha : Adj (i, j) (i', j')) (hu : i' < n ∧ j' < n) (h : colR n S i j = 1) (hs : ¬ S (i', j')) : colR n S i' j' = 1 := col_1.2 ((col_1.1 h).on ha hu hs)
theorem cell_no {n : Nat} {S : Pt → Prop} {a b d : Pt} (ia : a.1 < n ∧ a.2 < n) (ib : b.1 < n ∧ b.2 < n) (id : d.1 < n ∧ d.2 < n) (hab : Adj a b) (hbd : Adj b d) (had : Adj a d) :
    tri (colR n S a.1 a.2) (colR n S b.1 b.2) (colR n S d.1 d.2) = 0 := by
  have key : ∀ u v w : Pt, (u.1 < n ∧ u.2 < n) → (v.1 < n ∧ v.2 < n) → (w.1 < n ∧ w.2 < n) → Adj u w → Adj v w → colR n S u.1 u.2 = 0 → colR n S v.1 v.2 = 1 → colR n S w.1 w.2 ≠ 2 := fun u v w iu iv iw huw hvw h0 h1 h2 => by
    by_cases hs : S w
    · have := col_x (i := u.1) (j := u.2) (i' := w.1) (j' := w.2) huw iw h0 hs
      omega
    · have := col_o (i := v.1) (j := v.2) (i' := w.1) (j' := w.2) hvw iw h1 hs
      omega
  have k1 := key a b d ia ib id had hbd
  have k2 := key b a d ib ia id hbd had
  have k3 := key a d b ia id ib hab hbd.symm
  have k4 := key d a b id ia ib hbd.symm hab
  have k5 := key b d a ib id ia hab.symm had.symm
  have k6 := key d b a id ib ia had.symm hab.symm
  have la := col_lt n S a.1 a.2
  have lb := col_lt n S b.1 b.2
  have ld := col_lt n S d.1 d.2
  generalize colR n S a.1 a.2 = x at *
  generalize colR n S b.1 b.2 = y at *
  generalize colR n S d.1 d.2 = z at *
  rw [tri_val la lb ld]
  have e1 : leftC x y z = false := by
    cases h : leftC x y z
    · rfl
    · simp only [leftC, Bool.or_eq_true, Bool.and_eq_true, beq_iff_eq] at h
      omega
  have e2 : rightC x y z = false := by
    cases h : rightC x y z
    · rfl
    · simp only [rightC, Bool.or_eq_true, Bool.and_eq_true, beq_iff_eq] at h
      omega
  rw [e1, e2]
  rfl
theorem strip_board (c : Nat → Nat → Nat) (i N : Nat) : sm N (upC c i) + sm N (loC c i) = dr (c i 0) (c (i + 1) 0) - dr (c i N) (c (i + 1) N) + (colD c (i + 1) N - colD c i N) := by
  have h := strip c i N
  have e1 : sm (N + 1) (upC c i) = sm N (upC c i) + upC c i N := rfl
  have e2 : colD c i (N + 1) = colD c i N + dr (c i N) (c i (N + 1)) := rfl
  have e3 : upC c i N = dr (c i N) (c (i + 1) N) + dr (c (i + 1) N) (c i (N + 1)) + dr (c i (N + 1)) (c i N) := rfl
  have h1 := dr_back (c i (N + 1)) (c i N)
  rw [e1, e2, e3] at h
  omega
theorem board_sum (c : Nat → Nat → Nat) (N : Nat) : sm N (fun i => sm N (upC c i) + sm N (loC c i)) = sm N (fun i => dr (c i 0) (c (i + 1) 0)) - sm N (fun i => dr (c i N) (c (i + 1) N)) + (colD c N N - colD c 0 N) := by
  rw [sm_congr N (fun i _ => strip_board c i N), sm_add, sm_sub, sm_tele (fun i => colD c i N) N]
theorem hex (N : Nat) (S : Pt → Prop) : (∃ P, Way (N + 1) S P ∧ (firstP P).1 = 0 ∧ (lastP P).1 = N) ∨ (∃ Q, Way (N + 1) (fun v => ¬ S v) Q ∧ (firstP Q).2 = 0 ∧ (lastP Q).2 = N) := by
  refine Classical.byContradiction fun hno => ?_
  have hx : ∀ j, j ≤ N → colR (N + 1) S N j ≠ 0 := fun j hj h => by
    obtain ⟨P, h1, h2, h3⟩ := col_0.1 h
    exact hno (.inl ⟨P, h1, h2, by rw [h3]⟩)
  have ho : ∀ i, i ≤ N → colR (N + 1) S i N ≠ 1 := fun i hi h => by
    obtain ⟨P, h1, h2, h3⟩ := col_1.1 h
    exact hno (.inr ⟨P, h1, h2, by rw [h3]⟩)
  have htop : ∀ j, j ≤ N → S (0, j) → colR (N + 1) S 0 j = 0 := fun j hj hs => col_0.2 ⟨[(0, j)], Way.one ⟨by show 0 < N + 1; omega, by show j < N + 1; omega⟩ hs, rfl, rfl⟩
  have hleft : ∀ i, i ≤ N → ¬ S (i, 0) → colR (N + 1) S i 0 = 1 := fun i hi hs => col_1.2 ⟨[(i, 0)], Way.one ⟨by show i < N + 1; omega, by show 0 < N + 1; omega⟩ hs, rfl, rfl⟩
  have hsum := board_sum (colR (N + 1) S) N
  have hcells : sm N (fun i => sm N (upC (colR (N + 1) S) i) + sm N (loC (colR (N + 1) S) i)) = 0 := sm_zero N fun i hi => by
    have h1 : sm N (upC (colR (N + 1) S) i) = 0 := sm_zero N fun j hj =>
      cell_no (a := (i, j)) (b := (i + 1, j)) (d := (i, j + 1)) ⟨by show i < N + 1; omega, by show j < N + 1; omega⟩ ⟨by show i + 1 < N + 1; omega, by show j < N + 1; omega⟩ ⟨by show i < N + 1; omega, by show j + 1 < N + 1; omega⟩ (by unfold Adj; simp) (by unfold Adj; simp) (by unfold Adj; simp)
    have h2 : sm N (loC (colR (N + 1) S) i) = 0 := sm_zero N fun j hj =>
      cell_no (a := (i + 1, j)) (b := (i + 1, j + 1)) (d := (i, j + 1)) ⟨by show i + 1 < N + 1; omega, by show j < N + 1; omega⟩ ⟨by show i + 1 < N + 1; omega, by show j + 1 < N + 1; omega⟩ ⟨by show i < N + 1; omega, by show j + 1 < N + 1; omega⟩ (by unfold Adj; simp) (by unfold Adj; simp) (by unfold Adj; simp)
    rw [h1, h2]
    rfl
  have hright : sm N (fun i => dr (colR (N + 1) S i N) (colR (N + 1) S (i + 1) N)) = 0 := sm_zero N fun i hi => by
    have a := ho i (by omega)
    have b := ho (i + 1) (by omega)
    unfold dr
    rw [if_neg (fun h => b h.2), if_neg (fun h => a h.1)]
  have hbot : colD (colR (N + 1) S) N N = 0 := sm_zero N fun j hj => by
    have a := hx j (by omega)
    have b := hx (j + 1) (by omega)
    show dr _ _ = 0
    unfold dr
    rw [if_neg (fun h => a h.1), if_neg (fun h => b h.2)]
  have hl : sm N (fun i => dr (colR (N + 1) S i 0) (colR (N + 1) S (i + 1) 0)) = (if colR (N + 1) S N 0 = 0 then 0 else 1) - (if colR (N + 1) S 0 0 = 0 then 0 else 1) := by
    rw [← sm_tele (fun i => if colR (N + 1) S i 0 = 0 then (0 : Int) else 1) N]
    refine sm_congr N fun i hi => ?_
    have ha : Adj (i, 0) (i + 1, 0) := by unfold Adj; simp
    have k1 : colR (N + 1) S i 0 = 0 → S (i + 1, 0) → colR (N + 1) S (i + 1) 0 = 0 := fun h hs => col_x ha ⟨by omega, by omega⟩ h hs
    have k2 : colR (N + 1) S (i + 1) 0 = 0 → S (i, 0) → colR (N + 1) S i 0 = 0 := fun h hs => col_x ha.symm ⟨by omega, by omega⟩ h hs
    have k3 := hleft i (by omega)
    have k4 := hleft (i + 1) (by omega)
    have la := col_lt (N + 1) S i 0
    have lb := col_lt (N + 1) S (i + 1) 0
    generalize colR (N + 1) S i 0 = x at *
    generalize colR (N + 1) S (i + 1) 0 = y at *
    unfold dr
    by_cases s1 : S (i, 0) <;> by_cases s2 : S (i + 1, 0) <;> simp only [s1, s2, not_true, not_false_eq_true, true_implies, false_implies] at k1 k2 k3 k4 <;> (split <;> split <;> (try split) <;> (try split) <;> omega)
  have ht : colD (colR (N + 1) S) 0 N = (if colR (N + 1) S 0 N = 1 then 1 else 0) - (if colR (N + 1) S 0 0 = 1 then 1 else 0) := by
    rw [← sm_tele (fun j => if colR (N + 1) S 0 j = 1 then (1 : Int) else 0) N]
    refine sm_congr N fun j hj => ?_
    have ha : Adj (0, j) (0, j + 1) := by unfold Adj; simp
    have k1 : colR (N + 1) S 0 j = 1 → ¬ S (0, j + 1) → colR (N + 1) S 0 (j + 1) = 1 := fun h hs => col_o ha ⟨by omega, by omega⟩ h hs
    have k2 : colR (N + 1) S 0 (j + 1) = 1 → ¬ S (0, j) → colR (N + 1) S 0 j = 1 := fun h hs => col_o ha.symm ⟨by omega, by omega⟩ h hs
    have k3 := htop j (by omega)
    have k4 := htop (j + 1) (by omega)
    have la := col_lt (N + 1) S 0 j
    have lb := col_lt (N + 1) S 0 (j + 1)
    generalize colR (N + 1) S 0 j = x at *
    generalize colR (N + 1) S 0 (j + 1) = y at *
    unfold dr
    by_cases s1 : S (0, j) <;> by_cases s2 : S (0, j + 1) <;> simp only [s1, s2, not_true, not_false_eq_true, true_implies, false_implies] at k1 k2 k3 k4 <;> (split <;> split <;> (try split) <;> (try split) <;> omega)
  rw [hcells, hright, hbot, hl, ht] at hsum
  have a := hx 0 (by omega)
  have b := ho 0 (by omega)
  rw [if_neg a, if_neg b] at hsum
  by_cases hs : S (0, 0)
  · have := htop 0 (by omega) hs
    rw [this] at hsum
    simp at hsum
  · have := hleft 0 (by omega) hs
    rw [this] at hsum
    simp at hsum
end Go.Proofs.YtlmgkmmdaecpdaaDoor.Mi

namespace Go.Proofs.YtlmgkmmdaecpdaaDoor.Mi
set_option linter.unusedVariables false
def headN : List Nat → Nat
  | [] => 0
  | p :: _ => p
def lastN : List Nat → Nat
  | [] => 0
  | [p] => p
  | _ :: q :: t => lastN (q :: t)
def Chain (nb : Nat → Nat → Prop) : List Nat → Prop
  | [] => True
  | [_] => True
  | p :: q :: t => nb p q ∧ Chain nb (q :: t)
def costN (c : Nat → Nat) : List Nat → Nat
  | [] => 0
  | p :: t => c p + costN c t
structure Wy (m : Nat) (nb : Nat → Nat → Prop) (ok en : Nat → Prop) (P : List Nat) : Prop where
  ne : P ≠ []
  chain : Chain nb P
  mem : ∀ p ∈ P, p < m ∧ ok p
  fin : en (lastN P)
section
variable {m : Nat} {nb : Nat → Nat → Prop} {ok en : Nat → Prop} {c : Nat → Nat}
theorem Wy.one {p : Nat} (h : p < m) (h1 : ok p) (h2 : en p) : Wy m nb ok en [p] := ⟨by simp, trivial, fun q hq => by rw [List.mem_singleton.1 hq]; exact ⟨h, h1⟩, h2⟩
theorem Wy.tail {p q : Nat} {t : List Nat} (h : Wy m nb ok en (p :: q :: t)) : Wy m nb ok en (q :: t) := ⟨by simp, h.chain.2, fun r hr => h.mem r (List.mem_cons_of_mem _ hr), h.fin⟩
theorem Wy.cons {p : Nat} {P : List Nat} (h : Wy m nb ok en P) (hp : p < m) (ho : ok p) (hn : nb p (headN P)) : Wy m nb ok en (p :: P) := by
  match P, h with
  | [], h => exact absurd rfl h.ne
  | q :: t, h => exact ⟨by simp, ⟨hn, h.chain⟩, fun r hr => by
      rcases List.mem_cons.1 hr with rfl | hr
      · exact ⟨hp, ho⟩
      · exact h.mem r hr, h.fin⟩
theorem Wy.suffix {p : Nat} {C : List Nat} : ∀ {A : List Nat}, Wy m nb ok en (A ++ p :: C) → Wy m nb ok en (p :: C)
  | [], h => h
  | [a], h => h.tail
  | a :: b :: A, h => Wy.suffix (A := b :: A) h.tail
theorem cost_append (c : Nat → Nat) : ∀ A B : List Nat, costN c (A ++ B) = costN c A + costN c B
  | [], B => by simp [costN]
  | a :: A, B => by
    show c a + costN c (A ++ B) = c a + costN c A + costN c B
    rw [cost_append c A B]
    omega
theorem Wy.simple : ∀ {P : List Nat}, Wy m nb ok en P → ∃ P', Wy m nb ok en P' ∧ headN P' = headN P ∧ P'.Nodup ∧ costN c P' ≤ costN c P
  | [], h => absurd rfl h.ne
  | [p], h => ⟨[p], h, rfl, by simp, Nat.le_refl _⟩
  | p :: q :: t, h => by
    obtain ⟨P', h1, h2, h3, h4⟩ := Wy.simple h.tail
    have e : costN c (p :: q :: t) = c p + costN c (q :: t) := rfl
    by_cases hp : p ∈ P'
    · obtain ⟨A, C, rfl⟩ := List.append_of_mem hp
      refine ⟨p :: C, h1.suffix, rfl, (List.nodup_append.1 h3).2.1, ?_⟩
      rw [cost_append] at h4
      omega
    · refine ⟨p :: P', h1.cons (h.mem p (by simp)).1 (h.mem p (by simp)).2 (by rw [h2]; exact h.chain.1), rfl, List.nodup_cons.2 ⟨hp, h3⟩, ?_⟩
      have e2 : costN c (p :: P') = c p + costN c P' := rfl
      omega
theorem nodup_len : ∀ (N : Nat) (L : List Nat), L.Nodup → (∀ x ∈ L, x < N) → L.length ≤ N
  | 0, L, _, h => by
    match L, h with
    | [], _ => simp
    | a :: t, h => exact absurd (h a (by simp)) (by omega)
  | N + 1, L, hd, h => by
    have h1 := nodup_len N (L.filter (· != N)) (hd.filter _) (fun x hx => by
      have h2 := List.mem_filter.1 hx
      have := h x h2.1
      have h3 : x ≠ N := by simpa using h2.2
      omega)
    have h2 : L.length ≤ (L.filter (· != N)).length + 1 := by
      clear h1 h
      induction L with
      | nil => simp
      | cons a t ih =>
        have hd2 := List.nodup_cons.1 hd
        by_cases ha : a = N
        · subst ha
          have e : t.filter (· != a) = t := List.filter_eq_self.2 fun x hx => by
            have : x ≠ a := fun e => hd2.1 (e ▸ hx)
            simpa using this
          rw [List.filter_cons_of_neg (by simp), e]
          simp
        · rw [List.filter_cons_of_pos (by simpa using ha)]
          have := ih hd2.2
          simp
          omega
    omega
def Real (m : Nat) (nb : Nat → Nat → Prop) (ok en : Nat → Prop) (c : Nat → Nat) (out : Nat → Option Nat) : Prop := ∀ a d, out a = some d → ∃ P, Wy m nb ok en P ∧ headN P = a ∧ costN c P = d
def Upto (m : Nat) (nb : Nat → Nat → Prop) (ok en : Nat → Prop) (c : Nat → Nat) (k : Nat) (out : Nat → Option Nat) (a : Nat) : Prop := ∀ P, Wy m nb ok en P → headN P = a → P.length ≤ k → ∃ d, out a = some d ∧ d ≤ costN c P
structure Best (m : Nat) (nb : Nat → Nat → Prop) (en : Nat → Prop) (c : Nat → Nat) (out : Nat → Option Nat) (a : Nat) (b : Option Nat) : Prop where
  from_ : ∀ d, b = some d → (en a ∧ d = c a) ∨ ∃ j e, nb a j ∧ out j = some e ∧ d = e + c a
  fin : en a → ∃ d, b = some d ∧ d ≤ c a
  on : ∀ j e, nb a j → out j = some e → ∃ d, b = some d ∧ d ≤ e + c a
def upd (out : Nat → Option Nat) (a : Nat) (b : Option Nat) (x : Nat) : Option Nat := if x = a then b else out x
theorem Real.upd {out : Nat → Option Nat} {a : Nat} {b : Option Nat} (h : Real m nb ok en c out) (hb : Best m nb en c out a b) (ha : a < m) (ho : ok a) : Real m nb ok en c (upd out a b) := fun x d hx => by
  unfold Mi.upd at hx
  split at hx
  · rename_i e
    subst e
    rcases hb.from_ d hx with ⟨h1, rfl⟩ | ⟨j, e, h1, h2, rfl⟩
    · exact ⟨[x], Wy.one ha ho h1, rfl, rfl⟩
    · obtain ⟨P, k1, k2, k3⟩ := h j e h2
      refine ⟨x :: P, k1.cons ha ho (by rw [k2]; exact h1), rfl, ?_⟩
      show c x + costN c P = e + c x
      omega
  · exact h x d hx
theorem Upto.upd_here {out : Nat → Option Nat} {a k : Nat} {b : Option Nat} (hb : Best m nb en c out a b) (h : ∀ x, Upto m nb ok en c k out x) : Upto m nb ok en c (k + 1) (upd out a b) a := fun P hP hh hl => by
  have e : upd out a b a = b := by unfold upd; rw [if_pos rfl]
  rw [e]
  match P, hP, hh, hl with
  | [], hP, _, _ => exact absurd rfl hP.ne
  | [p], hP, hh, _ =>
    have hh : p = a := hh
    subst hh
    obtain ⟨d, h1, h2⟩ := hb.fin hP.fin
    exact ⟨d, h1, by show d ≤ c p + 0; omega⟩
  | p :: q :: t, hP, hh, hl =>
    have hh : p = a := hh
    subst hh
    obtain ⟨e, h1, h2⟩ := h q (q :: t) hP.tail rfl (by simp at hl ⊢; omega)
    obtain ⟨d, h3, h4⟩ := hb.on q e hP.chain.1 h1
    refine ⟨d, h3, ?_⟩
    show d ≤ c p + costN c (q :: t)
    omega
theorem Upto.upd_there {out : Nat → Option Nat} {a k x : Nat} {b : Option Nat} (hx : x ≠ a) (h : Upto m nb ok en c k out x) : Upto m nb ok en c k (upd out a b) x := fun P hP hh hl => by
  have e : upd out a b x = out x := by unfold upd; rw [if_neg hx]
  rw [e]
  exact h P hP hh hl
theorem Upto.less {out : Nat → Option Nat} {k x : Nat} (h : Upto m nb ok en c (k + 1) out x) : Upto m nb ok en c k out x := fun P hP hh hl => h P hP hh (by omega)
theorem Upto.zero (out : Nat → Option Nat) (x : Nat) : Upto m nb ok en c 0 out x := fun P hP _ hl => absurd (List.length_eq_zero_iff.1 (by omega)) hP.ne
theorem Upto.blocked {out : Nat → Option Nat} {k x : Nat} (hx : ¬ (x < m ∧ ok x)) : Upto m nb ok en c k out x := fun P hP hh _ => by
  match P, hP, hh with
  | [], hP, _ => exact absurd rfl hP.ne
  | p :: t, hP, hh =>
    have hh : p = x := hh
    subst hh
    exact absurd (hP.mem p (by simp)) hx
structure Mid (m : Nat) (nb : Nat → Nat → Prop) (ok en : Nat → Prop) (c : Nat → Nat) (k a : Nat) (out : Nat → Option Nat) : Prop where
  real : Real m nb ok en c out
  done : ∀ x, x < a → Upto m nb ok en c (k + 1) out x
  rest : ∀ x, Upto m nb ok en c k out x
theorem Mid.upd {k a : Nat} {out : Nat → Option Nat} {b : Option Nat} (h : Mid m nb ok en c k a out) (hb : Best m nb en c out a b) (ha : a < m) (ho : ok a) : Mid m nb ok en c k (a + 1) (upd out a b) where
  real := h.real.upd hb ha ho
  done := fun x hx => by
    by_cases e : x = a
    · subst e; exact Upto.upd_here hb h.rest
    · exact Upto.upd_there e (h.done x (by omega))
  rest := fun x => by
    by_cases e : x = a
    · subst e; exact (Upto.upd_here hb h.rest).less
    · exact Upto.upd_there e (h.rest x)
theorem Mid.skip {k a : Nat} {out : Nat → Option Nat} (h : Mid m nb ok en c k a out) (ho : ¬ ok a) : Mid m nb ok en c k (a + 1) out where
  real := h.real
  done := fun x hx => by
    by_cases e : x = a
    · subst e; exact Upto.blocked fun hh => ho hh.2
    · exact h.done x (by omega)
  rest := h.rest
theorem Mid.round {k : Nat} {out : Nat → Option Nat} (h : Mid m nb ok en c k m out) : Mid m nb ok en c (k + 1) 0 out where
  real := h.real
  done := fun x hx => by omega
  rest := fun x => by
    by_cases e : x < m
    · exact h.done x e
    · exact Upto.blocked fun hh => e hh.1
theorem mid_start : Mid m nb ok en c 0 0 (fun _ => none) := ⟨fun a d h => (by cases h), fun x hx => (by omega), fun x => Upto.zero _ x⟩
structure Least (m : Nat) (nb : Nat → Nat → Prop) (ok en : Nat → Prop) (c : Nat → Nat) (a d : Nat) : Prop where
  real : ∃ P, Wy m nb ok en P ∧ headN P = a ∧ costN c P = d
  le : ∀ P, Wy m nb ok en P → headN P = a → d ≤ costN c P
theorem Least.unique {a d e : Nat} (h : Least m nb ok en c a d) (k : Least m nb ok en c a e) : d = e := by
  obtain ⟨P, h1, h2, h3⟩ := h.real
  obtain ⟨Q, k1, k2, k3⟩ := k.real
  have := h.le Q k1 k2
  have := k.le P h1 h2
  omega
theorem Mid.all {out : Nat → Option Nat} (h : Mid m nb ok en c m 0 out) (a : Nat) : (∀ d, out a = some d → Least m nb ok en c a d) ∧ (out a = none → ∀ P, Wy m nb ok en P → headN P ≠ a) := by
  have key : ∀ P, Wy m nb ok en P → headN P = a → ∃ d, out a = some d ∧ d ≤ costN c P := fun P hP hh => by
    obtain ⟨P', h1, h2, h3, h4⟩ := hP.simple (c := c)
    obtain ⟨d, k1, k2⟩ := h.rest a P' h1 (by rw [h2]; exact hh) (nodup_len m P' h3 fun x hx => (h1.mem x hx).1)
    exact ⟨d, k1, by omega⟩
  constructor
  · intro d hd
    refine ⟨h.real a d hd, fun P hP hh => ?_⟩
    obtain ⟨e, k1, k2⟩ := key P hP hh
    rw [hd] at k1
    cases k1
    exact k2
  · intro hn P hP hh
    obtain ⟨e, k1, _⟩ := key P hP hh
    rw [hn] at k1
    cases k1
theorem stable_le {w : Nat → Nat} (h1 : ∀ a, a < m → ok a → en a → w a ≤ c a) (h2 : ∀ a b, a < m → b < m → ok a → ok b → nb a b → w a ≤ w b + c a) : ∀ P, Wy m nb ok en P → w (headN P) ≤ costN c P
  | [], h => absurd rfl h.ne
  | [p], h => by
    have := h.mem p (by simp)
    have := h1 p this.1 this.2 h.fin
    show w p ≤ c p + 0
    omega
  | p :: q :: t, h => by
    have ih := stable_le h1 h2 (q :: t) h.tail
    have a := h.mem p (by simp)
    have b := h.mem q (by simp)
    have := h2 p q a.1 b.1 a.2 b.2 h.chain.1
    show w p ≤ c p + costN c (q :: t)
    have e : headN (q :: t) = q := rfl
    rw [e] at ih
    omega
end
end Go.Proofs.YtlmgkmmdaecpdaaDoor.Mi

namespace Go.Proofs.YtlmgkmmdaecpdaaDoor.Mi
set_option linter.unusedVariables false
section
variable {m : Nat} {nb : Nat → Nat → Prop} {ok en : Nat → Prop} {c : Nat → Nat}
theorem Least.ex {a : Nat} : ∀ n, (∃ P, Wy m nb ok en P ∧ headN P = a ∧ costN c P ≤ n) → ∃ d, Least m nb ok en c a d
  | 0, ⟨P, h1, h2, h3⟩ => ⟨0, ⟨P, h1, h2, by omega⟩, fun _ _ _ => Nat.zero_le _⟩
  | n + 1, ⟨P, h1, h2, h3⟩ => by
    by_cases h : ∃ P, Wy m nb ok en P ∧ headN P = a ∧ costN c P ≤ n
    · exact Least.ex n h
    · refine ⟨costN c P, ⟨P, h1, h2, rfl⟩, fun Q k1 k2 => ?_⟩
      rcases Nat.lt_or_ge (costN c Q) (costN c P) with h4 | h4
      · exact absurd ⟨Q, k1, k2, by omega⟩ h
      · exact h4
theorem Least.step {a b d e : Nat} (h : Least m nb ok en c a d) (k : Least m nb ok en c b e) (ha : a < m) (ho : ok a) (hn : nb a b) : d ≤ e + c a := by
  obtain ⟨P, k1, k2, k3⟩ := k.real
  have := h.le (a :: P) (k1.cons ha ho (by rw [k2]; exact hn)) rfl
  have e1 : costN c (a :: P) = c a + costN c P := rfl
  omega
end
def one (_ : Nat) : Nat := 1
theorem cost_one : ∀ P : List Nat, costN one P = P.length
  | [] => rfl
  | p :: t => by
    show 1 + costN one t = t.length + 1
    rw [cost_one t]
    omega
def lexLe : List Nat → List Nat → Prop
  | [], _ => True
  | _ :: _, [] => False
  | a :: s, b :: t => a < b ∨ (a = b ∧ lexLe s t)
theorem lexLe.refl : ∀ s, lexLe s s
  | [] => trivial
  | a :: s => .inr ⟨rfl, lexLe.refl s⟩
theorem lexLe.anti : ∀ {s t : List Nat}, s.length = t.length → lexLe s t → lexLe t s → s = t
  | [], [], _, _, _ => rfl
  | a :: s, b :: t, hl, h, k => by
    rcases h with h | ⟨rfl, h⟩
    · rcases k with k | ⟨rfl, k⟩
      · omega
      · omega
    · rcases k with k | ⟨_, k⟩
      · omega
      · rw [lexLe.anti (by simpa using hl) h k]
section
variable {m : Nat} {nb : Nat → Nat → Prop} {ok en : Nat → Prop}
abbrev Dist (m : Nat) (nb : Nat → Nat → Prop) (ok en : Nat → Prop) (a d : Nat) : Prop := Least m nb ok en one a d
def Greedy (m : Nat) (nb : Nat → Nat → Prop) (ok en : Nat → Prop) : List Nat → Prop
  | [] => True
  | [_] => True
  | p :: q :: t => (nb p q ∧ ∀ j, nb p j → Dist m nb ok en j (t.length + 1) → q ≤ j) ∧ Greedy m nb ok en (q :: t)
theorem greedy_lex : ∀ {G Q : List Nat}, Greedy m nb ok en G → Wy m nb ok en Q → G ≠ [] → headN G = headN Q → G.length = Q.length → Dist m nb ok en (headN Q) Q.length → lexLe G Q
  | [], _, _, _, h, _, _, _ => absurd rfl h
  | g :: G, [], _, h, _, _, _, _ => absurd rfl h.ne
  | [g], [q], _, _, _, hh, _, _ => .inr ⟨hh, trivial⟩
  | [g], q :: r :: t, _, _, _, _, hl, _ => by simp at hl
  | g :: g2 :: G, [q], _, _, _, _, hl, _ => by simp at hl
  | g :: g2 :: G, q :: q2 :: t, hg, hw, _, hh, hl, hd => by
    have hh : g = q := hh
    subst hh
    have hl2 : G.length = t.length := by simpa using hl
    have hq := hw.tail
    obtain ⟨e, he⟩ := Least.ex (c := one) (a := q2) _ ⟨q2 :: t, hq, rfl, Nat.le_refl _⟩
    have h1 : e ≤ t.length + 1 := by
      have := he.le (q2 :: t) hq rfl
      rw [cost_one] at this
      exact this
    have hm := hw.mem g (by simp)
    have h2 : t.length + 1 + 1 ≤ e + 1 := by
      have := Least.step (hd : Dist m nb ok en g (t.length + 1 + 1)) he hm.1 hm.2 hw.chain.1
      exact this
    have h3 : e = t.length + 1 := by omega
    subst h3
    have h4 := hg.1.2 q2 hw.chain.1 (by rw [hl2]; exact he)
    refine .inr ⟨rfl, ?_⟩
    rcases Nat.lt_or_ge g2 q2 with h5 | h5
    · exact .inl h5
    · obtain rfl : g2 = q2 := by omega
      exact greedy_lex hg.2 hq (by simp) rfl (by simpa using hl2) he
structure First (m : Nat) (nb : Nat → Nat → Prop) (ok be en : Nat → Prop) (G : List Nat) : Prop where
  way : Wy m nb ok en G
  start : be (headN G)
  dist : Dist m nb ok en (headN G) G.length
  short : ∀ a d, be a → Dist m nb ok en a d → G.length ≤ d
  least : ∀ a, be a → Dist m nb ok en a G.length → headN G ≤ a
  greedy : Greedy m nb ok en G
theorem First.best {be : Nat → Prop} {G Q : List Nat} (h : First m nb ok be en G) (hw : Wy m nb ok en Q) (hs : be (headN Q)) : G.length ≤ Q.length ∧ (G.length = Q.length → lexLe G Q) := by
  obtain ⟨e, he⟩ := Least.ex (c := one) (a := headN Q) _ ⟨Q, hw, rfl, Nat.le_refl _⟩
  have h1 := he.le Q hw rfl
  rw [cost_one] at h1
  have h2 := h.short _ e hs he
  refine ⟨by omega, fun hl => ?_⟩
  have h3 : e = Q.length := by omega
  subst h3
  have h4 := h.least _ hs (by rw [hl]; exact he)
  match G, Q, h, hw, hl, he, h4 with
  | [], _, h, _, _, _, _ => exact absurd rfl h.way.ne
  | _ :: _, [], _, hw, _, _, _ => exact absurd rfl hw.ne
  | g :: G, q :: Q, h, hw, hl, he, h4 =>
    rcases Nat.lt_or_ge g q with h5 | h5
    · exact .inl h5
    · have h4 : g ≤ q := h4
      obtain rfl : g = q := by omega
      exact greedy_lex h.greedy hw (by simp) rfl hl he
theorem First.unique {be : Nat → Prop} {G H : List Nat} (h : First m nb ok be en G) (k : First m nb ok be en H) : G = H := by
  obtain ⟨h1, h2⟩ := h.best k.way k.start
  obtain ⟨k1, k2⟩ := k.best h.way h.start
  have hl : G.length = H.length := by omega
  exact lexLe.anti hl (h2 hl) (k2 hl.symm)
theorem Dist.next {a d : Nat} (h : Dist m nb ok en a (d + 2)) : ∃ j, nb a j ∧ Dist m nb ok en j (d + 1) := by
  obtain ⟨P, h1, h2, h3⟩ := h.real
  rw [cost_one] at h3
  match P, h1, h2, h3 with
  | [], h1, _, _ => exact absurd rfl h1.ne
  | [p], _, _, h3 => simp at h3
  | p :: q :: t, h1, h2, h3 =>
    have h2 : p = a := h2
    subst h2
    obtain ⟨e, he⟩ := Least.ex (c := one) (a := q) _ ⟨q :: t, h1.tail, rfl, Nat.le_refl _⟩
    have k1 := he.le (q :: t) h1.tail rfl
    rw [cost_one] at k1
    have hm := h1.mem p (by simp)
    have k2 : d + 2 ≤ e + 1 := Least.step h he hm.1 hm.2 h1.chain.1
    have k3 : t.length + 1 + 1 = d + 2 := h3
    have k4 : (q :: t).length = t.length + 1 := rfl
    have : e = d + 1 := by omega
    subst this
    exact ⟨q, h1.chain.1, he⟩
theorem Dist.end_ {a : Nat} (h : Dist m nb ok en a 1) : en a ∧ a < m ∧ ok a := by
  obtain ⟨P, h1, h2, h3⟩ := h.real
  rw [cost_one] at h3
  match P, h1, h2, h3 with
  | [], h1, _, _ => exact absurd rfl h1.ne
  | [p], h1, h2, _ =>
    have h2 : p = a := h2
    subst h2
    exact ⟨h1.fin, h1.mem p (by simp)⟩
  | p :: q :: t, _, _, h3 => simp at h3
end
end Go.Proofs.YtlmgkmmdaecpdaaDoor.Mi

namespace Go.Proofs.YtlmgkmmdaecpdaaDoor.Mi
set_option linter.unusedVariables false
def enc (n : Nat) (p : Pt) : Nat := p.1 * n + p.2
def dec (n a : Nat) : Pt := (a / n, a % n)
theorem dec_enc {n : Nat} {p : Pt} (h : p.2 < n) : dec n (enc n p) = p := by
  unfold dec enc
  have h0 : 0 < n := by omega
  rw [Nat.mul_comm, Nat.mul_add_div h0, Nat.div_eq_of_lt h, Nat.mul_add_mod, Nat.mod_eq_of_lt h]
  rfl
theorem enc_lt {n : Nat} {p : Pt} (h : p.1 < n ∧ p.2 < n) : enc n p < n * n := by
  unfold enc
  have : (p.1 + 1) * n ≤ n * n := Nat.mul_le_mul_right n h.1
  rw [Nat.succ_mul] at this
  omega
theorem dec_in {n a : Nat} (hn : 0 < n) (h : a < n * n) : (dec n a).1 < n ∧ (dec n a).2 < n := ⟨Nat.div_lt_of_lt_mul h, Nat.mod_lt _ hn⟩
def NearN (n a b : Nat) : Prop := Adj (dec n a) (dec n b)
def Side (n : Nat) (x : Bool) (k a : Nat) : Prop := if x then a / n = k else a % n = k
theorem first_map {n : Nat} : ∀ {P : List Pt}, P ≠ [] → headN (P.map (enc n)) = enc n (firstP P)
  | [], h => absurd rfl h
  | _ :: _, _ => rfl
theorem last_map {n : Nat} : ∀ {P : List Pt}, P ≠ [] → lastN (P.map (enc n)) = enc n (lastP P)
  | [], h => absurd rfl h
  | [_], _ => rfl
  | _ :: q :: t, _ => last_map (P := q :: t) (by simp)
theorem first_dec {n : Nat} : ∀ {P : List Nat}, P ≠ [] → firstP (P.map (dec n)) = dec n (headN P)
  | [], h => absurd rfl h
  | _ :: _, _ => rfl
theorem last_dec {n : Nat} : ∀ {P : List Nat}, P ≠ [] → lastP (P.map (dec n)) = dec n (lastN P)
  | [], h => absurd rfl h
  | [_], _ => rfl
  | _ :: q :: t, _ => last_dec (P := q :: t) (by simp)
theorem chain_map {n : Nat} : ∀ {P : List Pt}, Walk P → (∀ p ∈ P, p.2 < n) → Chain (NearN n) (P.map (enc n))
  | [], _, _ => trivial
  | [_], _, _ => trivial
  | p :: q :: t, h, k => by
    refine ⟨?_, chain_map (P := q :: t) h.2 (fun r hr => k r (List.mem_cons_of_mem _ hr))⟩
    show Adj (dec n (enc n p)) (dec n (enc n q))
    rw [dec_enc (k p (by simp)), dec_enc (k q (by simp))]
    exact h.1
theorem walk_dec {n : Nat} : ∀ {P : List Nat}, Chain (NearN n) P → Walk (P.map (dec n))
  | [], _ => trivial
  | [_], _ => trivial
  | p :: q :: t, h => ⟨h.1, walk_dec (P := q :: t) h.2⟩
def Bridge (n : Nat) (X : Nat → Prop) (x : Bool) (P : List Nat) : Prop := Wy (n * n) (NearN n) (fun a => if x then X a else ¬ X a) (Side n x (n - 1)) P ∧ Side n x 0 (headN P)
theorem bridge_one {n : Nat} (hn : 0 < n) (X : Nat → Prop) : (∃ P, Bridge n X true P) ∨ (∃ P, Bridge n X false P) := by
  obtain ⟨N, rfl⟩ : ∃ N, n = N + 1 := ⟨n - 1, by omega⟩
  have conv : ∀ (S : Pt → Prop) (P : List Pt), Way (N + 1) S P → P.map (enc (N + 1)) ≠ [] ∧ Chain (NearN (N + 1)) (P.map (enc (N + 1))) ∧ (∀ a ∈ P.map (enc (N + 1)), a < (N + 1) * (N + 1) ∧ S (dec (N + 1) a)) ∧
      dec (N + 1) (headN (P.map (enc (N + 1)))) = firstP P ∧ dec (N + 1) (lastN (P.map (enc (N + 1)))) = lastP P := fun S P h => by
    have hf : firstP P ∈ P := by
      match P, h with
      | [], h => exact absurd rfl h.ne
      | p :: t, _ => exact List.mem_cons_self
    refine ⟨by simpa using h.ne, chain_map h.walk fun p hp => (h.mem p hp).1.2, fun a ha => ?_, ?_, ?_⟩
    · obtain ⟨p, hp, rfl⟩ := List.mem_map.1 ha
      exact ⟨enc_lt (h.mem p hp).1, by rw [dec_enc (h.mem p hp).1.2]; exact (h.mem p hp).2⟩
    · rw [first_map h.ne, dec_enc (h.mem _ hf).1.2]
    · rw [last_map h.ne, dec_enc (h.mem _ (last_mem h.ne)).1.2]
  have hed : ∀ a, enc (N + 1) (dec (N + 1) a) = a := fun a => by
    unfold enc dec
    show a / (N + 1) * (N + 1) + a % (N + 1) = a
    rw [Nat.mul_comm]
    exact Nat.div_add_mod a (N + 1)
  rcases hex N (fun p => X (enc (N + 1) p)) with ⟨P, h1, h2, h3⟩ | ⟨P, h1, h2, h3⟩
  · obtain ⟨k1, k2, k3, k4, k5⟩ := conv _ P h1
    refine .inl ⟨P.map (enc (N + 1)), ⟨k1, k2, fun a ha => ⟨(k3 a ha).1, ?_⟩, ?_⟩, ?_⟩
    · have := (k3 a ha).2
      rw [if_pos rfl]
      rwa [hed] at this
    · unfold Side
      rw [if_pos rfl]
      have := congrArg Prod.fst k5
      exact this.trans h3
    · unfold Side
      rw [if_pos rfl]
      have := congrArg Prod.fst k4
      exact this.trans h2
  · obtain ⟨k1, k2, k3, k4, k5⟩ := conv _ P h1
    refine .inr ⟨P.map (enc (N + 1)), ⟨k1, k2, fun a ha => ⟨(k3 a ha).1, ?_⟩, ?_⟩, ?_⟩
    · have := (k3 a ha).2
      rw [if_neg (by decide)]
      rwa [hed] at this
    · unfold Side
      rw [if_neg (by decide)]
      have := congrArg Prod.snd k5
      exact this.trans h3
    · unfold Side
      rw [if_neg (by decide)]
      have := congrArg Prod.snd k4
      exact this.trans h2
theorem bridge_both {n : Nat} (hn : 0 < n) {X : Nat → Prop} {P Q : List Nat} (h : Bridge n X true P) (k : Bridge n X false Q) : False := by
  have hx := h.1
  have kx := k.1
  have a0 : (firstP (P.map (dec n))).1 = 0 := by
    rw [first_dec hx.ne]
    have := h.2
    unfold Side at this
    rwa [if_pos rfl] at this
  have a1 : (lastP (P.map (dec n))).1 = n - 1 := by
    rw [last_dec hx.ne]
    have := hx.fin
    unfold Side at this
    rwa [if_pos rfl] at this
  have b0 : (firstP (Q.map (dec n))).2 = 0 := by
    rw [first_dec kx.ne]
    have := k.2
    unfold Side at this
    rwa [if_neg (by decide)] at this
  have b1 : (lastP (Q.map (dec n))).2 = n - 1 := by
    rw [last_dec kx.ne]
    have := kx.fin
    unfold Side at this
    rwa [if_neg (by decide)] at this
  obtain ⟨v, h1, h2⟩ := meet (n := n) (P := P.map (dec n)) (Q := Q.map (dec n)) (by simpa using hx.ne) (by simpa using kx.ne) (walk_dec hx.chain) (walk_dec kx.chain)
    (fun p hp => by obtain ⟨a, ha, rfl⟩ := List.mem_map.1 hp; exact dec_in hn (hx.mem a ha).1) (fun p hp => by obtain ⟨a, ha, rfl⟩ := List.mem_map.1 hp; exact dec_in hn (kx.mem a ha).1) a0 a1 b0 b1
  obtain ⟨a, ha, e1⟩ := List.mem_map.1 h1
  obtain ⟨b, hb, e2⟩ := List.mem_map.1 h2
  have e : a = b := by
    have h3 : dec n a = dec n b := e1.trans e2.symm
    have h4 := congrArg Prod.fst h3
    have h5 := congrArg Prod.snd h3
    have h6 : n * (a / n) + a % n = a := Nat.div_add_mod a n
    have h7 : n * (b / n) + b % n = b := Nat.div_add_mod b n
    have h4 : a / n = b / n := h4
    have h5 : a % n = b % n := h5
    rw [← h6, ← h7, h4, h5]
  subst e
  have k1 := (hx.mem a ha).2
  have k2 := (kx.mem a hb).2
  rw [if_pos rfl] at k1
  rw [if_neg (by decide)] at k2
  exact k2 k1
end Go.Proofs.YtlmgkmmdaecpdaaDoor.Mi

namespace Go.Proofs.YtlmgkmmdaecpdaaDoor.Im
open Go.RowKit Go.Proofs.YtlmgkmmdaecpdaaDoorW.PrintWords Go.Proofs.YtlmgkmmdaecpdaaDoorW.PrintLast Go.Proofs.YtlmgkmmdaecpdaaDoorW.PrintMore Go.Proofs.YtlmgkmmdaecpdaaDoor.Mi
set_option linter.unusedVariables false
instance (u v : Pt) : Decidable (Adj u v) := by unfold Adj; infer_instance
instance (n a b : Nat) : Decidable (NearN n a b) := by unfold NearN; infer_instance
def nbL (n i : Nat) : List Nat := (List.range (n * n)).filter fun j => decide (NearN n i j)
theorem mem_nbL {n i j : Nat} : j ∈ nbL n i ↔ j < n * n ∧ NearN n i j := by
  unfold nbL
  rw [List.mem_filter, List.mem_range, decide_eq_true_eq]
theorem nbL_asc (n i : Nat) : (nbL n i).Pairwise (· < ·) := (List.pairwise_lt_range).filter _
set_option maxRecDepth 100000 in
theorem perm_all : ((List.range 12).all fun n => (List.range (n * n)).all fun i => (unsN n i 6).isPerm (nbL n i)) = true := by decide +kernel
theorem sort_uns {n i : Nat} (h11 : n ≤ 11) (hi : i < n * n) : ((ints (unsN n i 6)).mergeSort fun x y => decide (x ≤ y)) = ints (nbL n i) := by
  have hp : (unsN n i 6).Perm (nbL n i) := by
    have := List.all_eq_true.1 (List.all_eq_true.1 perm_all n (List.mem_range.2 (by omega))) i (List.mem_range.2 hi)
    exact List.isPerm_iff.1 this
  have h1 : ((ints (unsN n i 6)).mergeSort fun x y => decide (x ≤ y)).Perm (ints (nbL n i)) := (List.mergeSort_perm _ _).trans (hp.map _)
  refine List.Perm.eq_of_pairwise (le := fun a b : Int => a ≤ b) (fun a b _ _ h1 h2 => Int.le_antisymm h1 h2) ?_ ?_ h1
  · have := List.pairwise_mergeSort (le := fun x y : Int => decide (x ≤ y)) (fun a b c h1 h2 => by simp at *; omega) (fun a b => by simp; omega) (ints (unsN n i 6))
    exact this.imp fun h => by simpa using h
  · unfold ints
    rw [List.pairwise_map]
    exact (nbL_asc n i).imp fun h => by omega
theorem neighbours_any (g : Nat) (n i : Nat) (u : Value) (w : World) (h1 : 1 ≤ n) (h11 : n ≤ 11) (hi : i < n * n) (hs : Steps w) (hb : Blk w g 89 #[.int .i64 n, u]) :
    Calls Tryd.prog 67 #[.pointer (some ⟨g, 0, none⟩), .int .i64 i] w fun e w' => ∃ v, e = .returned v ∧ Kd.R (Kd.int .i64) 3 w' w.heap.size (fun _ => True) v (ints (nbL n i)) ∧ Below w.heap.size w w' := by
  rw [← sort_uns h11 hi]
  exact neighbours0 g n i u w h1 h11 hi hs hb
end Go.Proofs.YtlmgkmmdaecpdaaDoor.Im

