/- Further parts of the same walk: contracts of the functions that the law reaches, each under the conditions that it states. -/
import Derived.Test.YtlmgkmmdaecpdaaDoorC12K
import Derived.WideKeyPair
import Derived.Maps.OwnOps
import Derived.DeepKeys4
import Derived.DeepKeys3
import Derived.WalkArith
namespace Go.Proofs.YtlmgkmmdaecpdaaDoor.Im
open Go.RowKit Go.Proofs.YtlmgkmmdaecpdaaDoorW.PrintWords Go.Proofs.YtlmgkmmdaecpdaaDoorW.PrintLast Go.Proofs.YtlmgkmmdaecpdaaDoorW.PrintMore Go.Proofs.YtlmgkmmdaecpdaaDoor.Mi
set_option linter.unusedVariables false
set_option linter.unusedSimpArgs false
theorem arrP : WideMaps.ArrKey Tryd.prog 95 3 2 := ⟨by kernel_rfl, by kernel_rfl, by kernel_rfl, by kernel_rfl⟩
theorem sizeT : ∃ m, Tryd.prog.types.size = m + 1 := ⟨_, (by kernel_rfl : Tryd.prog.types.size = (Tryd.prog.types.size - 1) + 1)⟩
theorem lawP : Maps.Keyed Tryd.prog 95 := Maps.Keyed.of_law arrP.law
theorem wf_n {i : Nat} (h : i ≤ 100) : (Lit.int .i64 (i : Int)).wf = true := by
  exact WalkArith.wf_i64 ⟨by omega, by omega⟩
def kP (i j : Nat) : Lit := .string (keyBytes [.int .i64 (i : Int), .int .i64 (j : Int)])
theorem key_P {i j : Nat} (hi : i ≤ 100) (hj : j ≤ 100) : keyOf Tryd.prog 95 (.agg #[.int .i64 (i : Int), .int .i64 (j : Int)]) = some (kP i j) :=
  WideMaps.keyOf_pair arrP Tryd.underlying3 sizeT (wf_n hi) (wf_n hj)
theorem arr_inj {P : Program} {k e : TypeId} {n : Nat} (A : WideMaps.ArrKey P k e n) {a b : Value} {l : Lit} (ha : keyOf P k a = some l) (hb : keyOf P k b = some l) : a = b := keyOf_inj_deep (m := 2) A.tiled A.wide ha hb
theorem kP_inj {i j i' j' : Nat} (hi : i ≤ 100) (hj : j ≤ 100) (hi' : i' ≤ 100) (hj' : j' ≤ 100) (h : kP i j = kP i' j') : i = i' ∧ j = j' := by
  have h1 := key_P hi hj
  have h2 := key_P hi' hj'
  rw [← h] at h2
  have := arr_inj arrP h1 h2
  have h3 : #[Value.int .i64 (i : Int), .int .i64 (j : Int)] = #[Value.int .i64 (i' : Int), .int .i64 (j' : Int)] := by injection this
  have e0 := congrArg (fun a => a[0]?) h3
  have e1 := congrArg (fun a => a[1]?) h3
  simp at e0 e1
  exact ⟨by omega, by omega⟩
theorem kP_key (i j : Nat) : WideAt.IsKeyLit (kP i j) := by constructor
def offT (n : Nat) : Nat → Nat
  | 0 => 0
  | i + 1 => offT n i + (n + 1 - i)
theorem offT_mono (n : Nat) {i j : Nat} (h : i ≤ j) : offT n i ≤ offT n j := by
  induction h with
  | refl => exact Nat.le_refl _
  | step h ih => exact Nat.le_trans ih (Nat.le_add_right _ _)
theorem offT_lt {n i j : Nat} (h : i + j ≤ n) : offT n i + j < offT n (n + 1) := by
  have h1 := offT_mono n (show i + 1 ≤ n + 1 by omega)
  have h2 : offT n (i + 1) = offT n i + (n + 1 - i) := rfl
  omega
set_option maxRecDepth 100000 in
theorem offT_val : ∀ n, n ≤ 20 → offT n (n + 1) = (n + 1) * (n + 2) / 2 := by decide
theorem offT_le {n : Nat} (h : n ≤ 20) : offT n (n + 1) ≤ 231 := by
  rw [offT_val n h]
  have := Nat.mul_le_mul (show n + 1 ≤ 21 by omega) (show n + 2 ≤ 22 by omega)
  omega
def colT (n : Nat) (l : List UInt8) (i j : Nat) : Int := ((l.getD (offT n i + j) 0).toNat : Int)
def triE (n : Int) (s : ByteArray) : Int := if n < 1 ∨ 20 < n then 2 else if s.size = offT n.toNat (n.toNat + 1) ∧ s.data.toList.all ([48, 49, 50].contains ·) = true then 0 else 5
def Bef (i j r c : Nat) : Prop := i < r ∨ i = r ∧ j < c
structure TriI (n : Nat) (l : List UInt8) (r c : Nat) (D : DataW Unit) : Prop where
  im : Maps.IsMap D
  has : ∀ i j, i + j ≤ n → Bef i j r c → Maps.has D (kP i j) = true
  at_ : ∀ i j, i + j ≤ n → Bef i j r c → ∀ z, D.atKey (kP i j) z = .lit (.int .u8 (colT n l i j))
  only : ∀ kl, Maps.has D kl = true → ∃ i j, i + j ≤ n ∧ Bef i j r c ∧ kl = kP i j
theorem TriI.start (n : Nat) (l : List UInt8) : TriI n l 0 0 (.map []) := ⟨⟨[], rfl⟩, fun i j _ h => by unfold Bef at h; omega, fun i j _ h => by unfold Bef at h; omega, fun kl h => by cases h⟩
theorem TriI.put {n : Nat} {l : List UInt8} {r c : Nat} {D : DataW Unit} (h : TriI n l r c D) (hn : n ≤ 20) (hr : r + c ≤ n) : TriI n l r (c + 1) (D.put (kP r c) (.lit (.int .u8 (colT n l r c)))) := by
  have hk := kP_key r c
  refine ⟨?_, fun i j hij hb => ?_, fun i j hij hb z => ?_, fun kl hkl => ?_⟩
  · obtain ⟨es, rfl⟩ := h.im
    exact ⟨_, rfl⟩
  · by_cases e : kP i j = kP r c
    · rw [e]; exact Maps.has_put_same h.im hk _
    · rw [Maps.has_put_other e]
      refine h.has i j hij ?_
      have : ¬ (i = r ∧ j = c) := fun x => e (by rw [x.1, x.2])
      unfold Bef at *; omega
  · by_cases e : kP i j = kP r c
    · obtain ⟨rfl, rfl⟩ := kP_inj (by omega) (by omega) (by omega) (by omega) e
      exact Maps.atKey_put_same h.im hk _ _
    · rw [Maps.atKey_put_other e]
      refine h.at_ i j hij ?_ z
      have : ¬ (i = r ∧ j = c) := fun x => e (by rw [x.1, x.2])
      unfold Bef at *; omega
  · by_cases e : kl = kP r c
    · exact ⟨r, c, hr, .inr ⟨rfl, by omega⟩, e⟩
    · rw [Maps.has_put_other e] at hkl
      obtain ⟨i, j, h1, h2, h3⟩ := h.only kl hkl
      exact ⟨i, j, h1, by unfold Bef at *; omega, h3⟩
theorem TriI.row {n : Nat} {l : List UInt8} {r c : Nat} {D : DataW Unit} (h : TriI n l r c D) (hc : n < r + c) : TriI n l (r + 1) 0 D :=
  ⟨h.im, fun i j hij hb => h.has i j hij (by unfold Bef at *; omega), fun i j hij hb => h.at_ i j hij (by unfold Bef at *; omega), fun kl hkl => by
    obtain ⟨i, j, h1, h2, h3⟩ := h.only kl hkl
    exact ⟨i, j, h1, by unfold Bef at *; omega, h3⟩⟩
structure Tri (w : World) (g n mb m : Nat) (l : List UInt8) (D : DataW Unit) : Prop where
  hd : Blk w g 117 #[.int .i64 n, .map (some mb)]
  own : w.ownsMap Tryd.prog 95 (plainElem Tryd.prog 5) mb m D
  all : TriI n l (n + 1) 0 D
  n1 : 1 ≤ n
  n20 : n ≤ 20
  len : l.length = offT n (n + 1)
  ok : ∀ b ∈ l, b = 48 ∨ b = 49 ∨ b = 50
theorem own_below {w w' : World} {k : TypeId} {mb m : Nat} {D : DataW Unit} {R : Value → Option (DataW Unit × List MemPlace)} (h : w.ownsMap Tryd.prog k R mb m D) (hb : Below w.heap.size w w') : w'.ownsMap Tryd.prog k R mb m D := by
  have hl := h.lt
  obtain ⟨es, clock, h1, h2⟩ := h
  exact ⟨es, clock, (hb.block _ hl).trans h1, h2⟩
theorem Tri.later {w w' : World} {g n mb m : Nat} {l : List UInt8} {D : DataW Unit} (h : Tri w g n mb m l D) (hb : Below w.heap.size w w') : Tri w' g n mb m l D :=
  ⟨h.hd.later hb, own_below h.own hb, h.all, h.n1, h.n20, h.len, h.ok⟩
def OfPost (n : Int) (s : ByteArray) (w : World) (e : Ending) (w' : World) : Prop :=
  Below w.heap.size w w' ∧ if triE n s = 0 then ∃ g mb m D, e = .returned (.tuple #[.pointer (some ⟨g, 0, none⟩), .int .i64 0]) ∧ Tri w' g n.toNat mb m s.data.toList D ∧ w.heap.size ≤ g ∧ w.heap.size ≤ mb
    else e = .returned (.tuple #[.pointer none, .int .i64 (triE n s)])
end Go.Proofs.YtlmgkmmdaecpdaaDoor.Im

