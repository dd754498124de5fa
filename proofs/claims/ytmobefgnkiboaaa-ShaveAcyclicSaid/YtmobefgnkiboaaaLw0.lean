/- Words for the laws: equal lists are the same; the guards. -/
import Derived.Test.YtmobefgnkiboaaaMg
import Derived.Test.YtmobefgnkiboaaaMh
namespace Go.Proofs.Ytmobefgnkiboaaa.Im
open Go.RowKit Go.Proofs.YtmobefgnkiboaaaW.PrintWords Go.Proofs.YtmobefgnkiboaaaW.PrintLast Go.Proofs.YtmobefgnkiboaaaW.PrintMore
set_option linter.unusedVariables false

theorem same_l0 (xs : List Int) (hx : xs.length < 1000000) : ∀ (d i : Nat), i + d = xs.length → Gives (fun k => pomadelaw02_same.l0 k xs xs i) true
  | 0, i, h => Gives.now fun k => by
    simp only [pomadelaw02_same.l0]
    rw [if_neg (by omega)]
  | d + 1, i, h => (same_l0 xs hx d (i + 1) (by omega)).step fun k hk => by
    simp only [pomadelaw02_same.l0]
    rw [if_pos (by omega), if_pos (by omega), if_pos (by omega), if_pos trivial, wr_succ i (by omega), hk]
theorem same_g (xs : List Int) (hx : xs.length < 1000000) : Gives (fun k => pomadelaw02_same.f k xs xs) true :=
  (same_l0 xs hx xs.length 0 (by omega)).map fun k hk => by
    simp only [pomadelaw02_same.f]
    rw [if_pos trivial]; exact hk
theorem same_any (xs : List Int) (A B : Option Addr) (c d : Nat) (w : World) (hx : xs.length < 1000000) (hA : Kd.C (Kd.int .i64) w A xs.length xs) (hc : xs.length ≤ c) (hB : Kd.C (Kd.int .i64) w B xs.length xs) (hd : xs.length ≤ d) :
    Calls Try.prog 18 #[.slice A xs.length c, .slice B xs.length d] w fun e w' => e = .returned (.bool true) ∧ Below w.heap.size w w' := by
  obtain ⟨k0, hk0⟩ := same_g xs hx
  exact (pomadelaw02_same.calls k0 A c xs B d xs true w hA hc hB hd (hk0 k0 (Nat.le_refl _))).mono fun e w' ⟨h1, h2⟩ => ⟨h1, h2.below⟩
theorem few_any (A B : Option Addr) (c d : Nat) (l : List S43) (xs : List Int) (w : World) (hA : Kd.C k43 w A l.length l) (hc : l.length ≤ c) (hB : Kd.C (Kd.int .i64) w B xs.length xs) (hd : xs.length ≤ d) :
    Calls Try.prog 14 #[.slice A l.length c, .slice B xs.length d] w fun e w' => e = .returned (.bool (decide (l.length ≤ 150) && decide (xs.length ≤ 50))) ∧ Below w.heap.size w w' := by
  have h : pomadelaw02_few.f l xs = some (decide (l.length ≤ 150) && decide (xs.length ≤ 50)) := by
    unfold pomadelaw02_few.f
    by_cases h : l.length ≤ 150
    · rw [if_pos (by omega), decide_eq_true h, Bool.true_and]
      congr 1
      rw [decide_eq_decide]; omega
    · rw [if_neg (by omega), decide_eq_false h]; rfl
  exact (pomadelaw02_few.calls A c l B d xs _ w hA hc hB hd h).mono fun e w' h => ⟨h.1, h.2.below⟩
theorem few_nil (A : Option Addr) (c : Nat) (l : List S43) (w : World) (hA : Kd.C k43 w A l.length l) (hc : l.length ≤ c) :
    Calls Try.prog 14 #[.slice A l.length c, .slice none 0 0] w fun e w' => e = .returned (.bool (decide (l.length ≤ 150))) ∧ Below w.heap.size w w' := by
  have h := few_any A none c 0 l [] w hA hc ⟨rfl, by simp, fun h => absurd h (by simp)⟩ (Nat.le_refl _)
  simpa using h
/-- A list and no error, or nothing and an error. -/
def OutE (w : World) (r : Option (List Nat)) (er : Int) (e : Ending) (w' : World) : Prop :=
  match r with
  | some l => ∃ A c, e = .returned (.tuple #[.slice (some A) (ints l).length c, .int .i64 0]) ∧ (ints l).length ≤ c ∧ Kd.C (Kd.int .i64) w' (some A) (ints l).length (ints l) ∧ Below w.heap.size w w'
  | none => e = .returned (.tuple #[.slice none 0 0, .int .i64 er]) ∧ Below w.heap.size w w'
def outR (n : Int) (l : List S43) (x : Option (List Nat)) : Option (List Nat) := if ofE n l = 0 then x else none
def outX (n : Int) (l : List S43) : Int := if ofE n l = 0 then 10 else ofE n l
theorem outE_of {n : Int} {l : List S43} {w : World} {x : Option (List Nat)} {e : Ending} {w' : World}
    (h : if ofE n l = 0 then FoundE w x e w' else e = .returned (.tuple #[.slice none 0 0, .int .i64 (ofE n l)]) ∧ Below w.heap.size w w') : OutE w (outR n l x) (outX n l) e w' := by
  unfold outR outX
  by_cases he : ofE n l = 0
  · rw [if_pos he] at h
    rw [if_pos he, if_pos he]
    cases x <;> exact h
  · rw [if_neg he] at h
    rw [if_neg he, if_neg he]
    exact h
theorem nil_C (w : World) : Kd.C (Kd.int .i64) w none ([] : List Int).length [] := ⟨rfl, by simp, fun h => absurd h (by simp)⟩
end Go.Proofs.Ytmobefgnkiboaaa.Im
