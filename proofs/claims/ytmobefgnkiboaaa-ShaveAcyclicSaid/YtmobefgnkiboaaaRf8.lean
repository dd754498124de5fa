/- Ascending lists as sets; the people with the number 0 are a kernel. -/
import Derived.Test.YtmobefgnkiboaaaRf7
namespace Go.Proofs.Ytmobefgnkiboaaa.Im
open Go.RowKit Go.Proofs.YtmobefgnkiboaaaW.PrintWords Go.Proofs.YtmobefgnkiboaaaW.PrintLast Go.Proofs.YtmobefgnkiboaaaW.PrintMore
set_option linter.unusedVariables false

theorem asc_of {n : Nat} {Z : List Nat} (h : Z.Pairwise (· < ·)) (hn : ∀ x ∈ Z, x < n) : AscTo n (ints Z) (ints Z).length := by
  intro j hj
  rw [ints_length] at hj
  unfold ascAt
  rw [rd_ints]
  have hg : Z.getD j 0 = Z[j] := by rw [List.getD_eq_getElem?_getD, List.getElem?_eq_getElem hj]; rfl
  refine ⟨by omega, by have := hn _ (List.getElem_mem hj); rw [hg]; omega, fun h0 => ?_⟩
  have e : (j : Int) - 1 = ((j - 1 : Nat) : Int) := by omega
  have hg1 : Z.getD (j - 1) 0 = Z[j - 1] := by rw [List.getD_eq_getElem?_getD, List.getElem?_eq_getElem (by omega)]; rfl
  rw [e, rd_ints, hg, hg1]
  have := List.pairwise_iff_getElem.1 h (j - 1) j (by omega) hj (by omega)
  omega
theorem foldl_bit (i : Nat) : ∀ (Z : List Nat) (s : Nat), ((ints Z).foldl (fun s x => s ||| 2 ^ x.toNat) s).testBit i = (s.testBit i || decide (i ∈ Z))
  | [], s => by simp [ints]
  | x :: Z, s => by
    show ((ints Z).foldl (fun s x => s ||| 2 ^ x.toNat) (s ||| 2 ^ ((x : Nat) : Int).toNat)).testBit i = _
    rw [foldl_bit i Z, Int.toNat_natCast, Nat.testBit_or, Nat.testBit_two_pow, Bool.or_assoc]
    congr 1
    rw [Bool.eq_iff_iff]
    simp only [Bool.or_eq_true, decide_eq_true_eq, List.mem_cons]
    constructor
    · rintro (h | h)
      · exact .inl h.symm
      · exact .inr h
    · rintro (h | h)
      · exact .inl h.symm
      · exact .inr h
theorem setOf_bit (Z : List Nat) (i : Nat) : (setOf (ints Z)).testBit i = decide (i ∈ Z) := by
  unfold setOf
  rw [foldl_bit, Nat.zero_testBit, Bool.false_or]
theorem land_zero (a b : Nat) : a &&& b = 0 ↔ ∀ i, ¬ (a.testBit i = true ∧ b.testBit i = true) := by
  constructor
  · intro h i hi
    have : (a &&& b).testBit i = true := by rw [Nat.testBit_and, hi.1, hi.2]; rfl
    rw [h, Nat.zero_testBit] at this
    cases this
  · intro h
    apply Nat.eq_of_testBit_eq
    intro i
    rw [Nat.zero_testBit, Nat.testBit_and]
    have := h i
    cases ha : a.testBit i <;> cases hb : b.testBit i <;> simp_all
theorem kerB_iff (n : Nat) (o : List Nat) (s : Nat) : kerB n o s (2 ^ n - 1) = true ↔ ∀ i, i < n → (s.testBit i = true → o.getD i 0 &&& s = 0) ∧ (s.testBit i = false → o.getD i 0 &&& s ≠ 0) := by
  unfold kerB AllB
  rw [List.all_eq_true]
  have key : ∀ i, i < n → ((indB o s i && absB o s (2 ^ n - 1) i) = true ↔ (s.testBit i = true → o.getD i 0 &&& s = 0) ∧ (s.testBit i = false → o.getD i 0 &&& s ≠ 0)) := fun i hi => by
    unfold indB absB
    rw [Nat.testBit_two_pow_sub_one, decide_eq_true hi]
    cases s.testBit i <;> simp
  exact ⟨fun h i hi => (key i hi).1 (h i (List.mem_range.2 hi)), fun h i hi => (key i (List.mem_range.1 hi)).2 (h i (List.mem_range.1 hi))⟩
def zeroL (k : Nat) (ranks : List Nat) : List Nat := (List.range k).filter fun i => ranks.getD i 0 == 0
theorem zero_ker {n : Nat} {o ranks : List Nat} (ok : Okt n o) (h : fullRk n o ranks) : isB n o (ints (zeroL n ranks)) = true := by
  obtain ⟨hl, hr, hp⟩ := h
  have hmem : ∀ i, i ∈ zeroL n ranks ↔ i < n ∧ ranks.getD i 0 = 0 := fun i => by unfold zeroL; rw [List.mem_filter, List.mem_range, beq_iff_eq]
  unfold isB
  rw [Bool.and_eq_true, decide_eq_true_eq]
  refine ⟨asc_of (List.pairwise_lt_range.filter _) (fun x hx => ((hmem x).1 hx).1), ?_⟩
  rw [kerB_iff]
  intro i hi
  have hf := (posB_full ok hl hr i).1 ((possB_iff _ _).1 hp i (by omega))
  rw [setOf_bit]
  constructor
  · intro hz
    rw [decide_eq_true_eq, hmem] at hz
    rw [land_zero]
    rintro b ⟨h1, h2⟩
    rw [setOf_bit, decide_eq_true_eq, hmem] at h2
    have : thereX (o.getD i 0) ranks (ranks.getD i 0) = true := (there_iff _ _ _).2 ⟨b, by omega, h1, by rw [h2.2, hz.2]⟩
    rw [this] at hf
    exact absurd hf.2 (by simp)
  · intro hz h0
    rw [decide_eq_false_iff_not, hmem] at hz
    rw [land_zero] at h0
    have hpos : 0 < ranks.getD i 0 := by
      rcases Nat.eq_zero_or_pos (ranks.getD i 0) with h1 | h1
      · exact absurd ⟨hi, h1⟩ hz
      · exact h1
    obtain ⟨b, h1, h2, h3⟩ := (there_iff _ _ _).1 (hf.1 0 hpos)
    exact h0 b ⟨h2, by rw [setOf_bit, decide_eq_true_eq, hmem]; exact ⟨by omega, h3⟩⟩
end Go.Proofs.Ytmobefgnkiboaaa.Im
