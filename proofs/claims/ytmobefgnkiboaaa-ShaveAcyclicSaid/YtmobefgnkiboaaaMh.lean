/- What the specification's small functions compute: Members, size, Town. What the specification's 'may' computes. The specification's 'may' is the program's judgement. The specification's search for a ranking. -/
import Derived.Test.YtmobefgnkiboaaaMf
import Derived.Test.YtmobefgnkiboaaaIm2
import Derived.Test.YtmobefgnkiboaaaIm3
import Derived.Test.YtmobefgnkiboaaaIm4
import Derived.Test.YtmobefgnkiboaaaIm5
import Derived.Test.YtmobefgnkiboaaaIm6
namespace Go.Proofs.Ytmobefgnkiboaaa.Im
open Go.RowKit Go.Proofs.YtmobefgnkiboaaaW.PrintWords Go.Proofs.YtmobefgnkiboaaaW.PrintLast Go.Proofs.YtmobefgnkiboaaaW.PrintMore
set_option linter.unusedVariables false

/-- With fuel enough the answer is r. -/
def Gives {α : Type} (f : Nat → Option α) (r : α) : Prop := ∃ k0, ∀ k, k0 ≤ k → f k = some r
theorem Gives.now {α : Type} {g : Nat → Option α} {r : α} (h : ∀ k, g (k + 1) = some r) : Gives g r :=
  ⟨1, fun k hk => by obtain ⟨m, rfl⟩ : ∃ m, k = m + 1 := ⟨k - 1, by omega⟩; exact h m⟩
theorem Gives.all {α : Type} {g : Nat → Option α} {r : α} (h : ∀ k, g k = some r) : Gives g r := ⟨0, fun k _ => h k⟩
theorem Gives.step {α β : Type} {f : Nat → Option α} {r : α} {g : Nat → Option β} {s : β} (h : Gives f r) (hs : ∀ k, f k = some r → g (k + 1) = some s) : Gives g s := by
  obtain ⟨k0, h⟩ := h
  exact ⟨k0 + 1, fun k hk => by obtain ⟨m, rfl⟩ : ∃ m, k = m + 1 := ⟨k - 1, by omega⟩; exact hs m (h m (by omega))⟩
theorem Gives.map {α β : Type} {f : Nat → Option α} {r : α} {g : Nat → Option β} {s : β} (h : Gives f r) (hs : ∀ k, f k = some r → g k = some s) : Gives g s := by
  obtain ⟨k0, h⟩ := h
  exact ⟨k0, fun k hk => hs k (h k hk)⟩
theorem Gives.both {α β : Type} {f : Nat → Option α} {r : α} {g : Nat → Option β} {s : β} (h : Gives f r) (h' : Gives g s) : Gives (fun k => (f k).bind fun x => (g k).map fun y => (x, y)) (r, s) := by
  obtain ⟨k0, h⟩ := h
  obtain ⟨k1, h'⟩ := h'
  exact ⟨k0 + k1, fun k hk => by show (f k).bind _ = _; rw [h k (by omega), h' k (by omega)]; rfl⟩
theorem Gives.map2 {α β γ : Type} {f : Nat → Option α} {r : α} {f' : Nat → Option β} {r' : β} {g : Nat → Option γ} {s : γ} (h : Gives f r) (h' : Gives f' r') (hs : ∀ k, f k = some r → f' k = some r' → g k = some s) : Gives g s := by
  obtain ⟨k0, h⟩ := h
  obtain ⟨k1, h'⟩ := h'
  exact ⟨k0 + k1, fun k hk => hs k (h k (by omega)) (h' k (by omega))⟩
theorem Gives.step2 {α β γ : Type} {f : Nat → Option α} {r : α} {f' : Nat → Option β} {r' : β} {g : Nat → Option γ} {s : γ} (h : Gives f r) (h' : Gives f' r') (hs : ∀ k, f k = some r → f' k = some r' → g (k + 1) = some s) : Gives g s :=
  Gives.step (h.both h') (fun k hk => by
    cases e1 : f k with
    | none => simp [e1] at hk
    | some x =>
      cases e2 : f' k with
      | none => simp [e1, e2] at hk
      | some y =>
        simp only [e1, e2, Option.bind_some, Option.map_some, Option.some.injEq, Prod.mk.injEq] at hk
        exact hs k (by rw [e1, hk.1]) (by rw [e2, hk.2]))

theorem tbit (s i : Nat) (h : i ≤ 62) : Int.tmod (shr .i64 (s : Int) (i : Int)) 2 = if s.testBit i then 1 else 0 := by
  rw [shr_i64 s i h]
  have e := bit_one s i
  rw [Nat.and_comm, Nat.one_and_eq_mod_two] at e
  have : Int.tmod ((s >>> i : Nat) : Int) 2 = (((s >>> i) % 2 : Nat) : Int) := by
    rw [Int.tmod_eq_emod_of_nonneg (Int.natCast_nonneg _)]; rfl
  rw [this, e]
  split <;> rfl
theorem tbit1 (s i : Nat) (h : i ≤ 62) : (Int.tmod (shr .i64 (s : Int) (i : Int)) 2 = 1) ↔ s.testBit i = true := by
  rw [tbit s i h]; cases s.testBit i <;> simp
theorem shl1 (i : Nat) (h : i < 62) : shl .i64 1 (i : Int) = ((2 ^ i : Nat) : Int) := by
  unfold shl
  rw [Int.toNat_natCast, Nat.min_eq_left (by show i ≤ 64; omega), Int.one_mul, two_pow_nat]
  have : 2 ^ i < 2 ^ 62 := Nat.pow_lt_pow_right (by decide) h
  exact wr62 _ (Int.natCast_nonneg _) (by exact_mod_cast this)

theorem memF_more (p : Nat) : ∀ (a b i : Nat), memF p (a + b) i = memF p a i ++ memF p b (i + a)
  | 0, b, i => by simp [memF]
  | a + 1, b, i => by
    rw [show a + 1 + b = (a + b) + 1 by omega, memF, memF, memF_more p a b (i + 1), show i + 1 + a = i + (a + 1) by omega]
    split <;> simp
theorem mem30 (p : Nat) (hp : p < 4096) : memF p 30 0 = memL p := by
  rw [show 30 = 12 + 18 from rfl, memF_more, memF_none p 18 (0 + 12) (by rw [Nat.shiftRight_eq_div_pow]; omega), List.append_nil]
  rfl
theorem ints_snoc' (l : List Nat) (k : Nat) : ints l ++ [(k : Int)] = ints (l ++ [k]) := by simp [ints]
theorem members_l0 (s : Nat) : ∀ (d i : Nat) (acc : List Nat), i + d = 30 → acc.length ≤ i → Gives (fun k => pomaderef01_Members.l0 k s (ints acc) i) (ints (acc ++ memF s d i))
  | 0, i, acc, h, ha => Gives.now fun k => by
    simp only [pomaderef01_Members.l0]
    rw [if_neg (by omega)]; simp [memF]
  | d + 1, i, acc, h, ha => by
    have hl := ints_length acc
    cases hb : s.testBit i
    · refine Gives.step (members_l0 s d (i + 1) acc (by omega) (by omega)) fun k hk => ?_
      simp only [pomaderef01_Members.l0]
      rw [if_pos (by omega), if_pos (by omega), if_neg (by rw [tbit1 s i (by omega), hb]; simp), wr_succ i (by omega), hk, memF, hb]
      rfl
    · refine Gives.step (members_l0 s d (i + 1) (acc ++ [i]) (by omega) (by simp; omega)) fun k hk => ?_
      simp only [pomaderef01_Members.l0]
      rw [if_pos (by omega), if_pos (by omega), if_pos (by rw [tbit1 s i (by omega), hb]), if_pos (by omega), wr_succ i (by omega), ints_snoc', hk, memF, hb]
      simp
theorem members_g (s : Nat) (hs : s < 4096) : Gives (fun k => pomaderef01_Members.f k s) (ints (memL s)) := by
  have := members_l0 s 30 0 [] rfl (Nat.le_refl _)
  rw [List.nil_append, mem30 s hs] at this
  exact this
theorem size_g (s : Nat) (hs : s < 4096) : Gives (fun k => pomaderef02_size.f k s) ((memL s).length : Nat) :=
  (members_g s hs).map fun k hk => by
    simp only [pomaderef02_size.f]
    rw [hk, Option.bind_some, ints_length]

/-! ### Town -/
theorem rd_takes (o : List Nat) (n a : Nat) (h : a < n) : rd (ints (o.take n)) a = ((o.getD a 0 : Nat) : Int) := by
  rw [rd_ints]
  simp [List.getD_eq_getElem?_getD, h]
theorem town_step (o : List Nat) (n a b : Nat) (ha : a < n) (hb : b < 12) (hlt : o.getD a 0 < 2 ^ 62) :
    (ints (o.take n)).set a (bits .or .i64 (rd (ints (o.take n)) a) (shl .i64 1 b)) = ints ((o.set a (o.getD a 0 ||| 2 ^ b)).take n) := by
  rw [rd_takes o n a ha, shl1 b (by omega), b_or _ _ hlt (Nat.pow_lt_pow_right (by decide) (by omega)), List.take_set, ints, ← List.map_set]
  rfl
theorem pre_lt {n : Nat} {l : List S43} {k : Nat} (h : PreOk n l k) (i : Nat) : (townO (l.take k)).getD i 0 < 2 ^ n := by
  refine foldl_lt n (l.take k) zero12 (fun i => ?_) (fun p hp => ?_) i
  · have hz : 0 < 2 ^ n := Nat.two_pow_pos n
    have : zero12.getD i 0 = 0 := by
      rcases Nat.lt_or_ge i 12 with h | h
      · have : i = 0 ∨ i = 1 ∨ i = 2 ∨ i = 3 ∨ i = 4 ∨ i = 5 ∨ i = 6 ∨ i = 7 ∨ i = 8 ∨ i = 9 ∨ i = 10 ∨ i = 11 := by omega
        rcases this with rfl | rfl | rfl | rfl | rfl | rfl | rfl | rfl | rfl | rfl | rfl | rfl <;> rfl
      · simp [zero12, List.getD_eq_getElem?_getD, h]
    omega
  · obtain ⟨j, hj, rfl⟩ := List.getElem_of_mem hp
    have hj' : j < k ∧ j < l.length := by simpa [Nat.lt_min] using hj
    have := h j hj'.1
    simpa [rd_T43, hj'.2] using this
theorem Town_l0 (n : Nat) (l : List S43) (hn : n ≤ 12) (hl : l.length ≤ 80) : ∀ (d i : Nat), i + d = l.length → PreOk n l i →
    Gives (fun k => pomaderef02_Town.l0 k n l (ints ((townO (l.take i)).take n)) i) (if l.all (arcOk n) then (ints ((townO l).take n), 0) else ([], 2))
  | 0, i, h, hp => Gives.now fun k => by
    obtain rfl : i = l.length := by omega
    simp only [pomaderef02_Town.l0]
    rw [if_neg (by omega), all_of_pre hp, List.take_length]
    rfl
  | d + 1, i, h, hp => by
    have hi : i < l.length := by omega
    have hsn := townO_snoc l i hi
    have hlt := pre_lt hp
    have ho := townO_len (l.take i)
    generalize townO (l.take i) = o at *
    cases hok : arcOk n (rd_T43 l i)
    · refine Gives.now fun k => ?_
      simp only [pomaderef02_Town.l0]
      rw [if_pos (by omega), if_pos (by omega), not_all hi hok]
      simp only [arcOk, Bool.and_eq_false_iff, decide_eq_false_iff_not] at hok
      split
      · rfl
      split
      · rfl
      split
      · rfl
      split
      · rfl
      · omega
    · have hrec := Town_l0 n l hn hl d (i + 1) (by omega) (hp.succ hok)
      refine Gives.step hrec fun k hk => ?_
      simp only [arcOk, Bool.and_eq_true, decide_eq_true_eq] at hok
      simp only [pomaderef02_Town.l0]
      rw [hsn, addArc] at hk
      generalize rd_T43 l (i : Int) = p at *
      obtain ⟨a, b⟩ := p
      simp only at hok hk ⊢
      obtain ⟨a, rfl⟩ := Int.eq_ofNat_of_zero_le hok.1.1.1
      obtain ⟨b, rfl⟩ := Int.eq_ofNat_of_zero_le hok.1.2
      have h62 : o.getD a 0 < 2 ^ 62 := Nat.lt_of_lt_of_le (hlt a) (Nat.pow_le_pow_right (by decide) (by omega))
      have hol : (ints (o.take n)).length = n := by rw [ints_length, List.length_take, ho]; omega
      rw [if_pos (by omega), if_pos (by omega), if_neg (by omega), if_neg (by omega), if_neg (by omega), if_neg (by omega), if_pos (by omega), if_pos (by omega), if_pos (by omega), wr_succ i (by omega), Int.toNat_natCast, town_step o n a b (by omega) (by omega) h62]
      exact hk
theorem Town_j0 (n : Nat) (l : List S43) (hn : n ≤ 12) : Gives (fun k => pomaderef02_Town.j0 k n l false) (if 80 < l.length then ([], 3) else if l.all (arcOk n) then (ints ((townO l).take n), 0) else ([], 2)) := by
  by_cases hl : 80 < l.length
  · rw [if_pos hl]
    refine Gives.now fun k => ?_
    simp only [pomaderef02_Town.j0]
    rw [if_neg (by simp), if_pos (by omega)]
  · rw [if_neg hl]
    refine (Town_l0 n l hn (by omega) l.length 0 (by omega) (fun j hj => absurd hj (by omega))).step fun k hk => ?_
    simp only [pomaderef02_Town.j0]
    rw [if_neg (by simp), if_neg (by omega), if_pos (by omega), if_pos (by omega)]
    have e : ints ((townO (l.take 0)).take n) = List.replicate ((n : Nat) : Int).toNat 0 := by
      rw [Int.toNat_natCast]
      have : n = 0 ∨ n = 1 ∨ n = 2 ∨ n = 3 ∨ n = 4 ∨ n = 5 ∨ n = 6 ∨ n = 7 ∨ n = 8 ∨ n = 9 ∨ n = 10 ∨ n = 11 ∨ n = 12 := by omega
      rcases this with rfl | rfl | rfl | rfl | rfl | rfl | rfl | rfl | rfl | rfl | rfl | rfl | rfl <;> rfl
    rw [← e]
    exact hk
/-- The sets of a town, for its people alone. -/
def townL (n : Int) (l : List S43) : List Int := ints ((townO l).take n.toNat)
theorem Town_g (n : Int) (l : List S43) : Gives (fun k => pomaderef02_Town.f k n l) (if ofE n l = 0 then (townL n l, 0) else ([], ofE n l)) := by
  unfold pomaderef02_Town.f
  by_cases h1 : n < 1
  · have e : ofE n l = 2 := by unfold ofE; rw [if_pos (.inl h1)]
    rw [e, if_neg (by decide)]
    refine Gives.now fun k => ?_
    rw [if_pos h1]
    rfl
  by_cases h2 : 12 < n
  · have e : ofE n l = 2 := by unfold ofE; rw [if_pos (.inr h2)]
    rw [e, if_neg (by decide)]
    refine Gives.now fun k => ?_
    rw [if_neg h1, show decide (n > 12) = true from decide_eq_true h2]
    rfl
  have e : ofE n l = if 80 < l.length then 3 else if l.all (arcOk n) then 0 else 2 := by unfold ofE; rw [if_neg (by omega)]
  rw [e]
  obtain ⟨m, rfl⟩ : ∃ m : Nat, n = m := ⟨n.toNat, by omega⟩
  refine (Town_j0 m l (by omega)).map fun k hk => ?_
  rw [if_neg h1, show decide ((m : Int) > 12) = false from decide_eq_false h2, hk]
  by_cases h3 : 80 < l.length
  · simp [h3]
  · rw [if_neg h3, if_neg h3]
    cases l.all (arcOk m) <;> simp [townL]
end Go.Proofs.Ytmobefgnkiboaaa.Im

namespace Go.Proofs.Ytmobefgnkiboaaa.Im
open Go.RowKit Go.Proofs.YtmobefgnkiboaaaW.PrintWords Go.Proofs.YtmobefgnkiboaaaW.PrintLast Go.Proofs.YtmobefgnkiboaaaW.PrintMore
set_option linter.unusedVariables false
set_option linter.unusedSectionVars false

/-- Is there one among d numbers from i on? -/
def anyF (p : Nat → Bool) : Nat → Nat → Bool
  | 0, _ => false
  | d + 1, i => p i || anyF p d (i + 1)
/-- How many among d numbers from i on are not such? -/
def lackF (p : Nat → Bool) : Nat → Nat → Nat
  | 0, _ => 0
  | d + 1, i => (if p i then 0 else 1) + lackF p d (i + 1)
theorem anyF_iff (p : Nat → Bool) : ∀ d i, anyF p d i = true ↔ ∃ j, i ≤ j ∧ j < i + d ∧ p j = true
  | 0, i => by simp [anyF]; omega
  | d + 1, i => by
    rw [anyF, Bool.or_eq_true, anyF_iff p d (i + 1)]
    constructor
    · rintro (h | ⟨j, h1, h2, h3⟩)
      · exact ⟨i, Nat.le_refl _, by omega, h⟩
      · exact ⟨j, by omega, by omega, h3⟩
    · rintro ⟨j, h1, h2, h3⟩
      rcases Nat.eq_or_lt_of_le h1 with rfl | h4
      · exact .inl h3
      · exact .inr ⟨j, by omega, by omega, h3⟩
theorem lackF_le (p : Nat → Bool) : ∀ d i, lackF p d i ≤ d
  | 0, _ => Nat.le_refl _
  | d + 1, i => by have := lackF_le p d (i + 1); rw [lackF]; split <;> omega
/-- Has one of those in m the number x? -/
def hasX (m : Nat) (ranks : List Nat) (x : Nat) (b : Nat) : Bool := m.testBit b && ranks.getD b 0 == x
def thereX (m : Nat) (ranks : List Nat) (x : Nat) : Bool := anyF (hasX m ranks x) ranks.length 0

section
variable (o : List Nat) (n a : Nat) (ranks : List Nat) (ha : a < ranks.length) (hrn : ranks.length ≤ n) (hn : n ≤ 12) (hol : (o.take n).length = n) (hr : ∀ x ∈ ranks, x ≤ 12) (hm : o.getD a 0 < 4096)
include ha hrn hn hol hr hm
theorem may_l1 (x7 : Int) (x8 : Nat) (R : Bool) : ∀ (d b : Nat) (f : Bool), b + d = ranks.length →
    (Gives (fun k => pomaderef02_may.l0 k (ints (o.take n)) (ints ranks) a (if (f || anyF (hasX (o.getD a 0) ranks x8) d b) then x7 else wrap64 (x7 + 1)) (wrap64 (x8 + 1))) R) →
    Gives (fun k => pomaderef02_may.l1 k (ints (o.take n)) (ints ranks) a x7 x8 f b) R
  | 0, b, f, h, hg => by
    have hl := ints_length ranks
    refine hg.step fun k hk => ?_
    simp only [pomaderef02_may.l1]
    rw [if_neg (by omega)]
    rw [anyF, Bool.or_false] at hk
    cases f
    · rw [if_neg (by simp)] at hk ⊢; exact hk
    · rw [if_pos rfl] at hk ⊢; exact hk
  | d + 1, b, f, h, hg => by
    have hl := ints_length ranks
    have hl2 := ints_length (o.take n)
    rw [anyF, hasX] at hg
    cases f
    · rw [Bool.false_or] at hg
      have ih := may_l1 x7 x8 R d (b + 1) _ (by omega) hg
      refine ih.step fun k hk => ?_
      simp only [pomaderef02_may.l1]
      rw [if_pos (by omega), if_neg (by simp), if_pos (by omega), if_pos (by omega), if_pos (by omega), rd_takes o n a (by omega), wr_succ b (by omega), rd_ints]
      cases hb : (o.getD a 0).testBit b
      · rw [if_neg (by rw [tbit1 _ _ (by omega), hb]; simp)]
        rw [hb, Bool.false_and] at hk
        exact hk
      · rw [if_pos (by rw [tbit1 _ _ (by omega), hb])]
        rw [hb, Bool.true_and] at hk
        have e : (((ranks.getD b 0 : Nat) : Int) == (x8 : Int)) = (ranks.getD b 0 == x8) := by
          rw [Bool.eq_iff_iff, beq_iff_eq, beq_iff_eq]; omega
        rw [e]
        exact hk
    · have ih := may_l1 x7 x8 R d (b + 1) true (by omega) (by simpa using hg)
      refine ih.step fun k hk => ?_
      simp only [pomaderef02_may.l1]
      rw [if_pos (by omega), if_pos trivial, wr_succ b (by omega)]
      exact hk
theorem may_l2 (x7 : Nat) : ∀ (d b : Nat), b + d = ranks.length →
    Gives (fun k => pomaderef02_may.l2 k (ints (o.take n)) (ints ranks) a x7 b) (!anyF (hasX (o.getD a 0) ranks (ranks.getD a 0)) d b && decide (x7 ≤ (memL (o.getD a 0 >>> ranks.length)).length))
  | 0, b, h => by
    have hl := ints_length ranks
    have hl2 := ints_length (o.take n)
    have hs : o.getD a 0 >>> ranks.length < 4096 := by rw [Nat.shiftRight_eq_div_pow]; exact Nat.lt_of_le_of_lt (Nat.div_le_self _ _) hm
    refine (size_g _ hs).step fun k hk => ?_
    simp only [pomaderef02_may.l2]
    rw [if_neg (by omega), if_pos (by omega), if_pos (by omega), rd_takes o n a (by omega), hl, shr_i64 _ _ (by omega), hk, Option.bind_some, anyF]
    simp
  | d + 1, b, h => by
    have hl := ints_length ranks
    have hl2 := ints_length (o.take n)
    have ih := may_l2 x7 d (b + 1) (by omega)
    refine ih.step fun k hk => ?_
    simp only [pomaderef02_may.l2]
    rw [if_pos (by omega), if_pos (by omega), if_pos (by omega), if_pos (by omega), rd_takes o n a (by omega), wr_succ b (by omega), rd_ints, rd_ints, anyF, hasX]
    cases hb : (o.getD a 0).testBit b
    · rw [if_neg (by rw [tbit1 _ _ (by omega), hb]; simp), Bool.false_and, Bool.false_or]
      exact hk
    · rw [if_pos (by rw [tbit1 _ _ (by omega), hb]), if_pos (by omega), Bool.true_and]
      by_cases he : ranks.getD b 0 = ranks.getD a 0
      · rw [if_pos (by omega), he]; simp
      · rw [if_neg (by omega), beq_eq_false_iff_ne.2 he, Bool.false_or]
        exact hk
theorem may_l0 : ∀ (d x x7 : Nat), x + d = ranks.getD a 0 → x7 ≤ x →
    Gives (fun k => pomaderef02_may.l0 k (ints (o.take n)) (ints ranks) a x7 x) (!anyF (hasX (o.getD a 0) ranks (ranks.getD a 0)) ranks.length 0 && decide (x7 + lackF (thereX (o.getD a 0) ranks) d x ≤ (memL (o.getD a 0 >>> ranks.length)).length))
  | 0, x, x7, h, h7 => by
    have hl := ints_length ranks
    refine (may_l2 o n a ranks ha hrn hn hol hr hm x7 ranks.length 0 (by omega)).step fun k hk => ?_
    simp only [pomaderef02_may.l0]
    rw [if_pos (by omega), if_pos (by omega), rd_ints, if_neg (by omega)]
    exact hk
  | d + 1, x, x7, h, h7 => by
    have hl := ints_length ranks
    have hra : ranks.getD a 0 ≤ 12 := by
      rw [List.getD_eq_getElem?_getD, List.getElem?_eq_getElem ha]
      exact hr _ (List.getElem_mem ha)
    have ih := may_l0 d (x + 1) (if thereX (o.getD a 0) ranks x then x7 else x7 + 1) (by omega) (by split <;> omega)
    have h1 := may_l1 o n a ranks ha hrn hn hol hr hm x7 x _ ranks.length 0 false (by omega) (by
      rw [Bool.false_or]
      have e : (if anyF (hasX (o.getD a 0) ranks x) ranks.length 0 = true then (x7 : Int) else wrap64 (x7 + 1)) = ((if thereX (o.getD a 0) ranks x then x7 else x7 + 1 : Nat) : Int) := by
        unfold thereX; split
        · rfl
        · exact wr_succ x7 (by omega)
      rw [e, wr_succ x (by omega)]
      exact ih)
    refine h1.step fun k hk => ?_
    simp only [pomaderef02_may.l0]
    rw [if_pos (by omega), if_pos (by omega), rd_ints, if_pos (by omega)]
    refine hk.trans ?_
    rw [lackF]
    cases thereX (o.getD a 0) ranks x
    · rw [if_neg (by simp), if_neg (by simp), show x7 + 1 + lackF (thereX (o.getD a 0) ranks) d (x + 1) = x7 + (1 + lackF (thereX (o.getD a 0) ranks) d (x + 1)) by omega]
    · rw [if_pos rfl, if_pos rfl, Nat.zero_add]
theorem may_g : Gives (fun k => pomaderef02_may.f k (ints (o.take n)) (ints ranks) a) (!thereX (o.getD a 0) ranks (ranks.getD a 0) && decide (lackF (thereX (o.getD a 0) ranks) (ranks.getD a 0) 0 ≤ (memL (o.getD a 0 >>> ranks.length)).length)) := by
  have := may_l0 o n a ranks ha hrn hn hol hr hm (ranks.getD a 0) 0 0 (by omega) (Nat.le_refl _)
  rw [Nat.zero_add] at this
  exact this
end
end Go.Proofs.Ytmobefgnkiboaaa.Im

namespace Go.Proofs.Ytmobefgnkiboaaa.Im
open Go.RowKit Go.Proofs.YtmobefgnkiboaaaW.PrintWords Go.Proofs.YtmobefgnkiboaaaW.PrintLast Go.Proofs.YtmobefgnkiboaaaW.PrintMore
set_option linter.unusedVariables false

theorem memF_lack (p : Nat) : ∀ d i, (memF p d i).length = lackF (fun x => !p.testBit x) d i
  | 0, _ => rfl
  | d + 1, i => by
    rw [memF, lackF]
    have := memF_lack p d (i + 1)
    cases p.testBit i
    · simpa using this
    · simp [this]; omega
theorem lackF_congr {p q : Nat → Bool} : ∀ d i, (∀ x, i ≤ x → x < i + d → p x = q x) → lackF p d i = lackF q d i
  | 0, _, _ => rfl
  | d + 1, i, h => by
    rw [lackF, lackF, h i (Nat.le_refl _) (by omega), lackF_congr d (i + 1) (fun x h1 h2 => h x (by omega) (by omega))]
theorem lackF_more (p : Nat → Bool) : ∀ (a b i : Nat), lackF p (a + b) i = lackF p a i + lackF p b (i + a)
  | 0, b, i => by simp [lackF]
  | a + 1, b, i => by
    rw [show a + 1 + b = (a + b) + 1 by omega, lackF, lackF, lackF_more p a b (i + 1), show i + 1 + a = i + (a + 1) by omega]
    omega
theorem lackF_zero {p : Nat → Bool} : ∀ d i, (∀ x, i ≤ x → x < i + d → p x = true) → lackF p d i = 0
  | 0, _, _ => rfl
  | d + 1, i, h => by
    rw [lackF, h i (Nat.le_refl _) (by omega), lackF_zero d (i + 1) (fun x h1 h2 => h x (by omega) (by omega))]
    rfl
theorem lackF_shift (p : Nat → Bool) (s : Nat) : ∀ d i, lackF (fun x => p (x + s)) d i = lackF p d (i + s)
  | 0, _ => rfl
  | d + 1, i => by
    rw [lackF, lackF, lackF_shift p s d (i + 1), show i + 1 + s = i + s + 1 by omega]
theorem memL_lack (s : Nat) : (memL s).length = lackF (fun x => !s.testBit x) 12 0 := memF_lack s 12 0
theorem low_lack (r S : Nat) (hr : r ≤ 12) : (memL (andN (2 ^ r - 1) S)).length = lackF (fun x => S.testBit x) r 0 := by
  rw [memL_lack, show 12 = r + (12 - r) by omega, lackF_more]
  have e2 : lackF (fun x => !(andN (2 ^ r - 1) S).testBit x) (12 - r) (0 + r) = 0 := lackF_zero _ _ (fun x h1 h2 => by
    rw [andN_bit, Nat.testBit_two_pow_sub_one]
    have : decide (x < r) = false := decide_eq_false (by omega)
    rw [this]; rfl)
  rw [e2, Nat.add_zero]
  exact lackF_congr _ _ (fun x h1 h2 => by
    rw [andN_bit, Nat.testBit_two_pow_sub_one]
    have : decide (x < r) = true := decide_eq_true (by omega)
    rw [this]; simp)
theorem open_lack (ranks : List Nat) : ∀ (M : List Nat) (a : Nat × Nat), (M.foldl (numStep ranks) a).2 = a.2 + (M.filter fun j => !decide (j < ranks.length)).length
  | [], a => rfl
  | j :: M, a => by
    rw [List.foldl_cons, open_lack ranks M]
    unfold numStep
    by_cases h : j < ranks.length
    · simp [h]
    · simp [h]; omega
theorem memF_filter (p c : Nat) : ∀ d i, ((memF p d i).filter fun j => !decide (j < c)).length = lackF (fun x => !(p.testBit x) || decide (x < c)) d i
  | 0, _ => rfl
  | d + 1, i => by
    have := memF_filter p c d (i + 1)
    rw [memF, lackF]
    cases p.testBit i
    · simpa using this
    · by_cases h : i < c
      · simp [h, this]
      · simp [h, this]; omega
theorem open_eq (m : Nat) (hm : m < 4096) (ranks : List Nat) (hl : ranks.length ≤ 12) : (numN ranks (memL m)).2 = (memL (m >>> ranks.length)).length := by
  unfold numN
  rw [open_lack, Nat.zero_add, memL_lack]
  generalize ranks.length = c at *
  have e1 : ((memL m).filter fun j => !decide (j < c)).length = lackF (fun x => !(m.testBit x) || decide (x < c)) 12 0 := memF_filter m c 12 0
  have e2 : lackF (fun x => !(m.testBit x) || decide (x < c)) 12 0 = lackF (fun x => !(m.testBit x) || decide (x < c)) (c + (12 - c)) 0 := by rw [show c + (12 - c) = 12 by omega]
  have e3 : lackF (fun x => !(m.testBit x) || decide (x < c)) c 0 = 0 := lackF_zero _ _ (fun x h1 h2 => by simp; omega)
  have e4 : lackF (fun x => !(m.testBit x) || decide (x < c)) (12 - c) (0 + c) = lackF (fun x => !(m.testBit x)) (12 - c) (0 + c) := lackF_congr _ _ (fun x h1 h2 => by
    have : decide (x < c) = false := decide_eq_false (by omega)
    rw [this, Bool.or_false])
  rw [e1, e2, lackF_more, e3, e4, Nat.zero_add]
  have f1 : lackF (fun x => !(m >>> c).testBit x) 12 0 = lackF (fun x => !m.testBit (x + c)) 12 0 := lackF_congr _ _ (fun x h1 h2 => by rw [Nat.testBit_shiftRight, Nat.add_comm])
  have f2 := lackF_shift (fun x => !m.testBit x) c 12 0
  rw [f1, f2]
  have f3 := lackF_more (fun x => !m.testBit x) (12 - c) c (0 + c)
  rw [show 12 - c + c = 12 by omega] at f3
  have f4 : lackF (fun x => !m.testBit x) c (0 + c + (12 - c)) = 0 := lackF_zero _ _ (fun x h1 h2 => by
    have : m.testBit x = false := Nat.testBit_lt_two_pow (Nat.lt_of_lt_of_le hm (Nat.pow_le_pow_right (by decide) (by omega) : 2 ^ 12 ≤ 2 ^ x))
    rw [this]; rfl)
  rw [f3, f4]
  rfl
theorem set_bit (ranks : List Nat) (x : Nat) : ∀ (M : List Nat) (a : Nat × Nat), (M.foldl (numStep ranks) a).1.testBit x = (a.1.testBit x || M.any fun j => decide (j < ranks.length) && ranks.getD j 0 == x)
  | [], a => by simp
  | j :: M, a => by
    rw [List.foldl_cons, set_bit ranks x M, List.any_cons]
    unfold numStep
    by_cases h : j < ranks.length
    · rw [if_pos h, decide_eq_true h]
      simp only [Nat.testBit_or, Nat.testBit_two_pow, Bool.true_and, Bool.or_assoc]
      rfl
    · rw [if_neg h, decide_eq_false h]
      simp
theorem memL_mem (m j : Nat) : j ∈ memL m ↔ j < 12 ∧ m.testBit j = true := by
  suffices h : ∀ d i, j ∈ memF m d i ↔ i ≤ j ∧ j < i + d ∧ m.testBit j = true by
    have := h 12 0
    unfold memL mem12
    rw [this]; simp
  intro d
  induction d with
  | zero => intro i; simp [memF]; omega
  | succ d ih =>
    intro i
    rw [memF]
    by_cases hb : m.testBit i = true
    · rw [if_pos hb, List.mem_cons, ih]
      constructor
      · rintro (rfl | ⟨h1, h2, h3⟩)
        · exact ⟨Nat.le_refl _, by omega, hb⟩
        · exact ⟨by omega, by omega, h3⟩
      · rintro ⟨h1, h2, h3⟩
        rcases Nat.eq_or_lt_of_le h1 with rfl | h4
        · exact .inl rfl
        · exact .inr ⟨by omega, by omega, h3⟩
    · rw [if_neg hb, ih]
      constructor
      · rintro ⟨h1, h2, h3⟩; exact ⟨by omega, by omega, h3⟩
      · rintro ⟨h1, h2, h3⟩
        rcases Nat.eq_or_lt_of_le h1 with rfl | h4
        · exact absurd h3 hb
        · exact ⟨by omega, by omega, h3⟩
theorem set_eq (m : Nat) (ranks : List Nat) (hl : ranks.length ≤ 12) (x : Nat) : (numN ranks (memL m)).1.testBit x = thereX m ranks x := by
  unfold numN thereX
  rw [set_bit, Nat.zero_testBit, Bool.false_or, Bool.eq_iff_iff, anyF_iff, List.any_eq_true]
  constructor
  · rintro ⟨j, hj, h⟩
    rw [memL_mem] at hj
    rw [Bool.and_eq_true, decide_eq_true_eq] at h
    exact ⟨j, Nat.zero_le _, by omega, by unfold hasX; rw [hj.2, h.2]; rfl⟩
  · rintro ⟨j, _, h1, h⟩
    unfold hasX at h
    rw [Bool.and_eq_true] at h
    exact ⟨j, (memL_mem m j).2 ⟨by omega, h.1⟩, by rw [decide_eq_true (show j < ranks.length by omega), h.2]; rfl⟩
theorem posB_eq (o ranks : List Nat) (a : Nat) (hl : ranks.length ≤ 12) (hr : ranks.getD a 0 ≤ 12) (hm : o.getD a 0 < 4096) :
    posB o ranks a = (!thereX (o.getD a 0) ranks (ranks.getD a 0) && decide (lackF (thereX (o.getD a 0) ranks) (ranks.getD a 0) 0 ≤ (memL (o.getD a 0 >>> ranks.length)).length)) := by
  unfold posB
  rw [set_eq _ _ hl, open_eq _ hm _ hl, low_lack _ _ hr, lackF_congr _ _ (fun x _ _ => set_eq _ _ hl x)]
theorem may_pos (n : Nat) (o ranks : List Nat) (a : Nat) (ok : Okt n o) (ha : a < ranks.length) (hrn : ranks.length ≤ n) (hr : ∀ x ∈ ranks, x ≤ 12) :
    Gives (fun k => pomaderef02_may.f k (ints (o.take n)) (ints ranks) a) (posB o ranks a) := by
  have hra : ranks.getD a 0 ≤ 12 := by
    rw [List.getD_eq_getElem?_getD, List.getElem?_eq_getElem ha]
    exact hr _ (List.getElem_mem ha)
  have hm : o.getD a 0 < 4096 := Nat.lt_of_lt_of_le (ok.lt _) (Nat.pow_le_pow_right (by decide) ok.n12 : 2 ^ n ≤ 2 ^ 12)
  have n12 := ok.n12
  rw [posB_eq o ranks a (by omega) hra hm]
  exact may_g o n a ranks ha hrn n12 (by rw [List.length_take, ok.len]; omega) hr hm
end Go.Proofs.Ytmobefgnkiboaaa.Im

namespace Go.Proofs.Ytmobefgnkiboaaa.Im
open Go.RowKit Go.Proofs.YtmobefgnkiboaaaW.PrintWords Go.Proofs.YtmobefgnkiboaaaW.PrintLast Go.Proofs.YtmobefgnkiboaaaW.PrintMore
set_option linter.unusedVariables false

def rankR (o : List Nat) (d : Nat) (ranks : List Nat) : Option (List Nat) := if possB o ranks then rankF o d ranks else none
theorem takes_len {n : Nat} {o : List Nat} (ok : Okt n o) : (ints (o.take n)).length = n := by
  rw [ints_length, List.length_take, ok.len]; have := ok.n12; omega
theorem may_any (n : Nat) (o ranks : List Nat) (a : Nat) (T A : Option Addr) (cT c : Nat) (w : World) (ok : Okt n o) (ha : a < ranks.length) (hrn : ranks.length ≤ n) (hr : ∀ x ∈ ranks, x ≤ 12)
    (hT : Kd.C (Kd.int .i64) w T n (ints (o.take n))) (hcT : n ≤ cT) (hA : Kd.C (Kd.int .i64) w A ranks.length (ints ranks)) (hc : ranks.length ≤ c) :
    Calls Try.prog 81 #[.slice T n cT, .slice A ranks.length c, .int .i64 (a : Nat)] w fun e w' => e = .returned (.bool (posB o ranks a)) ∧ Below w.heap.size w w' := by
  obtain ⟨k0, hk0⟩ := may_pos n o ranks a ok ha hrn hr
  have h := pomaderef02_may.calls k0 T cT (ints (o.take n)) A c (ints ranks) a _ w (by rw [takes_len ok]; exact hT) (by rw [takes_len ok]; exact hcT) (by rw [ints_length]; exact hA) (by rw [ints_length]; exact hc) (hk0 k0 (Nat.le_refl _))
  rw [takes_len ok, ints_length] at h
  exact h
theorem size_any (s : Nat) (w : World) (hs : s < 4096) : Calls Try.prog 77 #[.int .i64 (s : Nat)] w fun e w' => e = .returned (.int .i64 ((memL s).length : Nat)) ∧ Below w.heap.size w w' := by
  obtain ⟨k0, hk0⟩ := size_g s hs
  exact pomaderef02_size.calls k0 s _ w (hk0 k0 (Nat.le_refl _))

set_option maxHeartbeats 3200000 in
set_option maxRecDepth 100000 in
theorem rank_step (n : Nat) (o : List Nat) (T : Option Addr) (cT : Nat) (ok : Okt n o) (hcT : n ≤ cT) (d : Nat)
    (IH : ∀ d', d = d' + 1 → ∀ (ranks : List Nat) (A : Option Addr) (c : Nat) (w : World), ranks.length + d' = n → (∀ x ∈ ranks, x ≤ 12) → Kd.C (Kd.int .i64) w T n (ints (o.take n)) →
      Kd.C (Kd.int .i64) w A ranks.length (ints ranks) → (A = none → ranks.length = 0) → ranks.length ≤ c →
      Calls Try.prog 51 #[.slice T n cT, .slice A ranks.length c] w (FoundP w (rankR o d' ranks)))
    (ranks : List Nat) (A : Option Addr) (c : Nat) (w : World) (hl : ranks.length + d = n) (hx : ∀ x ∈ ranks, x ≤ 12) (hT : Kd.C (Kd.int .i64) w T n (ints (o.take n)))
    (hr : Kd.C (Kd.int .i64) w A ranks.length (ints ranks)) (hA : A = none → ranks.length = 0) (hc : ranks.length ≤ c) :
    Calls Try.prog 51 #[.slice T n cT, .slice A ranks.length c] w (FoundP w (rankR o d ranks)) := by
  have qn : ∀ (w : World) (a : Option Addr) (n c n' c' : Nat), (binOp .neq 25 (.slice a n c) (.slice none n' c')).run Try.prog w = .ok (.bool (!a.isNone)) w := fun w a n c n' c' => run_neq_slice_nil_any w _ _ a n c n' c' Try.underlying25
  have hlen : (ints ranks).length = ranks.length := ints_length ranks
  have n12 := ok.n12
  have HNo : Aside0 (possB o ranks = false → rankR o d ranks = none) := ⟨fun h => by rw [rankR, h]; rfl⟩
  have HYes : Aside0 (possB o ranks = true → rankR o d ranks = rankF o d ranks) := ⟨fun h => by rw [rankR, h]; rfl⟩
  generalize rankR o d ranks = R at *
  have HK := Aside0.mk ok
  have HIH := Aside0.mk IH
  have HX := Aside0.mk hx
  have HT := Aside0.mk hT
  have HR := Aside0.mk hr
  have HA := Aside0.mk hA
  have HM := Aside0.mk (fun k (h : k < ranks.length) (wr : World) (hb : Below w.heap.size w wr) => may_any n o ranks k T A cT c wr ok h (by omega) hx (Kd.C_below hT hb) hcT (Kd.C_below hr hb) hc)
  clear ok IH hx hT hr hA
  go_enter Try.func51, Try.ntmps51
  go_wp2_with fail
  go_loopw [5] (fun v wr => ∃ k : Nat, k ≤ ranks.length ∧ v = .int .i64 (k : Int) ∧ Aside0 (PosTo o ranks k) ∧ Aside0 (Below w.heap.size w wr)) (fun v _ => ranks.length - (intOf v).toNat)
  case atStart => exact ⟨0, Nat.zero_le _, rfl, ⟨fun j hj => absurd hj (by omega)⟩, ⟨Below.refl _ _⟩⟩
  case round =>
    obtain ⟨k, hk, rfl, HP, HB⟩ := hrel
    by_cases hkl : k < ranks.length
    · have hm := HM.out k hkl wr HB.out
      cases hp : posB o ranks k
      · have HF := Aside0.mk (HNo.out (possB_false hkl hp))
        rw [hp] at hm
        have Hm := Aside0.mk hm
        clear hm hp
        go_wp2_with fail
        refine Hm.out.mono ?_
        rintro e w2 ⟨rfl, hb2⟩
        have HB2 := Aside0.mk (below_then HB.out HB.out.size hb2)
        clear hb2
        go_wp2_with fail
        go_ret
        rw [HF.out]
        exact ⟨rfl, HB2.out⟩
      · have HF := Aside0.mk (HP.out.succ hp)
        rw [hp] at hm
        have Hm := Aside0.mk hm
        clear hm hp
        go_wp2_with fail
        refine Hm.out.mono ?_
        rintro e w2 ⟨rfl, hb2⟩
        have HB2 := Aside0.mk (below_then HB.out HB.out.size hb2)
        clear hb2
        go_wp2_with fail
        go_roundw
        case rel => exact ⟨k + 1, by omega, by go_num, HF, HB2⟩
        case measure => simp [intOf]; omega
    · obtain rfl : k = ranks.length := by omega
      have HY := Aside0.mk (HYes.out (possB_true HP.out))
      clear HYes HNo
      cases d with
      | zero =>
        have neq : ((ranks.length : Int) == (n : Int)) = true := beq_iff_eq.2 (by omega)
        have hn1 := HK.out.n1
        obtain ⟨ad, rfl⟩ := C_some (by rw [hlen]; exact HR.out) (by omega)
        go_wp2_with fail
        go_ret
        have e : rankF o 0 ranks = some ranks := by rw [rankF, if_pos (possB_true HP.out)]
        rw [HY.out, e]
        exact ⟨ad, c, by rw [hlen]; rfl, by rw [hlen]; exact hc, by rw [hlen]; exact Kd.C_below HR.out HB.out, HB.out⟩
      | succ d =>
        have neq : ((ranks.length : Int) == (n : Int)) = false := beq_eq_false_iff_ne.2 (by omega)
        have hF : R = (List.range ((memL (o.getD ranks.length 0)).length + 1)).findSome? (rankR o d ∘ fun r => ranks ++ [r]) := HY.out
        obtain ⟨gg, hgg⟩ : ∃ gg : Nat → Option (List Nat), gg = rankR o d ∘ fun r => ranks ++ [r] := ⟨_, rfl⟩
        have HGG : Aside0 (∀ j, gg j = rankR o d (ranks ++ [j])) := ⟨fun j => congrFun hgg j⟩
        rw [← hgg] at hF
        obtain ⟨adT, rfl, cx⟩ := Kd.at_int HT.out (ranks.length : Int) (by omega) (by omega)
        rw [Int.toNat_natCast, rd_takes o n _ (by omega)] at cx
        have hnx : o.getD ranks.length 0 < 4096 := Nat.lt_of_lt_of_le (HK.out.lt _) (Nat.pow_le_pow_right (by decide) n12 : 2 ^ n ≤ 2 ^ 12)
        have HS := Aside0.mk (fun w => size_any (o.getD ranks.length 0) w hnx)
        have hml := memL_len (o.getD ranks.length 0)
        generalize (memL (o.getD ranks.length 0)).length = most at *
        generalize o.getD ranks.length 0 = nx at *
        have HRR := Aside0.mk hF
        have HCX := Aside0.mk cx
        have HI := Aside0.mk (HIH.out d rfl)
        have hi0 : (0 : Int) ≤ ranks.length := by omega
        have hi1 : (ranks.length : Int) < n := by omega
        clear hgg hF HY cx hnx HIH HM
        go_wp2_with fail
        have hBB := Aside0.mk HB.out
        generalize wr = wz at *
        go_loopw [6] (fun v wr => ∃ k : Nat, k ≤ most + 1 ∧ v = .int .i64 (k : Int) ∧ Aside0 (noneTo (List.range (most + 1)) gg k) ∧ Aside0 (Below w.heap.size w wr)) (fun v _ => most + 1 - (intOf v).toNat)
        case atStart => exact ⟨0, Nat.zero_le _, rfl, ⟨noneTo_zero _ _⟩, hBB⟩
        case round =>
          obtain ⟨k, hk, rfl, HN, HB⟩ := hrel
          have cx : wr.cell? (adT.add ranks.length) = some (.int .i64 (nx : Nat)) := (HB.out.cell (World.block_lt_of_cell? w _ HCX.out)).trans HCX.out
          by_cases hkl : k < most + 1
          · have HN1 := Aside0.mk (fun h => noneTo_succ HN.out (by rw [List.length_range]; exact hkl) h)
            have HN2 := Aside0.mk (fun r h => noneTo_some (r := r) HN.out (by rw [List.length_range]; exact hkl) h)
            simp only [List.getElem_range] at HN1 HN2
            go_wp2_with fail
            refine (HS.out _).mono ?_
            rintro e w2 ⟨rfl, hb2⟩
            have HB2 := Aside0.mk (below_then HB.out HB.out.size hb2)
            clear hb2
            have HRr := Aside0.mk (Kd.C_below HR.out HB2.out)
            have HTr := Aside0.mk (Kd.C_below HT.out HB2.out)
            have HGk : Aside0 (gg k = rankR o d (ranks ++ [k])) := ⟨HGG.out k⟩
            have hb3 : Below w2.heap.size w2 (w2.alloc (.cells #[.int .i64 (k : Nat)] 3)) := below_alloc (Below.refl _ _) _
            have HC3 := Aside0.mk (Kd.C_below HRr.out hb3)
            have HT3 := Aside0.mk (Kd.C_below HTr.out hb3)
            have HB3 := Aside0.mk (below_then HB2.out HB2.out.size hb3)
            have hg3 := Aside0.mk ((Blk.new w2 3 #[.int .i64 (k : Nat)]).cell 0)
            have ex : ints (ranks ++ [k]) = ints ranks ++ [(k : Int)] := ints_snoc ranks k
            have HE := Aside0.mk ex
            have hl3 : (ranks ++ [k]).length = ranks.length + 1 := by rw [List.length_append]; rfl
            have HX2 : Aside0 (∀ x ∈ ranks ++ [k], x ≤ 12) := ⟨fun x hx => by rcases List.mem_append.1 hx with h | h; exact HX.out x h; rw [List.mem_singleton.1 h]; omega⟩
            clear hb3
            generalize ranks ++ [k] = rk at *
            clear ex
            go_wp2_with (first | (refine l_slice3 rfl rfl A ranks.length c rfl rfl rfl hc ?_) | (at_builtin; refine l_app1 rfl (s := .tmp 41) (x := .tmp 43) rfl rfl A (ints ranks) w2.heap.size (k : Nat) (by rw [hlen]; rfl) rfl (by rw [hlen]; exact HC3.out) hg3.out (by rw [hlen]; omega) (by rw [hlen]; exact HA.out) ?_; intro v4 w4 hr4 hb4; have HR4 := Aside0.mk hr4; have HB4 := Aside0.mk hb4; have HT4 := Aside0.mk (Kd.C_below HT3.out hb4); clear hr4 hb4; obtain ⟨A4, c4, e4⟩ := Kd.R_slice HR4.out; subst e4))
            obtain ⟨_, _, e5, hl4, hC4⟩ := Kd.R_reads HR4.out
            cases e5
            rw [← HE.out, ints_length] at hl4 hC4
            have hn4 : A4 = none → rk.length = 0 := fun h => by subst h; have := C_none (l := ints rk) (by rw [ints_length]; exact hC4); rw [← ints_length, this]; rfl
            have HBw4 := Aside0.mk (below_then HB3.out HB3.out.size HB4.out)
            have hI := HI.out rk A4 c4 w4 (by omega) HX2.out HT4.out hC4 hn4 hl4
            rw [← HGk.out, hl3] at hI
            have Hc := Aside0.mk hI
            clear hI hC4 hn4 hl4 HR4 hl3 HE
            cases hg : gg k with
            | none =>
              rw [hg] at Hc
              have HNx := Aside0.mk (HN1.out hg)
              clear HN1 HN2 HGk hg
              refine Hc.out.mono ?_
              rintro e w6 ⟨rfl, hb6⟩
              have HB6 := Aside0.mk (below_then HBw4.out HBw4.out.size hb6)
              clear hb6
              go_wp2_with fail
              go_roundw
              case rel => exact ⟨k + 1, by omega, by go_num, HNx, HB6⟩
              case measure => simp [intOf]; omega
            | some res =>
              rw [hg] at Hc
              have HF := Aside0.mk (HRR.out.trans (HN2.out res hg))
              clear HN1 HN2 HGk hg
              refine Hc.out.mono ?_
              rintro e w6 ⟨A6, c6, rfl, hl6, hC6, hb6⟩
              have HB6 := Aside0.mk (below_then HBw4.out HBw4.out.size hb6)
              have HC6 := Aside0.mk hC6
              have HL6 := Aside0.mk hl6
              clear hb6 hC6 hl6
              go_wp2_with fail
              go_ret
              rw [HF.out]
              exact ⟨A6, c6, rfl, HL6.out, HC6.out, HB6.out⟩
          · obtain rfl : k = most + 1 := by omega
            have HF := Aside0.mk (HRR.out.trans (noneTo_all (l := List.range (most + 1)) (g := gg) (by rw [List.length_range]; exact HN.out)))
            go_wp2_with fail
            refine (HS.out _).mono ?_
            rintro e w2 ⟨rfl, hb2⟩
            have HB2 := Aside0.mk (below_then HB.out HB.out.size hb2)
            clear hb2
            go_wp2_with fail
            go_ret
            rw [HF.out]
            exact ⟨rfl, HB2.out⟩
theorem rank_any (n : Nat) (o : List Nat) (T : Option Addr) (cT : Nat) (ok : Okt n o) (hcT : n ≤ cT) (d : Nat) : ∀ (ranks : List Nat) (A : Option Addr) (c : Nat) (w : World), ranks.length + d = n → (∀ x ∈ ranks, x ≤ 12) → Kd.C (Kd.int .i64) w T n (ints (o.take n)) →
      Kd.C (Kd.int .i64) w A ranks.length (ints ranks) → (A = none → ranks.length = 0) → ranks.length ≤ c →
      Calls Try.prog 51 #[.slice T n cT, .slice A ranks.length c] w (FoundP w (rankR o d ranks)) := by
  induction d with
  | zero => exact rank_step n o T cT ok hcT 0 (fun _ h => by omega)
  | succ d ih =>
    refine rank_step n o T cT ok hcT (d + 1) (fun d' h => ?_)
    obtain rfl : d = d' := by omega
    exact ih

/-! ### Ranks -/
def TownPost (n : Int) (l : List S43) (w : World) (e : Ending) (w' : World) : Prop :=
  if ofE n l = 0 then ∃ A c, e = .returned (.tuple #[.slice A n.toNat c, .int .i64 0]) ∧ n.toNat ≤ c ∧ Kd.C (Kd.int .i64) w' A n.toNat (townL n l) ∧ Below w.heap.size w w'
  else ∃ A c, e = .returned (.tuple #[.slice A 0 c, .int .i64 (ofE n l)]) ∧ Below w.heap.size w w'
theorem Town_any (n : Int) (A : Option Addr) (c : Nat) (l : List S43) (w : World) (hr : Kd.C k43 w A l.length l) (hc : l.length ≤ c) :
    Calls Try.prog 50 #[.int .i64 n, .slice A l.length c] w (TownPost n l w) := by
  obtain ⟨k0, hk0⟩ := Town_g n l
  have hk := hk0 k0 (Nat.le_refl _)
  unfold TownPost
  by_cases he : ofE n l = 0
  · rw [if_pos he] at hk
    simp only [if_pos he]
    refine (pomaderef02_Town.calls k0 n A c l _ _ w hr hc hk).mono ?_
    rintro e w' ⟨v, rfl, h2, h3⟩
    obtain ⟨A', c', rfl, h4, h5⟩ := Kd.R_reads h2
    have hl : (townL n l).length = n.toNat := takes_len (okt_of he)
    rw [hl] at h4 h5 ⊢
    exact ⟨A', c', rfl, h4, h5, h3⟩
  · rw [if_neg he] at hk
    simp only [if_neg he]
    refine (pomaderef02_Town.calls k0 n A c l _ _ w hr hc hk).mono ?_
    rintro e w' ⟨v, rfl, h2, h3⟩
    obtain ⟨A', c', rfl, h4, h5⟩ := Kd.R_reads h2
    exact ⟨A', c', rfl, h3⟩
theorem rank_nil (n : Nat) (o : List Nat) (A : Option Addr) (c : Nat) (w : World) (ok : Okt n o) (hc : n ≤ c) (hT : Kd.C (Kd.int .i64) w A n (ints (o.take n))) :
    Calls Try.prog 51 #[.slice A n c, .slice none 0 0] w (FoundP w (rankF o n [])) := by
  have h := rank_any n o A c ok hc n [] none 0 w (by simp) (by simp) hT (C_nil w) (fun _ => rfl) (by simp)
  exact h
set_option maxHeartbeats 3200000 in
set_option maxRecDepth 100000 in
theorem refRanks_any (n : Int) (A : Option Addr) (c : Nat) (l : List S43) (w : World) (hr : Kd.C k43 w A l.length l) (hc : l.length ≤ c) :
    Calls Try.prog 17 #[.int .i64 n, .slice A l.length c] w (RanksPost n l w) := by
  have qe : ∀ (w : World) (a : Option Addr) (n c n' c' : Nat), (binOp .eql 25 (.slice a n c) (.slice none n' c')).run Try.prog w = .ok (.bool a.isNone) w := fun w a n c n' c' => Lib.run_eql_slice_nil w _ _ a n c n' c' Try.underlying25
  have HT := Aside0.mk (Town_any n A c l w hr hc)
  unfold TownPost at HT
  unfold RanksPost
  by_cases he : ofE n l = 0
  · simp only [if_pos he] at HT ⊢
    have HK := Aside0.mk (okt_of he)
    unfold townL at HT
    generalize townO l = o at *
    generalize n.toNat = m at *
    clear he hr
    obtain ⟨R, hR⟩ : ∃ R, rankF o m [] = R := ⟨_, rfl⟩
    rw [hR]
    have HR := Aside0.mk hR
    clear hR
    go_enter Try.func17, Try.ntmps17
    go_wp2_with fail
    refine HT.out.mono ?_
    rintro e w1 ⟨A1, c1, rfl, hc1, hC1, hb1⟩
    have HB1 := Aside0.mk hb1
    have hI := rank_nil m o A1 c1 w1 HK.out hc1 hC1
    rw [HR.out] at hI
    have HI := Aside0.mk hI
    clear hI hC1 hb1
    go_wp2_with fail
    refine HI.out.mono ?_
    cases R with
    | none =>
      rintro e w2 ⟨rfl, hb2⟩
      have HB2 := Aside0.mk (below_then HB1.out HB1.out.size hb2)
      clear hb2
      go_wp2_with fail
      go_ret2
      exact ⟨rfl, HB2.out⟩
    | some res =>
      rintro e w2 ⟨A2, c2, rfl, hl2, hC2, hb2⟩
      have HB2 := Aside0.mk (below_then HB1.out HB1.out.size hb2)
      have HC2 := Aside0.mk hC2
      have HL2 := Aside0.mk hl2
      clear hb2 hC2 hl2
      go_wp2_with fail
      go_ret2
      exact ⟨A2, c2, rfl, HL2.out, HC2.out, HB2.out⟩
  · simp only [if_neg he] at HT ⊢
    have hb : (ofE n l != 0) = true := bne_iff_ne.2 he
    clear he
    generalize ofE n l = er at *
    go_enter Try.func17, Try.ntmps17
    go_wp2_with fail
    refine HT.out.mono ?_
    rintro e w1 ⟨A1, c1, rfl, hb1⟩
    have HB1 := Aside0.mk hb1
    clear hb1
    go_wp2_with fail
    go_ret2
    exact ⟨rfl, HB1.out⟩
end Go.Proofs.Ytmobefgnkiboaaa.Im
