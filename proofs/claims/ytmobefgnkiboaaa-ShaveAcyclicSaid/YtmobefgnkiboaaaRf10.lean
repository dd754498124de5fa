/- The first set by its list of members: the program's search and the specification's choice agree. -/
import Derived.Test.YtmobefgnkiboaaaRf9
namespace Go.Proofs.Ytmobefgnkiboaaa.Im
open Go.RowKit Go.Proofs.YtmobefgnkiboaaaW.PrintWords Go.Proofs.YtmobefgnkiboaaaW.PrintLast Go.Proofs.YtmobefgnkiboaaaW.PrintMore
set_option linter.unusedVariables false

/-! ### The order of lists -/
theorem lessB_trans : ∀ (a b c : List Int), lessB a b = true → lessB b c = true → lessB a c = true
  | [], [], c, h, h' => by simp [lessB] at h
  | [], _ :: _, [], h, h' => by simp [lessB] at h'
  | [], _ :: _, _ :: _, h, h' => rfl
  | _ :: _, [], c, h, h' => by simp [lessB] at h
  | _ :: _, _ :: _, [], h, h' => by simp [lessB] at h'
  | x :: a, y :: b, z :: c, h, h' => by
    rw [lessB] at h h' ⊢
    by_cases h1 : x = y
    · rw [if_pos h1] at h
      subst h1
      by_cases h2 : x = z
      · rw [if_pos h2] at h' ⊢
        exact lessB_trans a b c h h'
      · rw [if_neg h2] at h' ⊢
        exact h'
    · rw [if_neg h1, decide_eq_true_eq] at h
      by_cases h2 : y = z
      · subst h2
        rw [if_neg h1, decide_eq_true_eq]
        exact h
      · rw [if_neg h2, decide_eq_true_eq] at h'
        rw [if_neg (by omega), decide_eq_true_eq]
        omega
theorem lessB_anti : ∀ (a b : List Int), lessB a b = false → lessB b a = false → a = b
  | [], [], _, _ => rfl
  | [], _ :: _, h, _ => by simp [lessB] at h
  | _ :: _, [], _, h => by simp [lessB] at h
  | x :: a, y :: b, h, h' => by
    rw [lessB] at h h'
    by_cases h1 : x = y
    · subst h1
      rw [if_pos rfl] at h h'
      rw [lessB_anti a b h h']
    · rw [if_neg h1, decide_eq_false_iff_not] at h
      rw [if_neg (fun e => h1 e.symm), decide_eq_false_iff_not] at h'
      omega
theorem ints_inj {a b : List Nat} (h : ints a = ints b) : a = b := by
  have e : (ints a).map Int.toNat = (ints b).map Int.toNat := by rw [h]
  simpa [ints, List.map_map, Function.comp_def] using e
/-! ### Members -/
theorem memL_inj {s t : Nat} (hs : s < 4096) (ht : t < 4096) (h : memL s = memL t) : s = t := by
  apply Nat.eq_of_testBit_eq
  intro i
  rcases Nat.lt_or_ge i 12 with h1 | h1
  · have := memL_mem s i
    have h2 := memL_mem t i
    rw [h] at this
    rw [Bool.eq_iff_iff]
    constructor
    · intro h3; exact (h2.1 (this.2 ⟨h1, h3⟩)).2
    · intro h3; exact (this.1 (h2.2 ⟨h1, h3⟩)).2
  · rw [Nat.testBit_lt_two_pow (Nat.lt_of_lt_of_le hs (Nat.pow_le_pow_right (by decide) h1 : 2 ^ 12 ≤ 2 ^ i)), Nat.testBit_lt_two_pow (Nat.lt_of_lt_of_le ht (Nat.pow_le_pow_right (by decide) h1 : 2 ^ 12 ≤ 2 ^ i))]
theorem memF_sorted (m : Nat) : ∀ d i, (memF m d i).Pairwise (· < ·) ∧ ∀ x ∈ memF m d i, i ≤ x
  | 0, i => by simp [memF]
  | d + 1, i => by
    obtain ⟨h1, h2⟩ := memF_sorted m d (i + 1)
    rw [memF]
    split
    · refine ⟨List.pairwise_cons.2 ⟨fun x hx => by have := h2 x hx; omega, h1⟩, fun x hx => ?_⟩
      rcases List.mem_cons.1 hx with rfl | hx
      · exact Nat.le_refl _
      · have := h2 x hx; omega
    · exact ⟨h1, fun x hx => by have := h2 x hx; omega⟩
theorem memL_sorted (m : Nat) : (memL m).Pairwise (· < ·) := (memF_sorted m 12 0).1
/-- Ascending lists with the same members are the same. -/
theorem sorted_ext : ∀ {a b : List Nat}, a.Pairwise (· < ·) → b.Pairwise (· < ·) → (∀ x, x ∈ a ↔ x ∈ b) → a = b
  | [], [], _, _, _ => rfl
  | [], y :: b, _, _, h => by have := (h y).2 List.mem_cons_self; cases this
  | x :: a, [], _, _, h => by have := (h x).1 List.mem_cons_self; cases this
  | x :: a, y :: b, ha, hb, h => by
    rw [List.pairwise_cons] at ha hb
    have e : x = y := by
      have h1 := (h x).1 List.mem_cons_self
      have h2 := (h y).2 List.mem_cons_self
      rcases List.mem_cons.1 h1 with h3 | h3
      · exact h3
      · rcases List.mem_cons.1 h2 with h4 | h4
        · exact h4.symm
        · have := hb.1 x h3; have := ha.1 y h4; omega
    subst e
    rw [sorted_ext ha.2 hb.2 (fun z => ?_)]
    constructor
    · intro hz
      rcases List.mem_cons.1 ((h z).1 (List.mem_cons_of_mem _ hz)) with h1 | h1
      · have := ha.1 z hz; omega
      · exact h1
    · intro hz
      rcases List.mem_cons.1 ((h z).2 (List.mem_cons_of_mem _ hz)) with h1 | h1
      · have := hb.1 z hz; omega
      · exact h1
theorem memL_snoc {s i : Nat} {P : List Nat} (hP : memL s = P) (hi : i < 12) (h : ∀ x ∈ P, x < i) : memL (s ||| 2 ^ i) = P ++ [i] := by
  refine sorted_ext (memL_sorted _) ?_ (fun x => ?_)
  · rw [List.pairwise_append]
    refine ⟨by rw [← hP]; exact memL_sorted _, List.pairwise_singleton _ _, fun a ha b hb => ?_⟩
    rw [List.mem_singleton.1 hb]; exact h a ha
  · rw [memL_mem, Nat.testBit_or, Nat.testBit_two_pow, List.mem_append, List.mem_singleton, ← hP, memL_mem]
    constructor
    · rintro ⟨h1, h2⟩
      rw [Bool.or_eq_true] at h2
      rcases h2 with h2 | h2
      · exact .inl ⟨h1, h2⟩
      · exact .inr (by simpa using h2 : i = x).symm
    · rintro (⟨h1, h2⟩ | rfl)
      · exact ⟨h1, by rw [h2]; rfl⟩
      · exact ⟨hi, by simp⟩

/-! ### The program's search -/
def Least (has : Nat → Bool) (l P T : List Nat) : Prop :=
  ∀ T', T'.Pairwise (· < ·) → (∀ x ∈ T', x ∈ l) → T' ≠ [] → ∀ t', t' < 4096 → memL t' = P ++ T' → has t' = true → lessB (ints T') (ints T) = false
def Nothing (has : Nat → Bool) (l P : List Nat) : Prop :=
  ∀ T', T'.Pairwise (· < ·) → (∀ x ∈ T', x ∈ l) → T' ≠ [] → ∀ t', t' < 4096 → memL t' = P ++ T' → has t' = false
theorem lessB_gt {x y : Nat} (h : y < x) (a b : List Nat) : lessB (ints (x :: a)) (ints (y :: b)) = false := by
  show lessB ((x : Int) :: ints a) ((y : Int) :: ints b) = false
  rw [lessB, if_neg (by omega)]
  exact decide_eq_false (by omega)
theorem lessB_same (x : Nat) (a b : List Nat) : lessB (ints (x :: a)) (ints (x :: b)) = lessB (ints a) (ints b) := by
  show lessB ((x : Int) :: ints a) ((x : Int) :: ints b) = _
  rw [lessB, if_pos rfl]
theorem lessB_none (a : List Int) : lessB a [] = false := by cases a <;> rfl
theorem lpF_spec (has : Nat → Bool) : ∀ (l P : List Nat) (s : Nat), s < 4096 → memL s = P → l.Pairwise (· < ·) → (∀ y ∈ l, y < 12) → (∀ x ∈ P, ∀ y ∈ l, x < y) →
    (∀ t, lpF has l s = some t → t < 4096 ∧ has t = true ∧ ∃ T, T.Pairwise (· < ·) ∧ (∀ x ∈ T, x ∈ l) ∧ T ≠ [] ∧ memL t = P ++ T ∧ Least has l P T) ∧ (lpF has l s = none → Nothing has l P)
  | [], P, s, hs, hP, _, _, _ => by
    refine ⟨fun t h => (by cases h), fun _ T' _ h1 h2 => ?_⟩
    match T', h1, h2 with
    | [], _, h2 => exact absurd rfl h2
    | x :: _, h1, _ => exact absurd (h1 x List.mem_cons_self) (by simp)
  | i :: rest, P, s, hs, hP, hl, h12, hlt => by
    rw [List.pairwise_cons] at hl
    have hi := h12 i List.mem_cons_self
    have hs' : s ||| 2 ^ i < 4096 := or_lt12 s i hs hi
    have hP' := memL_snoc hP hi (fun x hx => hlt x hx i List.mem_cons_self)
    have ihA := lpF_spec has rest (P ++ [i]) (s ||| 2 ^ i) hs' hP' hl.2 (fun y hy => h12 y (List.mem_cons_of_mem _ hy)) (fun x hx y hy => by
      rcases List.mem_append.1 hx with h | h
      · exact hlt x h y (List.mem_cons_of_mem _ hy)
      · rw [List.mem_singleton.1 h]; exact hl.1 y hy)
    have ihB := lpF_spec has rest P s hs hP hl.2 (fun y hy => h12 y (List.mem_cons_of_mem _ hy)) (fun x hx y hy => hlt x hx y (List.mem_cons_of_mem _ hy))
    have split' : ∀ T' : List Nat, T'.Pairwise (· < ·) → (∀ x ∈ T', x ∈ i :: rest) → T' ≠ [] → (∃ T2, T' = i :: T2 ∧ T2.Pairwise (· < ·) ∧ ∀ x ∈ T2, x ∈ rest) ∨ (∃ j T2, T' = j :: T2 ∧ i < j ∧ ∀ x ∈ T', x ∈ rest) := fun T' h1 h2 h3 => by
      match T', h1, h2, h3 with
      | [], _, _, h3 => exact absurd rfl h3
      | j :: T2, h1, h2, h3 =>
        rw [List.pairwise_cons] at h1
        rcases List.mem_cons.1 (h2 j List.mem_cons_self) with rfl | hj
        · refine .inl ⟨T2, rfl, h1.2, fun x hx => ?_⟩
          rcases List.mem_cons.1 (h2 x (List.mem_cons_of_mem _ hx)) with rfl | h4
          · have := h1.1 x hx; omega
          · exact h4
        · have hij := hl.1 j hj
          refine .inr ⟨j, T2, rfl, hij, fun x hx => ?_⟩
          rcases List.mem_cons.1 hx with rfl | hx
          · exact hj
          · rcases List.mem_cons.1 (h2 x (List.mem_cons_of_mem _ hx)) with rfl | h4
            · have := h1.1 x hx; omega
            · exact h4
    rw [lpF]
    by_cases hh : has (s ||| 2 ^ i) = true
    · rw [if_pos hh]
      refine ⟨fun t h => ?_, fun h => (by cases h)⟩
      cases h
      refine ⟨hs', hh, [i], List.pairwise_singleton _ _, fun x hx => by rw [List.mem_singleton.1 hx]; exact List.mem_cons_self, by simp, hP', ?_⟩
      intro T' h1 h2 h3 t' _ _ _
      rcases split' T' h1 h2 h3 with ⟨T2, rfl, _, _⟩ | ⟨j, T2, rfl, hij, _⟩
      · rw [lessB_same]; exact lessB_none _
      · exact lessB_gt hij _ _
    · rw [if_neg hh]
      rw [Bool.not_eq_true] at hh
      have only : ∀ t', t' < 4096 → memL t' = P ++ [i] → has t' = false := fun t' h1 h2 => by
        rw [memL_inj h1 hs' (h2.trans hP'.symm)]; exact hh
      cases hx : lpF has rest (s ||| 2 ^ i) with
      | some x =>
        refine ⟨fun t h => ?_, fun h => (by cases h)⟩
        cases h
        obtain ⟨q1, q2, T, q3, q4, q5, q6, q7⟩ := ihA.1 x hx
        refine ⟨q1, q2, i :: T, List.pairwise_cons.2 ⟨fun y hy => hl.1 y (q4 y hy), q3⟩, fun y hy => ?_, by simp, by rw [q6]; simp, ?_⟩
        · rcases List.mem_cons.1 hy with rfl | hy
          · exact List.mem_cons_self
          · exact List.mem_cons_of_mem _ (q4 y hy)
        · intro T' h1 h2 h3 t' h4 h5 h6
          rcases split' T' h1 h2 h3 with ⟨T2, rfl, h7, h8⟩ | ⟨j, T2, rfl, hij, _⟩
          · rw [lessB_same]
            by_cases hz : T2 = []
            · subst hz
              rw [only t' h4 h5] at h6; cases h6
            · exact q7 T2 h7 h8 hz t' h4 (by rw [h5]; simp) h6
          · exact lessB_gt hij _ _
      | none =>
        have hn := ihA.2 hx
        have noI : ∀ T2 : List Nat, T2.Pairwise (· < ·) → (∀ x ∈ T2, x ∈ rest) → ∀ t', t' < 4096 → memL t' = P ++ i :: T2 → has t' = false := fun T2 h1 h2 t' h3 h4 => by
          by_cases hz : T2 = []
          · subst hz; exact only t' h3 h4
          · exact hn T2 h1 h2 hz t' h3 (by rw [h4]; simp)
        refine ⟨fun t h => ?_, fun h T' h1 h2 h3 t' h4 h5 => ?_⟩
        · obtain ⟨q1, q2, T, q3, q4, q5, q6, q7⟩ := ihB.1 t h
          refine ⟨q1, q2, T, q3, fun y hy => List.mem_cons_of_mem _ (q4 y hy), q5, q6, ?_⟩
          intro T' h1 h2 h3 t' h4 h5 h6
          rcases split' T' h1 h2 h3 with ⟨T2, rfl, h7, h8⟩ | ⟨j, T2, rfl, hij, h8⟩
          · rw [noI T2 h7 h8 t' h4 h5] at h6; cases h6
          · exact q7 _ h1 h8 (by simp) t' h4 h5 h6
        · rcases split' T' h1 h2 h3 with ⟨T2, rfl, h7, h8⟩ | ⟨j, T2, rfl, hij, h8⟩
          · exact noI T2 h7 h8 t' h4 h5
          · exact ihB.2 h _ h1 h8 (by simp) t' h4 h5
theorem memL_all {n x : Nat} (hn : n ≤ 12) : x ∈ memL (2 ^ n - 1) ↔ x < n := by
  rw [memL_mem, Nat.testBit_two_pow_sub_one, decide_eq_true_eq]
  omega
theorem mem_lt {n t x : Nat} (ht : t < 2 ^ n) (hx : x ∈ memL t) : x < n := by
  rw [memL_mem] at hx
  rcases Nat.lt_or_ge x n with h | h
  · exact h
  · rw [Nat.testBit_lt_two_pow (Nat.lt_of_lt_of_le ht (Nat.pow_le_pow_right (by decide) h))] at hx
    simp at hx
theorem memL_nil {t : Nat} (ht : t < 4096) (h : memL t = []) : t = 0 := memL_inj ht (by decide) (by rw [h]; exact memL_zero.symm)
theorem firstS_spec (has : Nat → Bool) (n : Nat) (hn : n ≤ 12) (h0 : has 0 = false) :
    (∀ t, firstS has n = some t → t < 2 ^ n ∧ has t = true ∧ ∀ u, u < 2 ^ n → has u = true → lessB (ints (memL u)) (ints (memL t)) = false) ∧ (firstS has n = none → ∀ u, u < 2 ^ n → has u = false) := by
  have h12 : (2 : Nat) ^ n ≤ 2 ^ 12 := Nat.pow_le_pow_right (by decide) hn
  have hsp := lpF_spec has (memL (2 ^ n - 1)) [] 0 (by decide) memL_zero (memL_sorted _) (fun y hy => by have := (memL_all hn).1 hy; omega) (fun x hx => by cases hx)
  have e : firstS has n = lpF has (memL (2 ^ n - 1)) 0 := by unfold firstS onF; rw [if_neg (by rw [h0]; simp)]
  rw [e]
  have ne : ∀ u, has u = true → u < 4096 → memL u ≠ [] := fun u hu hu2 hz => by rw [memL_nil hu2 hz, h0] at hu; cases hu
  refine ⟨fun t ht => ?_, fun hn' u hu => ?_⟩
  · obtain ⟨q1, q2, T, q3, q4, q5, q6, q7⟩ := hsp.1 t ht
    rw [List.nil_append] at q6
    refine ⟨?_, q2, fun u hu hu2 => ?_⟩
    · apply Nat.lt_pow_two_of_testBit
      intro i hi
      rcases Nat.lt_or_ge i 12 with h1 | h1
      · cases hb : t.testBit i with
        | false => rfl
        | true =>
          have := q4 i (by rw [← q6]; exact (memL_mem t i).2 ⟨h1, hb⟩)
          have := (memL_all hn).1 this
          omega
      · exact Nat.testBit_lt_two_pow (Nat.lt_of_lt_of_le q1 (Nat.pow_le_pow_right (by decide) h1 : 2 ^ 12 ≤ 2 ^ i))
    · rw [q6]
      exact q7 (memL u) (memL_sorted u) (fun x hx => (memL_all hn).2 (mem_lt hu hx)) (ne u hu2 (by omega)) u (by omega) (by simp) hu2
  · cases hb : has u with
    | false => rfl
    | true =>
      have := hsp.2 hn' (memL u) (memL_sorted u) (fun x hx => (memL_all hn).2 (mem_lt hu hx)) (ne u hb (by omega)) u (by omega) (by simp)
      rw [hb] at this; cases this

/-! ### The specification's choice -/
def pick (b : Option Nat) (s : Nat) : Option Nat := match b with
  | none => some s
  | some t => if lessB (ints (memL s)) (ints (memL t)) then some s else some t
def bestS (S : List Nat) : Option Nat := S.foldl pick none
theorem bestS_snoc (S : List Nat) (s : Nat) : bestS (S ++ [s]) = pick (bestS S) s := by unfold bestS; rw [List.foldl_append]; rfl
theorem best_spec : ∀ (S : List Nat) (b : Option Nat), (∀ t, S.foldl pick b = some t → (t ∈ S ∨ b = some t) ∧ (∀ u ∈ S, lessB (ints (memL u)) (ints (memL t)) = false) ∧ ∀ u, b = some u → lessB (ints (memL u)) (ints (memL t)) = false) ∧
    (S.foldl pick b = none → S = [] ∧ b = none)
  | [], b => ⟨fun t h => ⟨.inr h, fun u hu => (by cases hu), fun u hu => by
      have h' : b = some t := h
      rw [hu] at h'; cases h'; exact lessB_self _⟩, fun h => ⟨rfl, h⟩⟩
  | s :: S, b => by
    obtain ⟨h1, h2⟩ := best_spec S (pick b s)
    rw [List.foldl_cons]
    refine ⟨fun t ht => ?_, fun h => ?_⟩
    · obtain ⟨q1, q2, q3⟩ := h1 t ht
      match b, q1, q3 with
      | none, q1, q3 =>
        have := q3 s rfl
        refine ⟨?_, fun u hu => ?_, fun u hu => by cases hu⟩
        · rcases q1 with q1 | q1
          · exact .inl (List.mem_cons_of_mem _ q1)
          · cases q1; exact .inl List.mem_cons_self
        · rcases List.mem_cons.1 hu with rfl | hu
          · exact this
          · exact q2 u hu
      | some b, q1, q3 =>
        cases hl : lessB (ints (memL s)) (ints (memL b)) with
        | true =>
          have e : pick (some b) s = some s := by unfold pick; simp only [hl, if_true]
          rw [e] at q1 q3
          have hs := q3 s rfl
          refine ⟨?_, fun u hu => ?_, fun u hu => ?_⟩
          · rcases q1 with q1 | q1
            · exact .inl (List.mem_cons_of_mem _ q1)
            · cases q1; exact .inl List.mem_cons_self
          · rcases List.mem_cons.1 hu with rfl | hu
            · exact hs
            · exact q2 u hu
          · cases hu
            cases hb : lessB (ints (memL b)) (ints (memL t)) with
            | false => rfl
            | true => rw [lessB_trans _ _ _ hl hb] at hs; cases hs
        | false =>
          have e : pick (some b) s = some b := by unfold pick; simp only [hl]; rfl
          rw [e] at q1 q3
          have hb := q3 b rfl
          refine ⟨?_, fun u hu => ?_, fun u hu => by cases hu; exact hb⟩
          · rcases q1 with q1 | q1
            · exact .inl (List.mem_cons_of_mem _ q1)
            · exact .inr q1
          · rcases List.mem_cons.1 hu with rfl | hu
            · cases hx : lessB (ints (memL u)) (ints (memL t)) with
              | false => rfl
              | true =>
                by_cases hbt : b = t
                · subst hbt; rw [hx] at hl; cases hl
                · cases hy : lessB (ints (memL t)) (ints (memL b)) with
                  | true => rw [lessB_trans _ _ _ hx hy] at hl; cases hl
                  | false =>
                    have := lessB_anti _ _ hb hy
                    rw [← this, hl] at hx; cases hx
            · exact q2 u hu
    · obtain ⟨_, h3⟩ := h2 h
      unfold pick at h3
      split at h3
      · cases h3
      · split at h3 <;> cases h3
theorem first_eq (has : Nat → Bool) (n : Nat) (hn : n ≤ 12) (h0 : has 0 = false) : firstS has n = bestS ((List.range (2 ^ n)).filter has) := by
  have h12 : (2 : Nat) ^ n ≤ 2 ^ 12 := Nat.pow_le_pow_right (by decide) hn
  obtain ⟨h1, h2⟩ := firstS_spec has n hn h0
  obtain ⟨h3, h4⟩ := best_spec ((List.range (2 ^ n)).filter has) none
  have hm : ∀ u, u ∈ (List.range (2 ^ n)).filter has ↔ u < 2 ^ n ∧ has u = true := fun u => by rw [List.mem_filter, List.mem_range]
  cases ht : firstS has n with
  | none =>
    cases hb : bestS ((List.range (2 ^ n)).filter has) with
    | none => rfl
    | some t =>
      obtain ⟨q1, _⟩ := h3 t hb
      rcases q1 with q1 | q1
      · obtain ⟨q2, q3⟩ := (hm t).1 q1
        rw [h2 ht t q2] at q3; cases q3
      · cases q1
  | some t =>
    obtain ⟨p1, p2, p3⟩ := h1 t ht
    cases hb : bestS ((List.range (2 ^ n)).filter has) with
    | none =>
      obtain ⟨q1, _⟩ := h4 hb
      have : t ∈ ([] : List Nat) := by rw [← q1]; exact (hm t).2 ⟨p1, p2⟩
      cases this
    | some u =>
      obtain ⟨q1, q2, _⟩ := h3 u hb
      rcases q1 with q1 | q1
      · obtain ⟨q3, q4⟩ := (hm u).1 q1
        have := ints_inj (lessB_anti _ _ (q2 t ((hm t).2 ⟨p1, p2⟩)) (p3 u q3 q4))
        rw [memL_inj (by omega) (by omega) this]
      · cases q1
end Go.Proofs.Ytmobefgnkiboaaa.Im
