/- Rankings: what the specification judges, and that the search finds the least one. -/
import Derived.Test.YtmobefgnkiboaaaMh
namespace Go.Proofs.Ytmobefgnkiboaaa.Im
open Go.RowKit Go.Proofs.YtmobefgnkiboaaaW.PrintWords Go.Proofs.YtmobefgnkiboaaaW.PrintLast Go.Proofs.YtmobefgnkiboaaaW.PrintMore
set_option linter.unusedVariables false
set_option linter.unusedSectionVars false

/-! ### Plain lists -/
theorem nodup_len : ∀ {l1 l2 : List Nat}, l1.Nodup → (∀ x ∈ l1, x ∈ l2) → l1.length ≤ l2.length
  | [], _, _, _ => Nat.zero_le _
  | a :: t, l2, h, hs => by
    rw [List.nodup_cons] at h
    have ha := hs a List.mem_cons_self
    have := nodup_len (l1 := t) (l2 := l2.erase a) h.2 (fun x hx => by
      have hne : x ≠ a := fun e => h.1 (e ▸ hx)
      exact (List.mem_erase_of_ne hne).2 (hs x (List.mem_cons_of_mem _ hx)))
    rw [List.length_erase_of_mem ha] at this
    have : 0 < l2.length := List.length_pos_of_mem ha
    rw [List.length_cons]; omega
theorem least_ex (Q : Nat → Prop) (N : Nat) (h : ∀ x, (∀ y, y < x → Q y) → x ≤ N) : ∃ M, (∀ y, y < M → Q y) ∧ ¬ Q M ∧ M ≤ N := by
  apply Classical.byContradiction
  intro hc
  have all : ∀ x, ∀ y, y < x → Q y := by
    intro x
    induction x with
    | zero => intro y hy; omega
    | succ x ih =>
      intro y hy
      rcases Nat.lt_or_ge y x with h1 | h1
      · exact ih y h1
      · obtain rfl : y = x := by omega
        apply Classical.byContradiction
        intro hq
        exact hc ⟨y, ih, hq, h y ih⟩
  have := h (N + 1) (all (N + 1))
  omega

/-! ### mex -/
def hasI' (m : Nat) (rs : List Int) (x : Nat) (b : Nat) : Prop := m.testBit b = true ∧ rd rs b = (x : Int)
section
variable (o : List Nat) (n a : Nat) (rs : List Int) (ha : a < n) (hn : n ≤ 12) (hol : (o.take n).length = n) (hlen : rs.length = n)
include ha hn hol hlen
theorem mex_pass (M x : Nat) (hM : ¬ ∃ b, b < n ∧ hasI' (o.getD a 0) rs M b) (hM13 : M ≤ n) (H : ∀ x'', x < x'' → x'' ≤ M → Gives (fun k => pomaderef02_mex.l0 k (ints (o.take n)) rs a x'' true) (M : Int))
    (hxM : ∀ y, y < M → ∃ b, b < n ∧ hasI' (o.getD a 0) rs y b) : ∀ (d b x' : Nat) (ag : Bool), b + d = n → x ≤ x' → x' ≤ M → (ag = true → x < x') → (ag = false → x' = x ∧ ∀ b', b' < b → ¬ hasI' (o.getD a 0) rs x b') →
    Gives (fun k => pomaderef02_mex.l1 k (ints (o.take n)) rs a x' ag b) (M : Int)
  | 0, b, x', ag, h, h1, h2, h3, h4 => by
    cases ag
    · obtain ⟨rfl, h5⟩ := h4 rfl
      have e : x' = M := by
        rcases Nat.lt_or_ge x' M with h6 | h6
        · obtain ⟨b', hb, hb'⟩ := hxM x' h6
          exact absurd hb' (h5 b' (by omega))
        · omega
      subst e
      refine Gives.step (f := fun k => pomaderef02_mex.l0 k (ints (o.take n)) rs a x' false) (r := (x' : Int)) (Gives.now fun k => ?_) fun k hk => ?_
      · simp only [pomaderef02_mex.l0]
        rw [if_neg (by simp)]
      · simp only [pomaderef02_mex.l1]
        rw [if_neg (by omega)]
        exact hk
    · refine (H x' (h3 rfl) h2).step fun k hk => ?_
      simp only [pomaderef02_mex.l1]
      rw [if_neg (by omega)]
      exact hk
  | d + 1, b, x', ag, h, h1, h2, h3, h4 => by
    have hTl : (ints (o.take n)).length = n := by rw [ints_length]; exact hol
    by_cases hh : hasI' (o.getD a 0) rs x' b
    · have hlt : x' < M := by
        rcases Nat.lt_or_ge x' M with h6 | h6
        · exact h6
        · obtain rfl : x' = M := by omega
          exact absurd ⟨b, by omega, hh⟩ hM
      refine (mex_pass M x hM hM13 H hxM d (b + 1) (x' + 1) true (by omega) (by omega) (by omega) (fun _ => by omega) (fun e => by cases e)).step fun k hk => ?_
      simp only [pomaderef02_mex.l1]
      rw [if_pos (by omega), if_pos (by omega), if_pos (by omega), if_pos (by omega), rd_takes o n a ha, if_pos ((tbit1 _ _ (by omega)).2 hh.1), if_pos hh.2, wr_succ b (by omega), wr_succ x' (by omega)]
      exact hk
    · refine (mex_pass M x hM hM13 H hxM d (b + 1) x' ag (by omega) h1 h2 h3 (fun e => ?_)).step fun k hk => ?_
      · obtain ⟨rfl, h5⟩ := h4 e
        refine ⟨rfl, fun b' hb' => ?_⟩
        rcases Nat.lt_or_ge b' b with h6 | h6
        · exact h5 b' h6
        · obtain rfl : b' = b := by omega
          exact hh
      · simp only [pomaderef02_mex.l1]
        rw [if_pos (by omega), if_pos (by omega), if_pos (by omega), if_pos (by omega), rd_takes o n a ha, wr_succ b (by omega)]
        by_cases hb : (o.getD a 0).testBit b = true
        · rw [if_pos ((tbit1 _ _ (by omega)).2 hb), if_neg (fun e => hh ⟨hb, e⟩)]
          exact hk
        · rw [if_neg (fun e => hb ((tbit1 _ _ (by omega)).1 e))]
          exact hk
theorem mex_l0 (M : Nat) (hM : ¬ ∃ b, b < n ∧ hasI' (o.getD a 0) rs M b) (hM13 : M ≤ n) (hxM : ∀ y, y < M → ∃ b, b < n ∧ hasI' (o.getD a 0) rs y b) :
    ∀ (d x : Nat), M - x ≤ d → x ≤ M → Gives (fun k => pomaderef02_mex.l0 k (ints (o.take n)) rs a x true) (M : Int)
  | 0, x, hd, hx => by
    obtain rfl : x = M := by omega
    refine (mex_pass o n a rs ha hn hol hlen x x hM hM13 (fun x'' h1 h2 => by omega) hxM n 0 x false (by omega) (Nat.le_refl _) hx (fun e => by cases e) (fun _ => ⟨rfl, fun b' h => by omega⟩)).step fun k hk => ?_
    simp only [pomaderef02_mex.l0]
    rw [if_pos trivial]; exact hk
  | d + 1, x, hd, hx => by
    refine (mex_pass o n a rs ha hn hol hlen M x hM hM13 (fun x'' h1 h2 => mex_l0 M hM hM13 hxM d x'' (by omega) h2) hxM n 0 x false (by omega) (Nat.le_refl _) hx (fun e => by cases e) (fun _ => ⟨rfl, fun b' h => by omega⟩)).step fun k hk => ?_
    simp only [pomaderef02_mex.l0]
    rw [if_pos trivial]; exact hk
theorem mex_g : ∃ M : Nat, Gives (fun k => pomaderef02_mex.f k (ints (o.take n)) rs a) (M : Int) ∧ (∀ y, y < M → ∃ b, b < n ∧ hasI' (o.getD a 0) rs y b) ∧ (¬ ∃ b, b < n ∧ hasI' (o.getD a 0) rs M b) := by
  obtain ⟨M, h1, h2, h3⟩ := least_ex (fun y => ∃ b, b < n ∧ hasI' (o.getD a 0) rs y b) n (fun x hx => by
    have := nodup_len (l1 := List.range x) (l2 := rs.map Int.toNat) List.nodup_range (fun y hy => by
      obtain ⟨b, hb, _, he⟩ := hx y (List.mem_range.1 hy)
      rw [List.mem_map]
      refine ⟨rd rs b, ?_, by rw [he]; exact Int.toNat_natCast y⟩
      unfold rd
      rw [Int.toNat_natCast, List.getD_eq_getElem?_getD, List.getElem?_eq_getElem (by omega)]
      exact List.getElem_mem _)
    simpa [hlen] using this)
  exact ⟨M, mex_l0 o n a rs ha hn hol hlen M h2 h3 h1 M 0 (by omega) (Nat.zero_le _), h1, h2⟩
end

/-! ### IsRanks -/
def okR (n : Nat) (o : List Nat) (rs : List Int) (a : Nat) : Prop :=
  0 ≤ rd rs a ∧ rd rs a ≤ n ∧ (∀ y : Nat, (y : Int) < rd rs a → ∃ b, b < n ∧ hasI' (o.getD a 0) rs y b) ∧ ¬ ∃ b, b < n ∧ hasI' (o.getD a 0) rs (rd rs a).toNat b
theorem IsRanks_l0 (o : List Nat) (n : Nat) (rs : List Int) (hn : n ≤ 12) (hol : (o.take n).length = n) (hlen : rs.length = n) : ∀ (d a : Nat), a + d = n → (∀ a', a' < a → okR n o rs a') →
    ∃ B : Bool, Gives (fun k => pomaderef02_IsRanks.l0 k n rs (ints (o.take n)) a) B ∧ (B = true ↔ ∀ a', a' < n → okR n o rs a')
  | 0, a, h, hp => ⟨true, Gives.now fun k => by
      simp only [pomaderef02_IsRanks.l0]
      rw [if_neg (by omega)], by
      obtain rfl : a = n := by omega
      exact ⟨fun _ => hp, fun _ => rfl⟩⟩
  | d + 1, a, h, hp => by
    by_cases h0 : rd rs a < 0
    · refine ⟨false, Gives.now fun k => ?_, fun e => (by cases e), fun e => ?_⟩
      · simp only [pomaderef02_IsRanks.l0]
        rw [if_pos (by omega), if_pos (by omega), if_pos (by omega), if_pos h0]
      · have := (e a (by omega)).1; omega
    by_cases h1 : rd rs a > n
    · refine ⟨false, Gives.now fun k => ?_, fun e => (by cases e), fun e => ?_⟩
      · simp only [pomaderef02_IsRanks.l0]
        rw [if_pos (by omega), if_pos (by omega), if_pos (by omega), if_neg h0, if_pos h1]
      · have := (e a (by omega)).2.1; omega
    obtain ⟨M, hg, hM1, hM2⟩ := mex_g o n a rs (by omega) hn hol hlen
    by_cases h2 : (M : Int) = rd rs a
    · have hok : okR n o rs a := ⟨by omega, by omega, fun y hy => hM1 y (by omega), by rw [← h2, Int.toNat_natCast]; exact hM2⟩
      obtain ⟨B, hB, hB'⟩ := IsRanks_l0 o n rs hn hol hlen d (a + 1) (by omega) (fun a' ha' => by
        rcases Nat.lt_or_ge a' a with h3 | h3
        · exact hp a' h3
        · obtain rfl : a' = a := by omega
          exact hok)
      refine ⟨B, hg.step2 hB fun k hk hk2 => ?_, hB'⟩
      simp only [pomaderef02_IsRanks.l0]
      rw [if_pos (by omega), if_pos (by omega), if_pos (by omega), if_neg h0, if_neg h1, hk, Option.bind_some, if_pos h2, wr_succ a (by omega)]
      exact hk2
    · refine ⟨false, hg.step fun k hk => ?_, fun e => (by cases e), fun e => ?_⟩
      · simp only [pomaderef02_IsRanks.l0]
        rw [if_pos (by omega), if_pos (by omega), if_pos (by omega), if_neg h0, if_neg h1, hk, Option.bind_some, if_neg h2]
      · obtain ⟨e0, e1, e2, e3⟩ := e a (by omega)
        rcases Int.lt_or_gt_of_ne h2 with h3 | h3
        · exact absurd (e2 M h3) hM2
        · obtain ⟨b, hb⟩ := hM1 (rd rs a).toNat (by omega)
          exact absurd ⟨b, hb⟩ e3
def isRk (n : Int) (l : List S43) (rs : List Int) : Prop := ofE n l = 0 ∧ (rs.length : Int) = n ∧ ∀ a, a < n.toNat → okR n.toNat (townO l) rs a
theorem IsRanks_g (n : Int) (l : List S43) (rs : List Int) : ∃ B : Bool, Gives (fun k => pomaderef02_IsRanks.f k n l rs) B ∧ (B = true ↔ isRk n l rs) := by
  have hT := Town_g n l
  by_cases he : ofE n l = 0
  · have hn := (ofE_ok he).1
    have ok := okt_of he
    obtain ⟨m, rfl⟩ : ∃ m : Nat, n = m := ⟨n.toNat, by omega⟩
    rw [if_pos he] at hT
    rw [Int.toNat_natCast] at ok
    have n12 := ok.n12
    by_cases hl : (rs.length : Int) = m
    · obtain ⟨B, hB, hB'⟩ := IsRanks_l0 (townO l) m rs n12 (by rw [List.length_take, ok.len]; omega) (by omega) m 0 (by omega) (fun a' h => by omega)
      have hj : Gives (fun k => pomaderef02_IsRanks.j0 k m rs (ints ((townO l).take m)) false) B := hB.step fun k hk => by
        simp only [pomaderef02_IsRanks.j0]
        rw [if_neg (by simp)]
        exact hk
      refine ⟨B, hT.map2 hj fun k hk hk2 => ?_, ?_⟩
      · simp only [pomaderef02_IsRanks.f]
        rw [hk, Option.bind_some, if_pos rfl, show ((rs.length : Int) != (m : Int)) = false by simp [hl]]
        exact hk2
      · rw [hB']
        exact ⟨fun h => ⟨he, hl, h⟩, fun h => h.2.2⟩
    · have hj : Gives (fun k => pomaderef02_IsRanks.j0 k m rs (ints ((townO l).take m)) true) false := Gives.now fun k => by
        simp only [pomaderef02_IsRanks.j0]
        rw [if_pos trivial]
      refine ⟨false, hT.map2 hj fun k hk hk2 => ?_, fun e => (by cases e), fun e => absurd e.2.1 hl⟩
      simp only [pomaderef02_IsRanks.f]
      rw [hk, Option.bind_some, if_pos rfl, show ((rs.length : Int) != (m : Int)) = true by simpa using hl]
      exact hk2
  · rw [if_neg he] at hT
    have hj : Gives (fun k => pomaderef02_IsRanks.j0 k n rs [] true) false := Gives.now fun k => by
      simp only [pomaderef02_IsRanks.j0]
      rw [if_pos trivial]
    refine ⟨false, hT.map2 hj fun k hk hk2 => ?_, fun e => (by cases e), fun e => absurd e.1 he⟩
    simp only [pomaderef02_IsRanks.f]
    rw [hk, Option.bind_some, if_neg he]
    exact hk2

/-! ### Less -/
def lessB : List Int → List Int → Bool
  | [], ys => !ys.isEmpty
  | _ :: _, [] => false
  | x :: xs, y :: ys => if x = y then lessB xs ys else decide (x < y)
theorem lessB_nil (xs ys : List Int) (h : xs = [] ∨ ys = []) : lessB xs ys = decide ((xs.length : Int) < (ys.length : Int)) := by
  match xs, ys, h with
  | [], [], _ => rfl
  | [], y :: ys, _ => simp [lessB] <;> omega
  | x :: xs, [], _ => simp [lessB] <;> omega
  | x :: xs, y :: ys, h => simp at h
theorem Less_l0 (xs ys : List Int) (hx : xs.length < 1000000) (hy : ys.length < 1000000) : ∀ (d i : Nat), xs.length - i ≤ d → i ≤ xs.length → i ≤ ys.length → Gives (fun k => pomaderef01_Less.l0 k xs ys i) (lessB (xs.drop i) (ys.drop i)) := by
  have stop : ∀ i : Nat, i ≤ xs.length → i ≤ ys.length → (xs.length ≤ i ∨ ys.length ≤ i) → Gives (fun k => pomaderef01_Less.l0 k xs ys i) (lessB (xs.drop i) (ys.drop i)) := fun i h1 h2 h3 => by
    have e : lessB (xs.drop i) (ys.drop i) = decide ((xs.length : Int) < (ys.length : Int)) := by
      rw [lessB_nil _ _ (h3.imp List.drop_eq_nil_iff.2 List.drop_eq_nil_iff.2), List.length_drop, List.length_drop, decide_eq_decide]
      omega
    rw [e]
    refine Gives.step (f := fun k => pomaderef01_Less.j1 k xs ys i false) (r := decide ((xs.length : Int) < (ys.length : Int))) (Gives.now fun k => ?_) fun k hk => ?_
    · simp only [pomaderef01_Less.j1]
      rw [if_neg (by simp)]
    · simp only [pomaderef01_Less.l0]
      by_cases h4 : (i : Int) < xs.length
      · rw [if_pos h4, show decide ((i : Int) < ys.length) = false from decide_eq_false (by omega)]
        exact hk
      · rw [if_neg h4]; exact hk
  intro d
  induction d with
  | zero => intro i hd h1 h2; exact stop i h1 h2 (.inl (by omega))
  | succ d ih =>
    intro i hd h1 h2
    by_cases h3 : xs.length ≤ i ∨ ys.length ≤ i
    · exact stop i h1 h2 h3
    · have hxi : xs.drop i = rd xs i :: xs.drop (i + 1) := by
        rw [List.drop_eq_getElem_cons (by omega)]
        congr 1
        unfold rd
        rw [Int.toNat_natCast, List.getD_eq_getElem?_getD, List.getElem?_eq_getElem (by omega)]; rfl
      have hyi : ys.drop i = rd ys i :: ys.drop (i + 1) := by
        rw [List.drop_eq_getElem_cons (by omega)]
        congr 1
        unfold rd
        rw [Int.toNat_natCast, List.getD_eq_getElem?_getD, List.getElem?_eq_getElem (by omega)]; rfl
      rw [hxi, hyi, lessB]
      have hl : ∀ r, Gives (fun k => pomaderef01_Less.j1 k xs ys i true) r → Gives (fun k => pomaderef01_Less.l0 k xs ys i) r := fun r hr => hr.step fun k hk => by
        simp only [pomaderef01_Less.l0]
        rw [if_pos (by omega), show decide ((i : Int) < ys.length) = true from decide_eq_true (by omega)]
        exact hk
      apply hl
      by_cases he : rd xs i = rd ys i
      · rw [if_pos he]
        refine (ih (i + 1) (by omega) (by omega) (by omega)).step fun k hk => ?_
        simp only [pomaderef01_Less.j1]
        rw [if_pos trivial, if_pos (by omega), if_pos (by omega), if_pos (by omega), if_pos he, wr_succ i (by omega)]
        exact hk
      · rw [if_neg he]
        refine Gives.now fun k => ?_
        simp only [pomaderef01_Less.j1]
        rw [if_pos trivial, if_pos (by omega), if_pos (by omega), if_pos (by omega), if_neg he]
theorem Less_g (xs ys : List Int) (hx : xs.length < 1000000) (hy : ys.length < 1000000) : Gives (fun k => pomaderef01_Less.f k xs ys) (lessB xs ys) :=
  Less_l0 xs ys hx hy xs.length 0 (by omega) (Nat.zero_le _) (Nat.zero_le _)
theorem lessB_cancel (p s s' : List Int) : lessB (p ++ s) (p ++ s') = lessB s s' := by
  induction p with
  | nil => rfl
  | cons x p ih => simp only [List.cons_append, lessB, if_true, ih]
theorem lessB_self (s : List Int) : lessB s s = false := by
  induction s with
  | nil => rfl
  | cons x s ih => simp only [lessB, if_true, ih]
end Go.Proofs.Ytmobefgnkiboaaa.Im
