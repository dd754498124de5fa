/- Kernels: what the specification judges and counts. -/
import Derived.Test.YtmobefgnkiboaaaRf8
namespace Go.Proofs.Ytmobefgnkiboaaa.Im
open Go.RowKit Go.Proofs.YtmobefgnkiboaaaW.PrintWords Go.Proofs.YtmobefgnkiboaaaW.PrintLast Go.Proofs.YtmobefgnkiboaaaW.PrintMore
set_option linter.unusedVariables false

/-! ### Set -/
theorem asc_below {n : Nat} {l : List Int} {k : Nat} (h : AscTo n l k) (h1 : ascAt n l k) : ∀ j, j < k → rd l j < rd l k := by
  suffices H : ∀ d j, j + d + 1 = k → rd l j < rd l k from fun j hj => H (k - j - 1) j (by omega)
  intro d
  induction d with
  | zero =>
    intro j hj
    have := h1.2.2 (by omega)
    rwa [show (k : Int) - 1 = (j : Int) by omega] at this
  | succ d ih =>
    intro j hj
    have h2 := ih (j + 1) (by omega)
    have h3 := (h (j + 1) (by omega)).2.2 (by omega)
    rw [show ((j + 1 : Nat) : Int) - 1 = (j : Int) by omega] at h3
    omega
theorem set_plus {n : Nat} {l : List Int} {k : Nat} (hk : k < l.length) (h : AscTo n l k) (h1 : ascAt n l k) (hn : n ≤ 12) :
    wrap64 (((setOf (l.take k) : Nat) : Int) + shl .i64 1 (rd l k)) = ((setOf (l.take (k + 1)) : Nat) : Int) := by
  obtain ⟨x, hx⟩ := Int.eq_ofNat_of_zero_le h1.1
  have hlt : setOf (l.take k) < 2 ^ x := by
    refine setOf_lt x l k (by omega) (fun j hj => ⟨(h j hj).1, ?_, (h j hj).2.2⟩)
    have := asc_below h h1 j hj
    omega
  have hx12 : x < 12 := by have := h1.2.1; omega
  rw [setOf_snoc l k hk, hx, shl1 x (by omega), Int.toNat_natCast]
  have e : setOf (l.take k) + 2 ^ x = setOf (l.take k) ||| 2 ^ x := by
    have := Nat.two_pow_add_eq_or_of_lt hlt 1
    rw [Nat.mul_one, Nat.or_comm] at this
    omega
  have hp : 2 ^ x ≤ 2 ^ 12 := Nat.pow_le_pow_right (by decide) (by omega)
  rw [← e]
  unfold wrap64
  omega
theorem Set_l0 (n : Nat) (l : List Int) (hn : n ≤ 12) (hl : l.length < 1000000) : ∀ (d i : Nat), i + d = l.length → AscTo n l i →
    Gives (fun k => pomaderef02_Set.l0 k n l (setOf (l.take i) : Nat) i) (if AscTo n l l.length then ((setOf l : Nat), true) else ((0 : Int), false))
  | 0, i, h, hp => Gives.now fun k => by
    obtain rfl : i = l.length := by omega
    simp only [pomaderef02_Set.l0]
    rw [if_neg (by omega), if_pos hp, List.take_length]
  | d + 1, i, h, hp => by
    by_cases ha : ascAt n l i
    · have hs := set_plus (by omega) hp ha hn
      refine (Set_l0 n l hn hl d (i + 1) (by omega) (hp.succ ha)).step fun k hk => ?_
      obtain ⟨h1, h2, h3⟩ := ha
      simp only [pomaderef02_Set.l0]
      rw [if_pos (by omega), if_pos (by omega), if_neg (by omega), if_neg (by omega), hs, wr_succ i (by omega)]
      by_cases h0 : (i : Int) > 0
      · have ew : wrap64 ((i : Int) - 1) = (i : Int) - 1 := by unfold wrap64; omega
        have := h3 (by omega)
        rw [if_pos h0, ew, if_pos (by omega), if_pos (by omega), if_neg (by omega), if_pos (by omega)]
        exact hk
      · rw [if_neg h0, if_pos (by omega)]
        exact hk
    · have hno : ¬ AscTo n l l.length := fun h' => ha (h' i (by omega))
      rw [if_neg hno]
      refine Gives.now fun k => ?_
      simp only [pomaderef02_Set.l0]
      rw [if_pos (by omega), if_pos (by omega)]
      by_cases h1 : rd l i < 0
      · rw [if_pos h1]
      · rw [if_neg h1]
        by_cases h2 : rd l i ≥ n
        · rw [if_pos h2]
        · rw [if_neg h2]
          have h0 : (i : Int) > 0 := by
            rcases Nat.eq_zero_or_pos i with h3 | h3
            · exact absurd ⟨by omega, by omega, fun h4 => by omega⟩ ha
            · omega
          have ew : wrap64 ((i : Int) - 1) = (i : Int) - 1 := by unfold wrap64; omega
          have h3 : rd l i ≤ rd l ((i : Int) - 1) := by
            apply Classical.byContradiction
            intro h4
            exact ha ⟨by omega, by omega, fun _ => by omega⟩
          rw [if_pos h0, ew, if_pos (by omega), if_pos (by omega), if_pos h3]
theorem Set_g (n : Nat) (l : List Int) (hn : n ≤ 12) (hl : l.length < 1000000) : Gives (fun k => pomaderef02_Set.f k n l) (if AscTo n l l.length then ((setOf l : Nat), true) else ((0 : Int), false)) :=
  Set_l0 n l hn hl l.length 0 (by omega) (fun j hj => by omega)

/-! ### independent, kernel -/
section
variable (n : Nat) (o : List Nat) (ok : Okt n o) (s p : Nat) (hs : s < 4096) (hpp : p < 4096)
include ok hs
theorem ind_l0 : ∀ (d a : Nat), a + d = n → (∀ j, j < a → indB o s j = true) → Gives (fun k => pomaderef02_independent.l0 k (ints (o.take n)) s a) ((List.range n).all (indB o s))
  | 0, a, h, hp => Gives.now fun k => by
    have hTl := takes_len ok
    have : (List.range n).all (indB o s) = true := by rw [List.all_eq_true]; exact fun x hx => hp x (by have := List.mem_range.1 hx; omega)
    simp only [pomaderef02_independent.l0]
    rw [if_neg (by omega), this]
  | d + 1, a, h, hp => by
    have hTl := takes_len ok
    have n12 := ok.n12
    have h12 := ok.lt12 a
    have next : indB o s a = true → Gives (fun k => pomaderef02_independent.l0 k (ints (o.take n)) s ((a + 1 : Nat) : Int)) ((List.range n).all (indB o s)) := fun ha =>
      ind_l0 d (a + 1) (by omega) (fun j hj => by
        rcases Nat.lt_or_ge j a with h1 | h1
        · exact hp j h1
        · obtain rfl : j = a := by omega
          exact ha)
    have no : indB o s a = false → (List.range n).all (indB o s) = false := fun ha => by rw [List.all_eq_false]; exact ⟨a, List.mem_range.2 (by omega), by rw [ha]; simp⟩
    cases hb : s.testBit a
    · refine (next (by unfold indB; rw [hb]; rfl)).step fun k hk => ?_
      simp only [pomaderef02_independent.l0]
      rw [if_pos (by omega), if_pos (by omega), if_neg (by rw [tbit1 _ _ (by omega), hb]; simp), wr_succ a (by omega)]
      exact hk
    · by_cases h0 : o.getD a 0 &&& s = 0
      · refine (next (by unfold indB; rw [hb, h0]; rfl)).step fun k hk => ?_
        simp only [pomaderef02_independent.l0]
        rw [if_pos (by omega), if_pos (by omega), if_pos (by rw [tbit1 _ _ (by omega), hb]), rd_takes o n a (by omega), b_and _ _ (by omega) (by omega), if_pos (by omega), wr_succ a (by omega)]
        exact hk
      · have e : (o.getD a 0 &&& s == 0) = false := beq_eq_false_iff_ne.2 h0
        rw [no (by unfold indB; rw [hb, e]; rfl)]
        refine Gives.now fun k => ?_
        simp only [pomaderef02_independent.l0]
        rw [if_pos (by omega), if_pos (by omega), if_pos (by rw [tbit1 _ _ (by omega), hb]), rd_takes o n a (by omega), b_and _ _ (by omega) (by omega), if_neg (by omega)]
theorem ind_g : Gives (fun k => pomaderef02_independent.f k (ints (o.take n)) s) ((List.range n).all (indB o s)) :=
  ind_l0 n o ok s hs n 0 (by omega) (fun j hj => by omega)
include hpp
theorem ker_l0 : ∀ (d a : Nat), a + d = n → (∀ j, j < a → absB o s p j = true) → Gives (fun k => pomaderef02_kernel.l0 k (ints (o.take n)) p s a) (kerB n o s p)
  | 0, a, h, hq => by
    have hTl := takes_len ok
    have e : kerB n o s p = (List.range n).all (indB o s) := by
      unfold kerB AllB
      rw [Bool.eq_iff_iff, List.all_eq_true, List.all_eq_true]
      refine ⟨fun h1 x hx => ?_, fun h1 x hx => ?_⟩
      · have := h1 x hx; rw [Bool.and_eq_true] at this; exact this.1
      · rw [h1 x hx, hq x (by have := List.mem_range.1 hx; omega)]; rfl
    rw [e]
    refine (ind_g n o ok s hs).step fun k hk => ?_
    simp only [pomaderef02_kernel.l0]
    rw [if_neg (by omega), hk, Option.bind_some]
  | d + 1, a, h, hq => by
    have hTl := takes_len ok
    have n12 := ok.n12
    have h12 := ok.lt12 a
    have hal := andN_lt p s 62 (by omega)
    have next : absB o s p a = true → Gives (fun k => pomaderef02_kernel.l0 k (ints (o.take n)) p s ((a + 1 : Nat) : Int)) (kerB n o s p) := fun ha =>
      ker_l0 d (a + 1) (by omega) (fun j hj => by
        rcases Nat.lt_or_ge j a with h1 | h1
        · exact hq j h1
        · obtain rfl : j = a := by omega
          exact ha)
    cases hb : (andN p s).testBit a
    · refine (next (by unfold absB; rw [andN_bit] at hb; rw [hb]; rfl)).step fun k hk => ?_
      simp only [pomaderef02_kernel.l0]
      rw [if_pos (by omega), if_pos (by omega), b_andN _ _ (by omega) (by omega), if_neg (by rw [tbit1 _ _ (by omega), hb]; simp), wr_succ a (by omega)]
      exact hk
    · by_cases h0 : o.getD a 0 &&& s = 0
      · have e : (o.getD a 0 &&& s != 0) = false := by rw [h0]; rfl
        have hf : kerB n o s p = false := by
          unfold kerB AllB
          rw [List.all_eq_false]
          refine ⟨a, List.mem_range.2 (by omega), ?_⟩
          unfold absB
          rw [andN_bit] at hb
          rw [hb, e]
          simp
        rw [hf]
        refine Gives.now fun k => ?_
        simp only [pomaderef02_kernel.l0]
        rw [if_pos (by omega), if_pos (by omega), b_andN _ _ (by omega) (by omega), if_pos (by rw [tbit1 _ _ (by omega), hb]), rd_takes o n a (by omega), b_and _ _ (by omega) (by omega), if_pos (by omega)]
      · have e : (o.getD a 0 &&& s != 0) = true := by simpa using h0
        refine (next (by unfold absB; rw [e, Bool.or_true])).step fun k hk => ?_
        simp only [pomaderef02_kernel.l0]
        rw [if_pos (by omega), if_pos (by omega), b_andN _ _ (by omega) (by omega), if_pos (by rw [tbit1 _ _ (by omega), hb]), rd_takes o n a (by omega), b_and _ _ (by omega) (by omega), if_neg (by omega), wr_succ a (by omega)]
        exact hk
theorem ker_g : Gives (fun k => pomaderef02_kernel.f k (ints (o.take n)) p s) (kerB n o s p) :=
  ker_l0 n o ok s p hs hpp n 0 (by omega) (fun j hj => by omega)
end
theorem all1 (n : Nat) (hn : n ≤ 12) : wrap64 (shl .i64 1 (n : Int) - 1) = ((2 ^ n - 1 : Nat) : Int) := by
  rw [shl1 n (by omega)]
  have h1 : 2 ^ n ≤ 2 ^ 12 := Nat.pow_le_pow_right (by decide) hn
  have h2 := Nat.two_pow_pos n
  unfold wrap64
  omega
theorem Is_g (n : Int) (l : List S43) (s : List Int) (hs : s.length < 1000000) : Gives (fun k => pomaderef02_Is.f k n l s) ((if ofE n l = 0 then isB n.toNat (townO l) s else false), ofE n l) := by
  have hT := Town_g n l
  by_cases he : ofE n l = 0
  · have hn := (ofE_ok he).1
    have ok := okt_of he
    rw [if_pos he] at hT
    rw [if_pos he, he]
    obtain ⟨m, rfl⟩ : ∃ m : Nat, n = m := ⟨n.toNat, by omega⟩
    rw [Int.toNat_natCast] at *
    have n12 := ok.n12
    have hS := Set_g m s n12 hs
    unfold isB
    by_cases ha : AscTo m s s.length
    · rw [if_pos ha] at hS
      rw [decide_eq_true ha, Bool.true_and]
      have hlt := setOf_lt m s s.length (Nat.le_refl _) ha
      rw [List.take_length] at hlt
      have h12 : (2 : Nat) ^ m ≤ 2 ^ 12 := Nat.pow_le_pow_right (by decide) n12
      have hK := ker_g m (townO l) ok (setOf s) (2 ^ m - 1) (by omega) (by omega)
      refine (hT.both hS).map2 hK fun k hk hk2 => ?_
      cases e1 : pomaderef02_Town.f k m l with
      | none => rw [e1] at hk; cases hk
      | some x =>
        cases e2 : pomaderef02_Set.f k m s with
        | none => simp only [e1, e2, Option.bind_some] at hk; cases hk
        | some y =>
          simp only [e1, e2, Option.bind_some, Option.map_some, Option.some.injEq, Prod.mk.injEq] at hk
          obtain ⟨rfl, rfl⟩ := hk
          simp only [pomaderef02_Is.f]
          rw [e1, Option.bind_some, if_pos rfl, e2, Option.bind_some, if_pos rfl, if_pos (by omega), all1 m n12]
          show (pomaderef02_kernel.f k (ints ((townO l).take (m : Int).toNat)) _ _).bind _ = _
          rw [Int.toNat_natCast, hk2]; rfl
    · rw [if_neg ha] at hS
      rw [decide_eq_false ha, Bool.false_and]
      refine hT.map2 hS fun k hk hk2 => ?_
      simp only [pomaderef02_Is.f]
      rw [hk, Option.bind_some, if_pos rfl, hk2, Option.bind_some, if_neg (by simp)]
  · rw [if_neg he] at hT
    rw [if_neg he]
    refine hT.map fun k hk => ?_
    simp only [pomaderef02_Is.f]
    rw [hk, Option.bind_some, if_neg he]
end Go.Proofs.Ytmobefgnkiboaaa.Im
