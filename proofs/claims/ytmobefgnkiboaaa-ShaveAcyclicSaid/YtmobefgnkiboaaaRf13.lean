/- Towns without a cycle: Round; one kernel; a ranking. -/
import Derived.Test.YtmobefgnkiboaaaRf12
namespace Go.Proofs.Ytmobefgnkiboaaa.Im
open Go.RowKit Go.Proofs.YtmobefgnkiboaaaW.PrintWords Go.Proofs.YtmobefgnkiboaaaW.PrintLast Go.Proofs.YtmobefgnkiboaaaW.PrintMore
set_option linter.unusedVariables false

/-- Each one's arcs lead to those behind it in the list. -/
inductive OrdOk (n : Nat) (o : List Nat) : List Nat → Prop
  | nil : OrdOk n o []
  | cons (a : Nat) (ord : List Nat) (h : OrdOk n o ord) (ha : a < n) (hn : a ∉ ord) (hs : ∀ c, c < n → (o.getD a 0).testBit c = true → c ∈ ord) : OrdOk n o (a :: ord)
theorem sub_bit (x a : Nat) (hx : x < 4096) (h : x.testBit a = true) : 2 ^ a ≤ x ∧ ∀ c, (x - 2 ^ a).testBit c = (x.testBit c && decide (c ≠ a)) := by
  have e : x = (x ^^^ 2 ^ a) + 2 ^ a := by
    have hb : (BitVec.ofNat 64 (x ^^^ 2 ^ a)) &&& (BitVec.ofNat 64 (2 ^ a)) = 0#64 := by
      apply BitVec.eq_of_getLsbD_eq
      intro i hi
      rw [BitVec.getLsbD_and, BitVec.getLsbD_ofNat, BitVec.getLsbD_ofNat, Nat.testBit_xor, Nat.testBit_two_pow]
      by_cases hc : a = i
      · subst hc; simp [h]
      · simp [hc]
    have h1 := BitVec.add_eq_or_of_and_eq_zero _ _ hb
    have ha : a < 12 := by
      rcases Nat.lt_or_ge a 12 with h2 | h2
      · exact h2
      · rw [Nat.testBit_lt_two_pow (Nat.lt_of_lt_of_le hx (Nat.pow_le_pow_right (by decide) h2 : 2 ^ 12 ≤ 2 ^ a))] at h; cases h
    have hp : 2 ^ a < 2 ^ 12 := Nat.pow_lt_pow_right (by decide) ha
    have hxl : x ^^^ 2 ^ a < 2 ^ 12 := Nat.xor_lt_two_pow hx hp
    have h2 := congrArg BitVec.toNat h1
    rw [BitVec.toNat_add, BitVec.toNat_or, BitVec.toNat_ofNat, BitVec.toNat_ofNat, Nat.mod_eq_of_lt (by omega : x ^^^ 2 ^ a < 2 ^ 64), Nat.mod_eq_of_lt (by omega : 2 ^ a < 2 ^ 64), Nat.mod_eq_of_lt (by omega)] at h2
    rw [h2]
    apply Nat.eq_of_testBit_eq
    intro i
    rw [Nat.testBit_or, Nat.testBit_xor, Nat.testBit_two_pow]
    by_cases hc : a = i
    · subst hc; simp [h]
    · simp [hc]
  refine ⟨by omega, fun c => ?_⟩
  have e2 : x - 2 ^ a = x ^^^ 2 ^ a := by omega
  rw [e2, Nat.testBit_xor, Nat.testBit_two_pow]
  by_cases hc : a = c
  · subst hc; simp [h]
  · have : c ≠ a := fun e => hc e.symm
    simp [hc, this]
section
variable (n : Nat) (o : List Nat) (ok : Okt n o)
def LeftOk (n : Nat) (o : List Nat) (left : Nat) : Prop := left < 2 ^ n ∧ ∃ ord, OrdOk n o ord ∧ ∀ c, c < n → (left.testBit c = false ↔ c ∈ ord)
def RoundPost (n : Nat) (o : List Nat) (B : Bool) : Prop := B = false → ∃ ord, OrdOk n o ord ∧ ∀ c, c < n → c ∈ ord
include ok
theorem round_pass (left0 : Nat) (H : ∀ left, left < left0 → LeftOk n o left → ∃ B, Gives (fun k => pomaderef02_Round.l0 k n (ints (o.take n)) left true) B ∧ RoundPost n o B) :
    ∀ (d a left : Nat) (ag : Bool), a + d = n → LeftOk n o left → left ≤ left0 → (ag = true → left < left0) → ∃ B, Gives (fun k => pomaderef02_Round.l1 k n (ints (o.take n)) left ag a) B ∧ RoundPost n o B
  | 0, a, left, ag, h, hl, hle, hag => by
    obtain ⟨hlt, ord, ho1, ho2⟩ := hl
    cases ag
    · refine ⟨left != 0, Gives.step (f := fun k => pomaderef02_Round.l0 k n (ints (o.take n)) left false) (r := (left != 0)) (Gives.now fun k => ?_) fun k hk => ?_, fun hB => ⟨ord, ho1, fun c hc => ?_⟩⟩
      · simp only [pomaderef02_Round.l0]
        rw [if_neg (by simp)]
        congr 1
        by_cases h0 : left = 0
        · subst h0; rfl
        · rw [bne_iff_ne.2 h0, bne_iff_ne.2 (by omega)]
      · simp only [pomaderef02_Round.l1]
        rw [if_neg (by omega)]
        exact hk
      · have : left = 0 := by simpa using hB
        rw [← ho2 c hc, this, Nat.zero_testBit]
    · obtain ⟨B, hB, hP⟩ := H left (hag rfl) ⟨hlt, ord, ho1, ho2⟩
      refine ⟨B, hB.step fun k hk => ?_, hP⟩
      simp only [pomaderef02_Round.l1]
      rw [if_neg (by omega)]
      exact hk
  | d + 1, a, left, ag, h, hl, hle, hag => by
    have hTl := takes_len ok
    have n12 := ok.n12
    have h12 : (2 : Nat) ^ n ≤ 2 ^ 12 := Nat.pow_le_pow_right (by decide) n12
    obtain ⟨hlt, ord, ho1, ho2⟩ := hl
    have hoa := ok.lt12 a
    by_cases hb : left.testBit a = true
    · by_cases h0 : o.getD a 0 &&& left = 0
      · obtain ⟨hge, hbit⟩ := sub_bit left a (by omega) hb
        have hp := Nat.two_pow_pos a
        have hl2 : LeftOk n o (left - 2 ^ a) := by
          refine ⟨by omega, a :: ord, OrdOk.cons a ord ho1 (by omega) (fun hm => ?_) (fun c hc hcb => ?_), fun c hc => ?_⟩
          · rw [← ho2 a (by omega), hb] at hm; cases hm
          · rw [← ho2 c hc]
            cases hlc : left.testBit c with
            | false => rfl
            | true => exact absurd ⟨hcb, hlc⟩ ((land_zero _ _).1 h0 c)
          · rw [hbit c, List.mem_cons, ← ho2 c hc]
            by_cases hca : c = a
            · simp [hca]
            · simp [hca]
        obtain ⟨B, hB, hP⟩ := round_pass left0 H d (a + 1) (left - 2 ^ a) true (by omega) hl2 (by omega) (fun _ => by omega)
        refine ⟨B, hB.step fun k hk => ?_, hP⟩
        have ew : wrap64 ((left : Int) - shl .i64 1 (a : Int)) = ((left - 2 ^ a : Nat) : Int) := by
          rw [shl1 a (by omega)]
          unfold wrap64
          omega
        simp only [pomaderef02_Round.l1]
        rw [if_pos (by omega), if_pos (by omega), if_pos ((tbit1 _ _ (by omega)).2 hb), if_pos (by omega), rd_takes o n a (by omega), b_and _ _ (by omega) (by omega), if_pos (by omega), wr_succ a (by omega), ew]
        exact hk
      · obtain ⟨B, hB, hP⟩ := round_pass left0 H d (a + 1) left ag (by omega) ⟨hlt, ord, ho1, ho2⟩ hle hag
        refine ⟨B, hB.step fun k hk => ?_, hP⟩
        simp only [pomaderef02_Round.l1]
        rw [if_pos (by omega), if_pos (by omega), if_pos ((tbit1 _ _ (by omega)).2 hb), if_pos (by omega), rd_takes o n a (by omega), b_and _ _ (by omega) (by omega), if_neg (by omega), wr_succ a (by omega)]
        exact hk
    · obtain ⟨B, hB, hP⟩ := round_pass left0 H d (a + 1) left ag (by omega) ⟨hlt, ord, ho1, ho2⟩ hle hag
      refine ⟨B, hB.step fun k hk => ?_, hP⟩
      simp only [pomaderef02_Round.l1]
      rw [if_pos (by omega), if_pos (by omega), if_neg (fun e => hb ((tbit1 _ _ (by omega)).1 e)), wr_succ a (by omega)]
      exact hk
theorem round_l0 : ∀ (m left : Nat), left ≤ m → LeftOk n o left → ∃ B, Gives (fun k => pomaderef02_Round.l0 k n (ints (o.take n)) left true) B ∧ RoundPost n o B := by
  intro m
  induction m with
  | zero =>
    intro left hm hl
    obtain ⟨B, hB, hP⟩ := round_pass n o ok left (fun left' h _ => by omega) n 0 left false (by omega) hl (Nat.le_refl _) (fun e => by cases e)
    refine ⟨B, hB.step fun k hk => ?_, hP⟩
    simp only [pomaderef02_Round.l0]
    rw [if_pos trivial]; exact hk
  | succ m ih =>
    intro left hm hl
    obtain ⟨B, hB, hP⟩ := round_pass n o ok left (fun left' h hl' => ih left' (by omega) hl') n 0 left false (by omega) hl (Nat.le_refl _) (fun e => by cases e)
    refine ⟨B, hB.step fun k hk => ?_, hP⟩
    simp only [pomaderef02_Round.l0]
    rw [if_pos trivial]; exact hk
end
theorem Round_g (n : Int) (l : List S43) (he : ofE n l = 0) : ∃ B, Gives (fun k => pomaderef02_Round.f k n l) B ∧ RoundPost n.toNat (townO l) B := by
  have hT := Town_g n l
  have hn := (ofE_ok he).1
  have ok := okt_of he
  rw [if_pos he] at hT
  obtain ⟨m, rfl⟩ : ∃ m : Nat, n = m := ⟨n.toNat, by omega⟩
  rw [Int.toNat_natCast] at *
  have hp := Nat.two_pow_pos m
  obtain ⟨B, hB, hP⟩ := round_l0 m (townO l) ok (2 ^ m - 1) (2 ^ m - 1) (Nat.le_refl _) ⟨by omega, [], OrdOk.nil, fun c hc => by rw [Nat.testBit_two_pow_sub_one]; simp [hc]⟩
  refine ⟨B, hT.map2 hB fun k hk hk2 => ?_, hP⟩
  simp only [pomaderef02_Round.f]
  rw [hk, Option.bind_some, if_pos rfl, if_pos (by omega), all1 m ok.n12]
  exact hk2

/-! ### One kernel, and a ranking -/
theorem ord_same {n : Nat} {o : List Nat} {s t : Nat} (hs : kerB n o s (2 ^ n - 1) = true) (ht : kerB n o t (2 ^ n - 1) = true) (hs2 : s < 2 ^ n) (ht2 : t < 2 ^ n) : ∀ {ord : List Nat}, OrdOk n o ord → ∀ c ∈ ord, s.testBit c = t.testBit c
  | _, .nil => fun c hc => by cases hc
  | _, .cons a ord h ha hn hsx => by
    have ih := ord_same hs ht hs2 ht2 h
    intro c hc
    rcases List.mem_cons.1 hc with rfl | hc
    · have key : o.getD c 0 &&& s = 0 ↔ o.getD c 0 &&& t = 0 := by
        rw [land_zero, land_zero]
        constructor
        · rintro h1 i ⟨h2, h3⟩
          rcases Nat.lt_or_ge i n with h4 | h4
          · exact h1 i ⟨h2, by rw [ih i (hsx i h4 h2)]; exact h3⟩
          · rw [Nat.testBit_lt_two_pow (Nat.lt_of_lt_of_le ht2 (Nat.pow_le_pow_right (by decide) h4))] at h3; cases h3
        · rintro h1 i ⟨h2, h3⟩
          rcases Nat.lt_or_ge i n with h4 | h4
          · exact h1 i ⟨h2, by rw [← ih i (hsx i h4 h2)]; exact h3⟩
          · rw [Nat.testBit_lt_two_pow (Nat.lt_of_lt_of_le hs2 (Nat.pow_le_pow_right (by decide) h4))] at h3; cases h3
      have h1 := (kerB_iff n o s).1 hs c ha
      have h2 := (kerB_iff n o t).1 ht c ha
      cases e1 : s.testBit c <;> cases e2 : t.testBit c
      · rfl
      · exact absurd (key.2 (h2.1 e2)) (h1.2 e1)
      · exact absurd (key.1 (h1.1 e1)) (h2.2 e2)
      · rfl
    · exact ih c hc
theorem ord_rank {n : Nat} {o : List Nat} : ∀ {ord : List Nat}, OrdOk n o ord → ∃ r : Nat → Nat, ∀ a ∈ ord, r a ≤ n ∧ (∀ y, y < r a → ∃ c, c < n ∧ (o.getD a 0).testBit c = true ∧ r c = y) ∧ ¬ ∃ c, c < n ∧ (o.getD a 0).testBit c = true ∧ r c = r a
  | _, .nil => ⟨fun _ => 0, fun a ha => by cases ha⟩
  | _, .cons a ord h ha hn hsx => by
    obtain ⟨r, hr⟩ := ord_rank h
    obtain ⟨M, h1, h2, h3⟩ := least_ex (fun y => ∃ c, c < n ∧ (o.getD a 0).testBit c = true ∧ r c = y) n (fun x hx => by
      have := nodup_len (l1 := List.range x) (l2 := (List.range n).map r) List.nodup_range (fun y hy => by
        obtain ⟨c, hc, _, he⟩ := hx y (List.mem_range.1 hy)
        exact List.mem_map.2 ⟨c, List.mem_range.2 hc, he⟩)
      simpa using this)
    have same : ∀ b ∈ ord, ∀ c, c < n → (o.getD b 0).testBit c = true → c ≠ a := by
      intro b hb c hc hbc hca
      subst hca
      suffices H : ∀ {ord : List Nat}, OrdOk n o ord → b ∈ ord → c ∈ ord from hn (H h hb)
      intro ord' h'
      induction h' with
      | nil => intro hb'; cases hb'
      | cons a' ord' h1' ha' hn' hs' ih' =>
        intro hb'
        rcases List.mem_cons.1 hb' with rfl | hb'
        · exact List.mem_cons_of_mem _ (hs' c hc hbc)
        · exact List.mem_cons_of_mem _ (ih' hb')
    refine ⟨fun x => if x = a then M else r x, fun b hb => ?_⟩
    have hra : ∀ c, c ≠ a → (if c = a then M else r c) = r c := fun c hc => if_neg hc
    rcases List.mem_cons.1 hb with rfl | hb
    · have nb : ∀ c, c < n → (o.getD b 0).testBit c = true → c ≠ b := fun c hc hbc e => hn (e ▸ hsx c hc hbc)
      simp only [if_true]
      refine ⟨h3, fun y hy => ?_, ?_⟩
      · obtain ⟨c, hc, hb1, he⟩ := h1 y hy
        exact ⟨c, hc, hb1, by rw [hra c (nb c hc hb1)]; exact he⟩
      · rintro ⟨c, hc, hb1, he⟩
        rw [hra c (nb c hc hb1)] at he
        exact h2 ⟨c, hc, hb1, he⟩
    · have hba : b ≠ a := fun e => hn (e ▸ hb)
      obtain ⟨q1, q2, q3⟩ := hr b hb
      simp only [if_neg hba]
      refine ⟨q1, fun y hy => ?_, ?_⟩
      · obtain ⟨c, hc, hb1, he⟩ := q2 y hy
        exact ⟨c, hc, hb1, by rw [hra c (same b hb c hc hb1)]; exact he⟩
      · rintro ⟨c, hc, hb1, he⟩
        rw [hra c (same b hb c hc hb1)] at he
        exact q3 ⟨c, hc, hb1, he⟩
end Go.Proofs.Ytmobefgnkiboaaa.Im
