/- In a town without a cycle there is one kernel: the people with the number 0. -/
import Derived.Test.YtmobefgnkiboaaaRf13
namespace Go.Proofs.Ytmobefgnkiboaaa.Im
open Go.RowKit Go.Proofs.YtmobefgnkiboaaaW.PrintWords Go.Proofs.YtmobefgnkiboaaaW.PrintLast Go.Proofs.YtmobefgnkiboaaaW.PrintMore
set_option linter.unusedVariables false

def Acyc (n : Nat) (o : List Nat) : Prop := ∃ ord, OrdOk n o ord ∧ ∀ c, c < n → c ∈ ord
theorem full_of_ord {n : Nat} {o : List Nat} (ok : Okt n o) (h : Acyc n o) : ∃ ranks, fullRk n o ranks := by
  obtain ⟨ord, h1, h2⟩ := h
  obtain ⟨r, hr⟩ := ord_rank h1
  have hg : ∀ a, a < n → ((List.range n).map r).getD a 0 = r a := fun a ha => by simp [List.getD_eq_getElem?_getD, ha]
  have hl : ((List.range n).map r).length = n := by simp
  have hle : ∀ x ∈ (List.range n).map r, x ≤ n := fun x hx => by
    obtain ⟨a, ha, rfl⟩ := List.mem_map.1 hx
    exact (hr a (h2 a (List.mem_range.1 ha))).1
  have key : ∀ (a y : Nat), thereX (o.getD a 0) ((List.range n).map r) y = true ↔ ∃ c, c < n ∧ (o.getD a 0).testBit c = true ∧ r c = y := fun a y => by
    rw [there_iff, hl]
    constructor
    · rintro ⟨c, hc, hb, he⟩; exact ⟨c, hc, hb, by rw [← hg c hc]; exact he⟩
    · rintro ⟨c, hc, hb, he⟩; exact ⟨c, hc, hb, by rw [hg c hc]; exact he⟩
  refine ⟨(List.range n).map r, hl, hle, (possB_iff _ _).2 fun a ha => ?_⟩
  rw [hl] at ha
  rw [posB_full ok hl hle a, hg a ha]
  obtain ⟨q1, q2, q3⟩ := hr a (h2 a ha)
  refine ⟨fun y hy => (key a y).2 (q2 y hy), ?_⟩
  rw [← Bool.not_eq_true, key]
  exact q3
theorem acyc_rank {n : Nat} {o : List Nat} (ok : Okt n o) (h : Acyc n o) : ∃ res, rankF o n [] = some res ∧ fullRk n o res := by
  obtain ⟨ranks, hf⟩ := full_of_ord ok h
  obtain ⟨s, hs, _⟩ := rankF_least ok n [] ranks hf (by simp)
  rw [List.nil_append] at hs
  exact ⟨s, hs, rankF_full ok n [] s (by simp) (by simp) hs⟩
theorem zeroL_mem (n : Nat) (res : List Nat) (i : Nat) : i ∈ zeroL n res ↔ i < n ∧ res.getD i 0 = 0 := by unfold zeroL; rw [List.mem_filter, List.mem_range, beq_iff_eq]
theorem acyc_ker {n : Nat} {o res : List Nat} (ok : Okt n o) (h : Acyc n o) (hf : fullRk n o res) :
    ∃ s, s < 2 ^ n ∧ kerB n o s (2 ^ n - 1) = true ∧ memL s = zeroL n res ∧ ∀ t, t < 2 ^ n → kerB n o t (2 ^ n - 1) = true → t = s := by
  obtain ⟨ord, h1, h2⟩ := h
  have hz := zero_ker ok hf
  unfold isB at hz
  rw [Bool.and_eq_true, decide_eq_true_eq] at hz
  have hlt := setOf_lt n (ints (zeroL n res)) (ints (zeroL n res)).length (Nat.le_refl _) hz.1
  rw [List.take_length] at hlt
  refine ⟨setOf (ints (zeroL n res)), hlt, hz.2, ?_, fun t ht hk => ?_⟩
  · refine sorted_ext (memL_sorted _) (List.pairwise_lt_range.filter _) (fun x => ?_)
    show _ ↔ x ∈ zeroL n res
    rw [memL_mem, setOf_bit, decide_eq_true_eq]
    have n12 := ok.n12
    constructor
    · rintro ⟨_, h⟩; exact h
    · intro h; exact ⟨by have := ((zeroL_mem n res x).1 h).1; omega, h⟩
  · apply Nat.eq_of_testBit_eq
    intro i
    rcases Nat.lt_or_ge i n with h3 | h3
    · exact ord_same hk hz.2 ht hlt h1 i (h2 i h3)
    · rw [Nat.testBit_lt_two_pow (Nat.lt_of_lt_of_le ht (Nat.pow_le_pow_right (by decide) h3)), Nat.testBit_lt_two_pow (Nat.lt_of_lt_of_le hlt (Nat.pow_le_pow_right (by decide) h3))]
theorem acyc_all {n : Int} {l : List S43} (he : ofE n l = 0) (h : Acyc n.toNat (townO l)) :
    ∃ res, rankF (townO l) n.toNat [] = some res ∧ fullRk n.toNat (townO l) res ∧ kerO n l = some (zeroL n.toNat res) ∧ manyK n.toNat (townO l) (2 ^ n.toNat) = 1 := by
  have ok := okt_of he
  obtain ⟨res, h1, hf⟩ := acyc_rank ok h
  obtain ⟨s, s1, s2, s3, s4⟩ := acyc_ker ok h hf
  refine ⟨res, h1, hf, ?_, ?_⟩
  · unfold kerO
    obtain ⟨p1, p2⟩ := firstS_spec (fun s => kerB n.toNat (townO l) s (2 ^ n.toNat - 1)) n.toNat ok.n12 (kerB_zero _ ok.n1)
    cases hfs : firstS (fun s => kerB n.toNat (townO l) s (2 ^ n.toNat - 1)) n.toNat with
    | none => have := p2 hfs s s1; rw [s2] at this; cases this
    | some t =>
      obtain ⟨q1, q2, _⟩ := p1 t hfs
      rw [s4 t q1 q2, Option.map_some, s3]
  · unfold manyK
    have : (List.range (2 ^ n.toNat)).filter (fun s => kerB n.toNat (townO l) s (2 ^ n.toNat - 1)) = [s] := by
      refine sorted_ext (List.pairwise_lt_range.filter _) (List.pairwise_singleton _ _) (fun x => ?_)
      rw [List.mem_filter, List.mem_range, List.mem_singleton]
      constructor
      · rintro ⟨h1, h2⟩; exact s4 x h1 h2
      · rintro rfl; exact ⟨s1, s2⟩
    rw [this]; rfl
end Go.Proofs.Ytmobefgnkiboaaa.Im
