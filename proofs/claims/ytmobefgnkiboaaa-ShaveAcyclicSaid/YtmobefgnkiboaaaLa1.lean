/- The law ShaveRanks. -/
import Derived.Test.YtmobefgnkiboaaaLw0
namespace Go.Proofs.Ytmobefgnkiboaaa.Im
open Go.RowKit Go.Proofs.YtmobefgnkiboaaaW.PrintWords Go.Proofs.YtmobefgnkiboaaaW.PrintLast Go.Proofs.YtmobefgnkiboaaaW.PrintMore
set_option linter.unusedVariables false

theorem rankF_len (o : List Nat) : ∀ (d : Nat) (ranks r : List Nat), rankF o d ranks = some r → r.length = ranks.length + d
  | 0, ranks, r, h => by
    rw [rankF] at h
    split at h
    · cases h; rfl
    · cases h
  | d + 1, ranks, r, h => by
    rw [rankF] at h
    obtain ⟨x, hx⟩ := List.exists_of_findSome?_eq_some h
    obtain ⟨_, h1⟩ := hx
    split at h1
    · have := rankF_len o d _ r h1
      rw [this, List.length_append]
      simp; omega
    · cases h1

set_option maxHeartbeats 3200000 in
set_option maxRecDepth 100000 in
theorem law1_any (n : Int) (A : Option Addr) (c : Nat) (l : List S43) (w : World) (hr : Kd.C k43 w A l.length l) (hc : l.length ≤ c) :
    Calls Try.prog 3 #[.int .i64 n, .slice A l.length c] w fun e w' => e = .returned (.bool true) ∧ Below w.heap.size w w' := by
  have HF := Aside0.mk (few_nil A c l w hr hc)
  have HR := Aside0.mk hr
  clear hr
  by_cases hl : l.length ≤ 150
  · rw [decide_eq_true hl] at HF
    by_cases hn : 7 < n ∧ n ≤ 12
    · have t1 : decide (7 < n) = true := decide_eq_true hn.1
      have t2 : decide (n ≤ 12) = true := decide_eq_true hn.2
      clear hl hn
      go_enter Try.func3, Try.ntmps3
      go_wp2_with fail
      refine HF.out.mono ?_
      rintro e w1 ⟨rfl, hb1⟩
      have HB1 := Aside0.mk hb1
      clear hb1
      go_wp2_with fail
      go_wp2_with fail
      refine (alive_any _).mono ?_
      rintro e w5 ⟨rfl, hb5⟩
      have HB5 := Aside0.mk (below_then HB1.out HB1.out.size hb5)
      clear hb5
      go_wp2_with fail
      go_ret
      exact ⟨rfl, HB5.out⟩
    by_cases h7 : 7 < n
    · have t1 : decide (7 < n) = true := decide_eq_true h7
      have t2 : decide (n ≤ 12) = false := decide_eq_false (by omega)
      have he : ofE n l = 2 := by unfold ofE; rw [if_pos (.inr (by omega))]
      have HX : Aside0 (outR n l (rankF (townO l) n.toNat []) = none) := ⟨by unfold outR; rw [he]; rfl⟩
      clear hl hn he
      go_enter Try.func3, Try.ntmps3
      go_wp2_with fail
      refine HF.out.mono ?_
      rintro e w1 ⟨rfl, hb1⟩
      have HB1 := Aside0.mk hb1
      have HR1 := Aside0.mk (Kd.C_below HR.out hb1)
      clear hb1
      go_wp2_with fail
      have h1 := (Ranks_any n A c l _ HR1.out hc).mono fun e w' h => outE_of h
      rw [HX.out] at h1
      refine h1.mono ?_
      rintro e w2 ⟨rfl, hb2⟩
      have HB2 := Aside0.mk (below_then HB1.out HB1.out.size hb2)
      have HR2 := Aside0.mk (Kd.C_below HR1.out hb2)
      clear hb2 h1 HB1 HR1
      go_wp2_with fail
      have h1 := (refRanks_any n A c l _ HR2.out hc).mono fun e w' h => outE_of h
      rw [HX.out] at h1
      refine h1.mono ?_
      rintro e w3 ⟨rfl, hb3⟩
      have HB3 := Aside0.mk (below_then HB2.out HB2.out.size hb3)
      clear hb3 h1 HB2 HR2
      have be : (outX n l == outX n l) = true := beq_self_eq_true _
      generalize outX n l = er at *
      go_wp2_with fail
      refine (same_any [] none none 0 0 _ (by decide) (nil_C _) (Nat.le_refl _) (nil_C _) (Nat.le_refl _)).mono ?_
      rintro e w4 ⟨rfl, hb4⟩
      have HB4 := Aside0.mk (below_then HB3.out HB3.out.size hb4)
      clear hb4
      go_wp2_with fail
      refine (alive_any _).mono ?_
      rintro e w5 ⟨rfl, hb5⟩
      have HB5 := Aside0.mk (below_then HB4.out HB4.out.size hb5)
      clear hb5
      go_wp2_with fail
      go_ret
      exact ⟨rfl, HB5.out⟩
    have t1 : decide (7 < n) = false := decide_eq_false h7
    obtain ⟨R, hR⟩ : ∃ R, outR n l (rankF (townO l) n.toNat []) = R := ⟨_, rfl⟩
    cases R with
    | none =>
      have HX := Aside0.mk hR
      clear hl hn hR
      go_enter Try.func3, Try.ntmps3
      go_wp2_with fail
      refine HF.out.mono ?_
      rintro e w1 ⟨rfl, hb1⟩
      have HB1 := Aside0.mk hb1
      have HR1 := Aside0.mk (Kd.C_below HR.out hb1)
      clear hb1
      go_wp2_with fail
      have h1 := (Ranks_any n A c l _ HR1.out hc).mono fun e w' h => outE_of h
      rw [HX.out] at h1
      refine h1.mono ?_
      rintro e w2 ⟨rfl, hb2⟩
      have HB2 := Aside0.mk (below_then HB1.out HB1.out.size hb2)
      have HR2 := Aside0.mk (Kd.C_below HR1.out hb2)
      clear hb2 h1 HB1 HR1
      go_wp2_with fail
      have h1 := (refRanks_any n A c l _ HR2.out hc).mono fun e w' h => outE_of h
      rw [HX.out] at h1
      refine h1.mono ?_
      rintro e w3 ⟨rfl, hb3⟩
      have HB3 := Aside0.mk (below_then HB2.out HB2.out.size hb3)
      clear hb3 h1 HB2 HR2
      have be : (outX n l == outX n l) = true := beq_self_eq_true _
      generalize outX n l = er at *
      go_wp2_with fail
      refine (same_any [] none none 0 0 _ (by decide) (nil_C _) (Nat.le_refl _) (nil_C _) (Nat.le_refl _)).mono ?_
      rintro e w4 ⟨rfl, hb4⟩
      have HB4 := Aside0.mk (below_then HB3.out HB3.out.size hb4)
      clear hb4
      go_wp2_with fail
      refine (alive_any _).mono ?_
      rintro e w5 ⟨rfl, hb5⟩
      have HB5 := Aside0.mk (below_then HB4.out HB4.out.size hb5)
      clear hb5
      go_wp2_with fail
      go_ret
      exact ⟨rfl, HB5.out⟩
    | some res =>
      have HX := Aside0.mk hR
      have HL : Aside0 ((ints res).length < 1000000) := ⟨by
        unfold outR at hR
        split at hR
        · have := rankF_len _ _ _ _ hR
          rw [ints_length, this]
          simp; omega
        · cases hR⟩
      clear hl hn hR
      go_enter Try.func3, Try.ntmps3
      go_wp2_with fail
      refine HF.out.mono ?_
      rintro e w1 ⟨rfl, hb1⟩
      have HB1 := Aside0.mk hb1
      have HR1 := Aside0.mk (Kd.C_below HR.out hb1)
      clear hb1
      go_wp2_with fail
      have h1 := (Ranks_any n A c l _ HR1.out hc).mono fun e w' h => outE_of h
      rw [HX.out] at h1
      refine h1.mono ?_
      rintro e w2 ⟨A2, c2, rfl, hc2, hC2, hb2⟩
      have HB2 := Aside0.mk (below_then HB1.out HB1.out.size hb2)
      have HR2 := Aside0.mk (Kd.C_below HR1.out hb2)
      have HC2 := Aside0.mk hC2
      clear hb2 h1 HB1 HR1 hC2
      go_wp2_with fail
      have h1 := (refRanks_any n A c l _ HR2.out hc).mono fun e w' h => outE_of h
      rw [HX.out] at h1
      refine h1.mono ?_
      rintro e w3 ⟨A3, c3, rfl, hc3, hC3, hb3⟩
      have HB3 := Aside0.mk (below_then HB2.out HB2.out.size hb3)
      have HD3 := Aside0.mk (Kd.C_below HC2.out hb3)
      have HC3 := Aside0.mk hC3
      clear hb3 h1 HB2 HR2 hC3 HC2
      go_wp2_with fail
      refine (same_any (ints res) (some A2) (some A3) c2 c3 _ HL.out HD3.out hc2 HC3.out hc3).mono ?_
      rintro e w4 ⟨rfl, hb4⟩
      have HB4 := Aside0.mk (below_then HB3.out HB3.out.size hb4)
      clear hb4
      go_wp2_with fail
      refine (alive_any _).mono ?_
      rintro e w5 ⟨rfl, hb5⟩
      have HB5 := Aside0.mk (below_then HB4.out HB4.out.size hb5)
      clear hb5
      go_wp2_with fail
      go_ret
      exact ⟨rfl, HB5.out⟩
  · rw [decide_eq_false hl] at HF
    clear hl
    go_enter Try.func3, Try.ntmps3
    go_wp2_with fail
    refine HF.out.mono ?_
    rintro e w1 ⟨rfl, hb1⟩
    have HB1 := Aside0.mk hb1
    clear hb1
    go_wp2_with fail
    go_wp2_with fail
    refine (alive_any _).mono ?_
    rintro e w5 ⟨rfl, hb5⟩
    have HB5 := Aside0.mk (below_then HB1.out HB1.out.size hb5)
    clear hb5
    go_wp2_with fail
    go_ret
    exact ⟨rfl, HB5.out⟩
end Go.Proofs.Ytmobefgnkiboaaa.Im
