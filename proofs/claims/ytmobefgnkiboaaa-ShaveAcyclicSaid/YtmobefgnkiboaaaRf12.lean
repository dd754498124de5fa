/- Kernel: the program and the specification answer alike. -/
import Derived.Test.YtmobefgnkiboaaaRf11
namespace Go.Proofs.Ytmobefgnkiboaaa.Im
open Go.RowKit Go.Proofs.YtmobefgnkiboaaaW.PrintWords Go.Proofs.YtmobefgnkiboaaaW.PrintLast Go.Proofs.YtmobefgnkiboaaaW.PrintMore
set_option linter.unusedVariables false

/-- A list and an error; with an error the list is empty. -/
def OutO (r : List Nat) (er : Int) (w : World) (e : Ending) (w' : World) : Prop :=
  ∃ A c, e = .returned (.tuple #[.slice A r.length c, .int .i64 er]) ∧ r.length ≤ c ∧ Kd.C (Kd.int .i64) w' A r.length (ints r) ∧ Below w.heap.size w w'
def listF (n : Int) (l : List S43) (x : Option (List Nat)) : List Nat := if ofE n l = 0 then x.getD [] else []
def errF (n : Int) (l : List S43) (x : Option (List Nat)) : Int := if ofE n l = 0 then (if x.isSome then 0 else 10) else ofE n l
theorem outO_nil (er : Int) (w w' : World) (h : Below w.heap.size w w') : OutO [] er w (.returned (.tuple #[.slice none 0 0, .int .i64 er])) w' :=
  ⟨none, 0, rfl, Nat.le_refl _, C_nil w', h⟩
theorem outO_of {n : Int} {l : List S43} {w : World} {x : Option (List Nat)} {e : Ending} {w' : World}
    (h : if ofE n l = 0 then FoundE w x e w' else e = .returned (.tuple #[.slice none 0 0, .int .i64 (ofE n l)]) ∧ Below w.heap.size w w') : OutO (listF n l x) (errF n l x) w e w' := by
  unfold listF errF
  by_cases he : ofE n l = 0
  · rw [if_pos he] at h
    rw [if_pos he, if_pos he]
    cases x with
    | none => obtain ⟨rfl, h2⟩ := h; exact outO_nil _ _ _ h2
    | some r =>
      obtain ⟨A, c, rfl, h2, h3, h4⟩ := h
      rw [ints_length] at h2 h3 ⊢
      exact ⟨some A, c, rfl, h2, h3, h4⟩
  · rw [if_neg he] at h
    rw [if_neg he, if_neg he]
    obtain ⟨rfl, h2⟩ := h; exact outO_nil _ _ _ h2
theorem outO_first {n : Int} {l : List S43} {w : World} {x : Option Nat} {e : Ending} {w' : World}
    (h : if ofE n l = 0 then FirstR w x e w' else e = .returned (.tuple #[.slice none 0 0, .int .i64 (ofE n l)]) ∧ Below w.heap.size w w') : OutO (listF n l (x.map memL)) (errF n l (x.map memL)) w e w' := by
  unfold listF errF
  by_cases he : ofE n l = 0
  · rw [if_pos he] at h
    rw [if_pos he, if_pos he]
    cases x with
    | none => obtain ⟨rfl, h2⟩ := h; exact outO_nil _ _ _ h2
    | some r =>
      obtain ⟨v, rfl, h2, h3⟩ := h
      obtain ⟨A, c, rfl, h4, h5⟩ := Kd.R_reads h2
      rw [ints_length] at h4 h5 ⊢
      exact ⟨A, c, rfl, h4, h5, h3⟩
  · rw [if_neg he] at h
    rw [if_neg he, if_neg he]
    obtain ⟨rfl, h2⟩ := h; exact outO_nil _ _ _ h2
theorem kerB_zero {n : Nat} (o : List Nat) (h : 1 ≤ n) : kerB n o 0 (2 ^ n - 1) = false := by
  cases hb : kerB n o 0 (2 ^ n - 1) with
  | false => rfl
  | true =>
    have := ((kerB_iff n o 0).1 hb 0 (by omega)).2 (Nat.zero_testBit 0)
    simp at this
def kerO (n : Int) (l : List S43) : Option (List Nat) := (firstS (fun s => kerB n.toNat (townO l) s (2 ^ n.toNat - 1)) n.toNat).map memL
theorem progKernel_any (n : Int) (A : Option Addr) (c : Nat) (l : List S43) (w : World) (hr : Kd.C k43 w A l.length l) (hc : l.length ≤ c) :
    Calls Try.prog 23 #[.int .i64 n, .slice A l.length c] w (OutO (listF n l (kerO n l)) (errF n l (kerO n l)) w) :=
  (Kernel_any n A c l w hr hc).mono fun e w' h => outO_first h
theorem kerO_eq {n : Int} {l : List S43} (he : ofE n l = 0) : kerO n l = (bestS (kernL n.toNat (townO l) (2 ^ n.toNat - 1))).map memL := by
  have ok := okt_of he
  unfold kerO
  rw [first_eq _ _ ok.n12 (kerB_zero _ ok.n1), kernL_full]

set_option maxHeartbeats 3200000 in
set_option maxRecDepth 100000 in
theorem refKernel_any (n : Int) (A : Option Addr) (c : Nat) (l : List S43) (w : World) (hr : Kd.C k43 w A l.length l) (hc : l.length ≤ c) :
    Calls Try.prog 34 #[.int .i64 n, .slice A l.length c] w (OutO (listF n l (kerO n l)) (errF n l (kerO n l)) w) := by
  have HT := Aside0.mk (Town_any n A c l w hr hc)
  unfold TownPost at HT
  unfold listF errF
  by_cases he : ofE n l = 0
  · simp only [if_pos he] at HT ⊢
    rw [kerO_eq he]
    have ok := okt_of he
    have HK := Aside0.mk ok
    have hnn := (ofE_ok he).1
    unfold townL at HT
    generalize townO l = o at *
    clear he hr
    obtain ⟨m, rfl⟩ : ∃ m : Nat, n = m := ⟨n.toNat, by omega⟩
    rw [Int.toNat_natCast] at *
    have n12 := ok.n12
    have h12 : (2 : Nat) ^ m ≤ 2 ^ 12 := Nat.pow_le_pow_right (by decide) n12
    have hp2 := Nat.two_pow_pos m
    have ew : wrap64 (wrap64 (2 ^ m) - 1) = ((2 ^ m - 1 : Nat) : Int) := by
      rw [wr_pow m (by omega), show ((2 ^ m : Nat) : Int) - 1 = ((2 ^ m - 1 : Nat) : Int) by omega, wr62' _ (by omega)]
    have hS : ∀ s ∈ kernL m o (2 ^ m - 1), s < 4096 ∧ 0 < s := fun s hs => by
      rw [kernL_full, List.mem_filter, List.mem_range] at hs
      refine ⟨by omega, ?_⟩
      rcases Nat.eq_zero_or_pos s with h | h
      · rw [h, kerB_zero o ok.n1] at hs; simp at hs
      · exact h
    have hSl : (kernL m o (2 ^ m - 1)).length ≤ 4096 := by
      rw [kernL_full]
      have := List.length_filter_le (fun s => kerB m o s (2 ^ m - 1)) (List.range (2 ^ m))
      rw [List.length_range] at this
      omega
    have hpl : 2 ^ m - 1 < 4096 := by omega
    have HC := Aside0.mk (fun (A : Option Addr) (c : Nat) (w : World) h1 h2 => kernelsC_any m o (2 ^ m - 1) A c w ok hpl h1 h2)
    generalize kernL m o (2 ^ m - 1) = K at *
    have H64 := Aside0.mk (fun (A : Option Addr) (c : Nat) (w : World) h1 h2 => first64_any K hS A c w h1 h2 (by omega))
    have HBk : Aside0 (K ≠ [] → ∃ t, bestS K = some t) := ⟨fun hne => by
      cases hb : bestS K with
      | some t => exact ⟨t, rfl⟩
      | none => exact absurd ((best_spec K none).2 hb).1 hne⟩
    generalize 2 ^ m - 1 = p at *
    clear ok hS hp2
    cases K with
    | nil =>
      rw [show bestS [] = none from rfl]
      simp only [Option.map_none, Option.getD_none, Option.isSome_none, Bool.false_eq_true, if_false]
      go_enter Try.func34, Try.ntmps34
      go_wp2_with fail
      refine HT.out.mono ?_
      rintro e w1 ⟨A1, c1, rfl, hc1, hC1, hb1⟩
      have HB1 := Aside0.mk hb1
      have HC1 := Aside0.mk hC1
      clear hb1 hC1
      go_wp2_with fail
      refine (HC.out _ _ _ HC1.out hc1).mono ?_
      rintro e w2 ⟨A2, c2, rfl, hc2, hC2, hb2⟩
      have HB2 := Aside0.mk (below_then HB1.out HB1.out.size hb2)
      have HC2 := Aside0.mk hC2
      clear hb2 hC2
      go_wp2_with fail
      go_ret2
      exact outO_nil _ _ _ HB2.out
    | cons k0 K0 =>
      obtain ⟨t, ht⟩ := HBk.out (by simp)
      have hKl : (k0 :: K0).length = K0.length + 1 := rfl
      rw [ht] at H64 ⊢
      generalize k0 :: K0 = K at *
      simp only [Option.map_some, Option.getD_some, Option.isSome_some, if_true] at H64 ⊢
      generalize memL t = M at *
      have kne : ((K.length : Int) == 0) = false := beq_eq_false_iff_ne.2 (by omega)
      clear ht HBk hKl
      go_enter Try.func34, Try.ntmps34
      go_wp2_with fail
      refine HT.out.mono ?_
      rintro e w1 ⟨A1, c1, rfl, hc1, hC1, hb1⟩
      have HB1 := Aside0.mk hb1
      have HC1 := Aside0.mk hC1
      clear hb1 hC1
      go_wp2_with fail
      refine (HC.out _ _ _ HC1.out hc1).mono ?_
      rintro e w2 ⟨A2, c2, rfl, hc2, hC2, hb2⟩
      have HB2 := Aside0.mk (below_then HB1.out HB1.out.size hb2)
      have HC2 := Aside0.mk hC2
      clear hb2 hC2
      go_wp2_with fail
      refine (H64.out _ _ _ HC2.out hc2).mono ?_
      rintro e w3 ⟨A3, c3, rfl, hc3, hC3, hb3⟩
      have HB3 := Aside0.mk (below_then HB2.out HB2.out.size hb3)
      rw [ints_length] at hc3 hC3 ⊢
      have HC3 := Aside0.mk hC3
      clear hb3 hC3
      go_wp2_with fail
      go_ret2
      exact ⟨some A3, c3, rfl, hc3, HC3.out, HB3.out⟩
  · simp only [if_neg he] at HT ⊢
    have hb : (ofE n l != 0) = true := bne_iff_ne.2 he
    clear he
    generalize ofE n l = er at *
    go_enter Try.func34, Try.ntmps34
    go_wp2_with fail
    refine HT.out.mono ?_
    rintro e w1 ⟨A1, c1, rfl, hb1⟩
    have HB1 := Aside0.mk hb1
    clear hb1
    go_wp2_with fail
    go_ret2
    exact outO_nil _ _ _ HB1.out
end Go.Proofs.Ytmobefgnkiboaaa.Im
