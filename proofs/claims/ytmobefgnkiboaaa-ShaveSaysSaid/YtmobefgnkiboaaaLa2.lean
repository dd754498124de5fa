/- The law ShaveSays. -/
import Derived.Test.YtmobefgnkiboaaaRf5
namespace Go.Proofs.Ytmobefgnkiboaaa.Im
open Go.RowKit Go.Proofs.YtmobefgnkiboaaaW.PrintWords Go.Proofs.YtmobefgnkiboaaaW.PrintLast Go.Proofs.YtmobefgnkiboaaaW.PrintMore
set_option linter.unusedVariables false

def saysR (n : Int) (l : List S43) : Option (List ByteArray) := if ofE n l = 0 then (if 10 < n then none else sentAll n.toNat (townO l)) else none
def saysX (n : Int) (l : List S43) : Int := if ofE n l = 0 then 8 else ofE n l
def SaysE (w : World) (r : Option (List ByteArray)) (er : Int) (e : Ending) (w' : World) : Prop :=
  match r with
  | some l => ∃ A c, e = .returned (.tuple #[.slice A l.length c, .int .i64 0]) ∧ l.length ≤ c ∧ Kd.C Kd.string w' A l.length l ∧ Below w.heap.size w w'
  | none => ∃ A c, e = .returned (.tuple #[.slice A 0 c, .int .i64 er]) ∧ Below w.heap.size w w'
theorem says_prog (n : Int) (A : Option Addr) (c : Nat) (l : List S43) (w : World) (hr : Kd.C k43 w A l.length l) (hc : l.length ≤ c) :
    Calls Try.prog 19 #[.int .i64 n, .slice A l.length c] w (SaysE w (saysR n l) (saysX n l)) :=
  (Sentences_any n A c l w hr hc).mono fun e w' h => by
    unfold SentPost at h
    unfold saysR saysX
    by_cases he : ofE n l = 0
    · rw [if_pos he] at h
      rw [if_pos he, if_pos he]
      cases hx : (if 10 < n then none else sentAll n.toNat (townO l)) with
      | none => rw [hx] at h; exact ⟨none, 0, h.1, h.2⟩
      | some L =>
        rw [hx] at h
        obtain ⟨v, h1, h2, h3⟩ := h
        obtain ⟨A', c', rfl, hl, hC⟩ := Kd.R_reads h2
        exact ⟨A', c', h1, hl, hC, h3⟩
    · rw [if_neg he] at h
      rw [if_neg he, if_neg he]
      exact ⟨none, 0, h.1, h.2⟩
theorem says_ref (n : Int) (A : Option Addr) (c : Nat) (l : List S43) (w : World) (hr : Kd.C k43 w A l.length l) (hc : l.length ≤ c) :
    Calls Try.prog 20 #[.int .i64 n, .slice A l.length c] w (SaysE w (saysR n l) (saysX n l)) := by
  obtain ⟨k0, hk0⟩ := Sent_g n l
  have hk := hk0 k0 (Nat.le_refl _)
  unfold saysR saysX
  by_cases he : ofE n l = 0
  · simp only [if_pos he] at hk ⊢
    cases hx : (if 10 < n then none else sentAll n.toNat (townO l)) with
    | none =>
      rw [hx] at hk
      refine (pomaderef02_Sentences.calls k0 n A c l _ _ w hr hc hk).mono ?_
      rintro e w' ⟨v, rfl, h2, h3⟩
      obtain ⟨A', c', rfl, hl, hC⟩ := Kd.R_reads h2
      exact ⟨A', c', rfl, h3⟩
    | some L =>
      rw [hx] at hk
      refine (pomaderef02_Sentences.calls k0 n A c l _ _ w hr hc hk).mono ?_
      rintro e w' ⟨v, rfl, h2, h3⟩
      obtain ⟨A', c', rfl, hl, hC⟩ := Kd.R_reads h2
      exact ⟨A', c', rfl, hl, hC, h3⟩
  · simp only [if_neg he] at hk ⊢
    refine (pomaderef02_Sentences.calls k0 n A c l _ _ w hr hc hk).mono ?_
    rintro e w' ⟨v, rfl, h2, h3⟩
    obtain ⟨A', c', rfl, hl, hC⟩ := Kd.R_reads h2
    exact ⟨A', c', rfl, h3⟩

set_option maxHeartbeats 3200000 in
set_option maxRecDepth 100000 in
theorem law2_any (n : Int) (A : Option Addr) (c : Nat) (l : List S43) (w : World) (hr : Kd.C k43 w A l.length l) (hc : l.length ≤ c) :
    Calls Try.prog 4 #[.int .i64 n, .slice A l.length c] w fun e w' => e = .returned (.bool true) ∧ Below w.heap.size w w' := by
  have HF := Aside0.mk (few_nil A c l w hr hc)
  have HR := Aside0.mk hr
  clear hr
  by_cases hl : l.length ≤ 150
  · rw [decide_eq_true hl] at HF
    have HP := Aside0.mk (fun w h => says_prog n A c l w h hc)
    have HQ := Aside0.mk (fun w h => says_ref n A c l w h hc)
    have be : (saysX n l != saysX n l) = false := by simp
    generalize saysX n l = er at *
    generalize saysR n l = R at *
    clear hl
    go_enter Try.func4, Try.ntmps4
    go_wp2_with fail
    refine HF.out.mono ?_
    rintro e w1 ⟨rfl, hb1⟩
    have HB1 := Aside0.mk hb1
    have HR1 := Aside0.mk (Kd.C_below HR.out hb1)
    clear hb1
    go_wp2_with fail
    refine (HP.out _ HR1.out).mono ?_
    cases R with
    | none =>
      rintro e w2 ⟨A2, c2, rfl, hb2⟩
      have HB2 := Aside0.mk (below_then HB1.out HB1.out.size hb2)
      have HR2 := Aside0.mk (Kd.C_below HR1.out hb2)
      clear hb2
      go_wp2_with fail
      refine (HQ.out _ HR2.out).mono ?_
      rintro e w3 ⟨A3, c3, rfl, hb3⟩
      have HB3 := Aside0.mk (below_then HB2.out HB2.out.size hb3)
      clear hb3
      go_wp2_with fail
      go_loop [9] (fun v => v = .int .i64 0) (fun _ => 0)
      case atStart => rfl
      case round =>
        subst hrel
        go_wp2_with fail
        refine (alive_any _).mono ?_
        rintro e w4 ⟨rfl, hb4⟩
        have HB4 := Aside0.mk (below_then HB3.out HB3.out.size hb4)
        clear hb4
        go_wp2_with fail
        go_ret
        exact ⟨rfl, HB4.out⟩
    | some L =>
      rintro e w2 ⟨A2, c2, rfl, hl2, hC2, hb2⟩
      have HB2 := Aside0.mk (below_then HB1.out HB1.out.size hb2)
      have HR2 := Aside0.mk (Kd.C_below HR1.out hb2)
      have HC2 := Aside0.mk hC2
      clear hb2 hC2
      go_wp2_with fail
      refine (HQ.out _ HR2.out).mono ?_
      rintro e w3 ⟨A3, c3, rfl, hl3, hC3, hb3⟩
      have HB3 := Aside0.mk (below_then HB2.out HB2.out.size hb3)
      have HC3 := Aside0.mk hC3
      have HD3 := Aside0.mk (Kd.C_below HC2.out hb3)
      clear hb3 hC3
      go_wp2_with fail
      go_loopw [9] (fun v wr => ∃ k : Nat, k ≤ L.length ∧ v = .int .i64 (k : Int) ∧ Aside0 (Below w3.heap.size w3 wr)) (fun v _ => L.length - (intOf v).toNat)
      case atStart => exact ⟨0, Nat.zero_le _, rfl, ⟨Below.refl _ _⟩⟩
      case round =>
        obtain ⟨k, hk, rfl, HBr⟩ := hrel
        have hLL : L.length ≤ 9223372036854775807 := HC3.out.2.1
        by_cases hkl : k < L.length
        · obtain ⟨a2, rfl, x2⟩ := Kd.at_string (Kd.C_below HD3.out HBr.out) (k : Int) (by omega) (by omega)
          obtain ⟨a3, rfl, x3⟩ := Kd.at_string (Kd.C_below HC3.out HBr.out) (k : Int) (by omega) (by omega)
          rw [Int.toNat_natCast] at x2 x3
          have ew : wrap64 ((k : Int) + 1) = ((k + 1 : Nat) : Int) := by unfold wrap64; omega
          go_wp2_with fail
          go_quiet (fail)
          go_wp2_with fail
          go_roundw
          case rel => exact ⟨k + 1, by omega, by go_num, ⟨by repeat (first | exact HBr.out | apply below_drew | apply pw_below_drewN)⟩⟩
          case measure => simp [intOf]; omega
        · obtain rfl : k = L.length := by omega
          go_wp2_with fail
          refine (alive_any _).mono ?_
          rintro e w4 ⟨rfl, hb4⟩
          have HB4 := Aside0.mk (below_then HB3.out HB3.out.size (below_then HBr.out HBr.out.size hb4))
          clear hb4
          go_wp2_with fail
          go_ret
          exact ⟨rfl, HB4.out⟩
  · rw [decide_eq_false hl] at HF
    clear hl
    go_enter Try.func4, Try.ntmps4
    go_wp2_with fail
    refine HF.out.mono ?_
    rintro e w1 ⟨rfl, hb1⟩
    have HB1 := Aside0.mk hb1
    clear hb1
    go_wp2_with fail
    refine (alive_any _).mono ?_
    rintro e w2 ⟨rfl, hb2⟩
    have HB2 := Aside0.mk (below_then HB1.out HB1.out.size hb2)
    clear hb2
    go_wp2_with fail
    go_ret
    exact ⟨rfl, HB2.out⟩
end Go.Proofs.Ytmobefgnkiboaaa.Im
