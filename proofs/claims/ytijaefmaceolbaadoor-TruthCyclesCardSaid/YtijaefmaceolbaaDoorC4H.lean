/- Further parts of the same walk: contracts of the functions that the law reaches, each under the conditions that it states. -/
import Derived.Test.YtijaefmaceolbaaDoorC4G
namespace Go.Proofs.YtijaefmaceolbaaDoor.Im
open Go.RowKit Go.Proofs.YtijaefmaceolbaaDoorW.PrintWords Go.Proofs.YtijaefmaceolbaaDoorW.PrintLast Go.Proofs.YtijaefmaceolbaaDoorW.PrintMore Go.Proofs.YtijaefmaceolbaaDoor.Tr
set_option linter.unusedVariables false
set_option linter.unusedSimpArgs false
theorem rcyc_any (n : Nat) (odd : Bool) (fs : List Fm) (n10 : n ≤ 10) (npos : 0 < n) (many : Nat) (m10 : many ≤ 10) : ∀ k, CycIH n odd fs many k
  | 0 => fun way can As cs A c w h1 hl hx hM hr hc => by
    obtain rfl : way.length = many := by omega
    exact rcyc_zero n odd fs n10 way can As cs A c w h1 m10 hx hM hr hc
  | k + 1 => fun way can As cs A c w h1 hl hx hM hr hc => by
    have := rcyc_step n odd fs n10 many k m10 (rcyc_any n odd fs n10 npos many m10 k) way can As cs A c w hl hx npos hM hr hc
    rw [ggC_cyc _ _ _ _ _ _ h1] at this
    exact this
theorem rcyc_top (n : Nat) (odd : Bool) (fs : List Fm) (n10 : n ≤ 10) (npos : 0 < n) (k : Nat) (m10 : k + 1 ≤ 10) (As : Option Addr) (cs : Nat) (w : World) (hM : Kd.C (Kd.slice 3 (Kd.int .i64)) w As n (sgL fs n)) :
    Calls Tryd.prog 59 #[.slice As n cs, .int .i64 ((k + 1 : Nat) : Int), .slice none 0 0, .int .i64 1, .int .i64 (wantI odd)] w (FoundP w (cycL (sgF fs) n odd (k + 1))) := by
  have := rcyc_step n odd fs n10 (k + 1) k m10 (rcyc_any n odd fs n10 npos (k + 1) m10 k) [] (true, false) As cs none 0 w (by simp) (fun x hx => by cases hx) npos hM (Kd.C_nil _ _) (Nat.le_refl _)
  rw [ggC_top] at this
  exact this
set_option maxHeartbeats 3200000 in
set_option maxRecDepth 100000 in
theorem rcycle_call (l : List (List UInt8)) (odd : Bool) (w : World) (A : Option Addr) (c : Nat) (hr : Kd.C Kd.string w A l.length (l.map strL)) :
    Calls Tryd.prog 19 #[.slice A l.length c, .bool odd] w (FoundE w (cycleO l odd)) := by
  have HSY := Aside0.mk (rsystem_call l w A c hr)
  by_cases h0 : sysE l = 0
  · have S := sys_ok h0
    have qn : ∀ (w : World) (a : Option Addr) (n c n' c' : Nat), (binOp .neq 25 (.slice a n c) (.slice none n' c')).run Tryd.prog w = .ok (.bool (!a.isNone)) w := fun w a n c n' c' => run_neq_slice_nil_any w _ _ a n c n' c' Tryd.underlying25
    rw [h0] at HSY
    have HSG := Aside0.mk (fun (w1 : World) (hC : Kd.C Kd.string w1 A l.length (l.map strL)) => signs_call l h0 w1 A c hC)
    obtain ⟨RR, hRR⟩ : ∃ RR, cycO (sgF (sysF l)) l.length odd = RR := ⟨_, rfl⟩
    have hcl : cycleO l odd = findO RR := by unfold cycleO; rw [if_pos h0, hRR]
    rw [hcl]
    have HRC := Aside0.mk hr
    generalize sysF l = fs at *
    generalize l.map strL = ls at *
    generalize l.length = n at *
    have n10 := S.n10
    have npos := S.pos
    have n0 : (0 : Int) ≤ (n : Int) := by omega
    have HTOP := Aside0.mk (fun (k : Nat) (h : k + 1 ≤ 10) (w1 : World) (As : Option Addr) (cs : Nat) hM => rcyc_top n odd fs n10 npos k h As cs w1 hM)
    obtain ⟨gg, hgg⟩ : ∃ gg : Nat → Option (List Nat), (fun k => cycL (sgF fs) n odd (k + 1)) = gg := ⟨_, rfl⟩
    have HGG := Aside0.mk (show ∀ k, cycL (sgF fs) n odd (k + 1) = gg k from fun k => by rw [← hgg])
    have hRR2 : (List.range n).findSome? gg = RR := by rw [← hRR, ← hgg]; rfl
    have HRR := Aside0.mk hRR2
    clear hr h0 hRR hcl hgg hRR2 S
    obtain ⟨wd, hwd⟩ : ∃ x, wantI odd = x := ⟨_, rfl⟩
    rw [hwd] at HTOP
    have hod : wd = if odd then 2 else 1 := hwd.symm
    clear hwd
    cases odd
    all_goals
      rw [hod] at HTOP
      simp only [if_true, if_false, Bool.false_eq_true] at HTOP
      clear hod
      go_enter Tryd.func19, Tryd.ntmps19
      go_wp2_with fail
      refine HSY.out.mono ?_
      rintro e w1 ⟨rfl, hb1⟩
      have HB1 := Aside0.mk hb1
      have HC1 := Aside0.mk (Kd.C_below HRC.out hb1)
      clear hb1
      go_wp2_with fail
      refine (HSG.out _ HC1.out).mono ?_
      rintro e w2 ⟨As, cs, rfl, hcs, hM, hb2⟩
      have HB2 := Aside0.mk (below_then HB1.out HB1.out.size hb2)
      have HM := Aside0.mk hM
      have HBW := Aside0.mk (Below.refl w2.heap.size w2)
      clear hb2 hM hcs
      go_wp2_with fail
      go_loopw [9] (fun v wr => ∃ k : Nat, k ≤ n ∧ v = .int .i64 ((k + 1 : Nat) : Int) ∧ Aside0 (noneTo (List.range n) gg k) ∧ Aside0 (Below w2.heap.size w2 wr)) (fun v _ => n + 1 - (intOf v).toNat)
      case atStart => exact ⟨0, by omega, rfl, ⟨noneTo_zero _ _⟩, HBW⟩
      case round =>
        clear HBW
        obtain ⟨k, hk, rfl, HN, HBW⟩ := hrel
        obtain ⟨k1, hk1⟩ : ∃ k1, k + 1 = k1 := ⟨_, rfl⟩
        rw [hk1]
        have k0 : (0 : Int) ≤ (k1 : Int) := by omega
        by_cases hkn : k < n
        · have hkd : decide ((k1 : Int) ≤ (n : Int)) = true := decide_eq_true (by omega)
          have hT := HTOP.out k (by omega) wr As cs (Kd.C_below HM.out HBW.out)
          have HNN := Aside0.mk (fun h => noneTo_succ HN.out (by rw [List.length_range]; exact hkn) h)
          have HNS := Aside0.mk (fun r h => (HRR.out.symm.trans (noneTo_some (r := r) HN.out (by rw [List.length_range]; exact hkn) h)))
          simp only [List.getElem_range] at HNN HNS
          rw [HGG.out k, hk1] at hT
          have HT := Aside0.mk hT
          have HKK := Aside0.mk hk1
          have hk1b : k1 ≤ n := by omega
          clear hT hk1 HN
          cases hg : gg k with
          | none =>
            rw [hg] at HT
            have HNx := Aside0.mk (HNN.out hg)
            rw [HKK.out] at HNx
            clear HNN HNS hg
            go_wp2_with fail
            refine HT.out.mono ?_
            rintro e w6 ⟨rfl, hb6⟩
            have HB6 := Aside0.mk (below_then HBW.out HBW.out.size hb6)
            clear hb6
            go_wp2_with fail
            go_roundw
            case rel => exact ⟨k1, hk1b, by go_num, HNx, HB6⟩
            case measure => simp [intOf]; omega
          | some res =>
            rw [hg] at HT
            have hRS := HNS.out res hg
            subst hRS
            clear HNN HNS hg
            go_wp2_with fail
            refine HT.out.mono ?_
            rintro e w6 ⟨A6, c6, rfl, hl6, hC6, hb6⟩
            have HB6 := Aside0.mk (below_then HB2.out HB2.out.size (below_then HBW.out HBW.out.size hb6))
            have HC6 := Aside0.mk hC6
            have HL6 := Aside0.mk hl6
            clear hb6 hC6 hl6
            go_wp2_with fail
            go_ret2
            exact ⟨A6, c6, rfl, HL6.out, HC6.out, HB6.out⟩
        · have hkd : decide ((k1 : Int) ≤ (n : Int)) = false := decide_eq_false (by omega)
          have hkd2 : decide (k1 ≤ n) = false := decide_eq_false (by omega)
          have hkk : k = n := by omega
          have hN := HN.out
          rw [hkk] at hN
          have hall := noneTo_all (l := List.range n) (g := gg) (by rw [List.length_range]; exact hN)
          clear hkk hN
          rw [HRR.out] at hall
          subst hall
          clear hk1 hkn
          go_wp2_with fail
          go_ret2
          exact ⟨rfl, below_then HB2.out HB2.out.size HBW.out⟩
  · have HRX := Aside0.mk (show cycleO l odd = (none, sysE l) by unfold cycleO; rw [if_neg h0])
    have hne : (sysE l != 0) = true := bne_iff_ne.2 h0
    clear h0 hr
    generalize sysE l = x at *
    go_enter Tryd.func19, Tryd.ntmps19
    go_wp2_with fail
    refine HSY.out.mono ?_
    rintro e w1 ⟨rfl, hb1⟩
    have HB1 := Aside0.mk hb1
    clear hb1
    go_wp2_with fail
    go_ret2
    rw [HRX.out]
    exact ⟨rfl, HB1.out⟩
theorem cyc_len {sg : Nat → Nat → Bool × Bool} {n : Nat} {odd : Bool} : ∀ (k : Nat) (way : List Nat) (can : Bool × Bool) (r : List Nat), cyc sg n odd k way can = some r → r.length = way.length + k
  | 0, way, can, r, h => by
    rw [cyc] at h
    split at h
    · rw [← Option.some.inj h]; rfl
    · cases h
  | k + 1, way, can, r, h => by
    rw [cyc] at h
    obtain ⟨j, _, hj⟩ := List.exists_of_findSome?_eq_some h
    split at hj
    · cases hj
    · have := cyc_len k _ _ _ hj
      rw [this, List.length_append]
      simp; omega
theorem cycleO_len {L : List (List UInt8)} {odd : Bool} {r : List Nat} (h : (cycleO L odd).1 = some r) : r.length ≤ 10 := by
  unfold cycleO at h
  split at h
  · rename_i h0
    have S := sys_ok h0
    cases hc : cycO (sgF (sysF L)) L.length odd with
    | none => rw [hc] at h; cases h
    | some l =>
      rw [hc] at h
      have e : l = r := Option.some.inj h
      subst e
      unfold cycO at hc
      obtain ⟨k, hk, hk2⟩ := List.exists_of_findSome?_eq_some hc
      unfold cycL at hk2
      obtain ⟨i, _, hi⟩ := List.exists_of_findSome?_eq_some hk2
      have := cyc_len _ _ _ _ hi
      have hk := List.mem_range.1 hk
      have := S.n10
      simp at *
      omega
  · cases h
end Go.Proofs.YtijaefmaceolbaaDoor.Im

namespace Go.Proofs.YtijaefmaceolbaaDoor.Im
open Go.RowKit Go.Proofs.YtijaefmaceolbaaDoorW.PrintWords Go.Proofs.YtijaefmaceolbaaDoorW.PrintLast Go.Proofs.YtijaefmaceolbaaDoorW.PrintMore Go.Proofs.YtijaefmaceolbaaDoor.Tr
set_option linter.unusedVariables false
set_option linter.unusedSimpArgs false
set_option maxHeartbeats 6400000 in
set_option maxRecDepth 100000 in
theorem law_cycles (L : List (List UInt8)) (odd : Bool) (A : Option Addr) (c : Nat) (w : World) (hr : Kd.C Kd.string w A L.length (L.map strL)) (hc : L.length ≤ c) :
    Calls Tryd.prog 4 #[.slice A L.length c, .bool odd] w fun e w' => e = .returned (.bool true) ∧ Below w.heap.size w w' := by
  have hml : (L.map strL).length = L.length := List.length_map _
  have hfew := few_any (L.map strL) A c w (by rw [hml]; exact hr) (by rw [hml]; exact hc)
  rw [hml] at hfew
  have HF := Aside0.mk hfew
  have HR := Aside0.mk hr
  clear hfew
  cases hf : fewB (L.map strL)
  · rw [hf] at HF
    clear hf hr
    go_enter Tryd.func4, Tryd.ntmps4
    go_wp2_with fail
    refine HF.out.mono ?_
    rintro e w1 ⟨rfl, hb1⟩
    have HB1 := Aside0.mk hb1
    have HR1 := Aside0.mk (Kd.C_below HR.out hb1)
    clear hb1
    go_wp2_with fail
    refine (alive_any _).mono ?_
    rintro e w2 ⟨rfl, hb2⟩
    have HB2 := Aside0.mk (below_then HB1.out HB1.out.size hb2)
    have HR2 := Aside0.mk (Kd.C_below HR1.out hb2)
    clear hb2 HB1 HR1
    go_wp2_with fail
    go_ret
    exact ⟨rfl, HB2.out⟩
  · rw [hf] at HF
    clear hf hr
    by_cases h7 : 7 < L.length
    · have t7 : decide (7 < (L.length : Int)) = true := decide_eq_true (by omega)
      by_cases h10 : L.length ≤ 10
      · have t10 : decide ((L.length : Int) ≤ 10) = true := decide_eq_true (by omega)
        go_enter Tryd.func4, Tryd.ntmps4
        go_wp2_with fail
        refine HF.out.mono ?_
        rintro e w1 ⟨rfl, hb1⟩
        have HB1 := Aside0.mk hb1
        have HR1 := Aside0.mk (Kd.C_below HR.out hb1)
        clear hb1
        go_wp2_with fail
        refine (alive_any _).mono ?_
        rintro e w2 ⟨rfl, hb2⟩
        have HB2 := Aside0.mk (below_then HB1.out HB1.out.size hb2)
        have HR2 := Aside0.mk (Kd.C_below HR1.out hb2)
        clear hb2 HB1 HR1
        go_wp2_with fail
        go_ret
        exact ⟨rfl, HB2.out⟩
      · have t10 : decide ((L.length : Int) ≤ 10) = false := decide_eq_false (by omega)
        have HV1 := Aside0.mk (fun (w1 : World) (hC : Kd.C Kd.string w1 A L.length (L.map strL)) => cycle_call L odd w1 A c hC)
        have HV2 := Aside0.mk (fun (w1 : World) (hC : Kd.C Kd.string w1 A L.length (L.map strL)) => rcycle_call L odd w1 A c hC)
        have hlen := Aside0.mk (fun r (h : (cycleO L odd).1 = some r) => cycleO_len h)
        generalize cycleO L odd = r at *
        obtain ⟨ro, rx⟩ := r
        have e1 : (rx == rx) = true := by simp
        cases ro with
        | none =>
          go_enter Tryd.func4, Tryd.ntmps4
          go_wp2_with fail
          refine HF.out.mono ?_
          rintro e w1 ⟨rfl, hb1⟩
          have HB1 := Aside0.mk hb1
          have HR1 := Aside0.mk (Kd.C_below HR.out hb1)
          clear hb1
          go_wp2_with fail
          refine (HV1.out _ HR1.out).mono ?_
          rintro e w2 ⟨rfl, hb2⟩
          have HB2 := Aside0.mk (below_then HB1.out HB1.out.size hb2)
          have HR2 := Aside0.mk (Kd.C_below HR1.out hb2)
          clear hb2 HB1 HR1
          go_wp2_with fail
          refine (HV2.out _ HR2.out).mono ?_
          rintro e w3 ⟨rfl, hb3⟩
          have HB3 := Aside0.mk (below_then HB2.out HB2.out.size hb3)
          have HR3 := Aside0.mk (Kd.C_below HR2.out hb3)
          have HSM := Aside0.mk (same_any [] none none 0 0 w3 (by simp) (Kd.C_nil _ _) (Nat.le_refl _) (Kd.C_nil _ _) (Nat.le_refl _))
          clear hb3 HB2 HR2
          go_wp2_with fail
          refine HSM.out.mono ?_
          rintro e w4 ⟨rfl, hb4⟩
          have HB4 := Aside0.mk (below_then HB3.out HB3.out.size hb4)
          have HR4 := Aside0.mk (Kd.C_below HR3.out hb4)
          clear hb4 HB3 HR3
          go_wp2_with fail
          refine (alive_any _).mono ?_
          rintro e w5 ⟨rfl, hb5⟩
          have HB5 := Aside0.mk (below_then HB4.out HB4.out.size hb5)
          have HR5 := Aside0.mk (Kd.C_below HR4.out hb5)
          clear hb5 HB4 HR4
          go_wp2_with fail
          go_ret
          exact ⟨rfl, HB5.out⟩
        | some l =>
          have HLL := Aside0.mk (hlen.out l rfl)
          go_enter Tryd.func4, Tryd.ntmps4
          go_wp2_with fail
          refine HF.out.mono ?_
          rintro e w1 ⟨rfl, hb1⟩
          have HB1 := Aside0.mk hb1
          have HR1 := Aside0.mk (Kd.C_below HR.out hb1)
          clear hb1
          go_wp2_with fail
          refine (HV1.out _ HR1.out).mono ?_
          rintro e w2 ⟨A2, c2, rfl, hl2, hC2, hb2⟩
          have HB2 := Aside0.mk (below_then HB1.out HB1.out.size hb2)
          have HR2 := Aside0.mk (Kd.C_below HR1.out hb2)
          have HX := Aside0.mk hC2
          have HXL := Aside0.mk hl2
          clear hl2 hC2
          clear hb2 HB1 HR1
          go_wp2_with fail
          refine (HV2.out _ HR2.out).mono ?_
          rintro e w3 ⟨A3, c3, rfl, hl3, hC3, hb3⟩
          have HB3 := Aside0.mk (below_then HB2.out HB2.out.size hb3)
          have HR3 := Aside0.mk (Kd.C_below HR2.out hb3)
          have HX2 := Aside0.mk (Kd.C_below HX.out hb3)
          have HSM := Aside0.mk (same_any (ints l) (some A2) (some A3) c2 c3 w3 (by rw [ints_length]; have := HLL.out; omega) HX2.out HXL.out hC3 hl3)
          clear hl3 hC3
          clear hb3 HB2 HR2
          go_wp2_with fail
          refine HSM.out.mono ?_
          rintro e w4 ⟨rfl, hb4⟩
          have HB4 := Aside0.mk (below_then HB3.out HB3.out.size hb4)
          have HR4 := Aside0.mk (Kd.C_below HR3.out hb4)
          clear hb4 HB3 HR3
          go_wp2_with fail
          refine (alive_any _).mono ?_
          rintro e w5 ⟨rfl, hb5⟩
          have HB5 := Aside0.mk (below_then HB4.out HB4.out.size hb5)
          have HR5 := Aside0.mk (Kd.C_below HR4.out hb5)
          clear hb5 HB4 HR4
          go_wp2_with fail
          go_ret
          exact ⟨rfl, HB5.out⟩
    · have t7 : decide (7 < (L.length : Int)) = false := decide_eq_false (by omega)
      have HV1 := Aside0.mk (fun (w1 : World) (hC : Kd.C Kd.string w1 A L.length (L.map strL)) => cycle_call L odd w1 A c hC)
      have HV2 := Aside0.mk (fun (w1 : World) (hC : Kd.C Kd.string w1 A L.length (L.map strL)) => rcycle_call L odd w1 A c hC)
      have hlen := Aside0.mk (fun r (h : (cycleO L odd).1 = some r) => cycleO_len h)
      generalize cycleO L odd = r at *
      obtain ⟨ro, rx⟩ := r
      have e1 : (rx == rx) = true := by simp
      cases ro with
      | none =>
        go_enter Tryd.func4, Tryd.ntmps4
        go_wp2_with fail
        refine HF.out.mono ?_
        rintro e w1 ⟨rfl, hb1⟩
        have HB1 := Aside0.mk hb1
        have HR1 := Aside0.mk (Kd.C_below HR.out hb1)
        clear hb1
        go_wp2_with fail
        refine (HV1.out _ HR1.out).mono ?_
        rintro e w2 ⟨rfl, hb2⟩
        have HB2 := Aside0.mk (below_then HB1.out HB1.out.size hb2)
        have HR2 := Aside0.mk (Kd.C_below HR1.out hb2)
        clear hb2 HB1 HR1
        go_wp2_with fail
        refine (HV2.out _ HR2.out).mono ?_
        rintro e w3 ⟨rfl, hb3⟩
        have HB3 := Aside0.mk (below_then HB2.out HB2.out.size hb3)
        have HR3 := Aside0.mk (Kd.C_below HR2.out hb3)
        have HSM := Aside0.mk (same_any [] none none 0 0 w3 (by simp) (Kd.C_nil _ _) (Nat.le_refl _) (Kd.C_nil _ _) (Nat.le_refl _))
        clear hb3 HB2 HR2
        go_wp2_with fail
        refine HSM.out.mono ?_
        rintro e w4 ⟨rfl, hb4⟩
        have HB4 := Aside0.mk (below_then HB3.out HB3.out.size hb4)
        have HR4 := Aside0.mk (Kd.C_below HR3.out hb4)
        clear hb4 HB3 HR3
        go_wp2_with fail
        refine (alive_any _).mono ?_
        rintro e w5 ⟨rfl, hb5⟩
        have HB5 := Aside0.mk (below_then HB4.out HB4.out.size hb5)
        have HR5 := Aside0.mk (Kd.C_below HR4.out hb5)
        clear hb5 HB4 HR4
        go_wp2_with fail
        go_ret
        exact ⟨rfl, HB5.out⟩
      | some l =>
        have HLL := Aside0.mk (hlen.out l rfl)
        go_enter Tryd.func4, Tryd.ntmps4
        go_wp2_with fail
        refine HF.out.mono ?_
        rintro e w1 ⟨rfl, hb1⟩
        have HB1 := Aside0.mk hb1
        have HR1 := Aside0.mk (Kd.C_below HR.out hb1)
        clear hb1
        go_wp2_with fail
        refine (HV1.out _ HR1.out).mono ?_
        rintro e w2 ⟨A2, c2, rfl, hl2, hC2, hb2⟩
        have HB2 := Aside0.mk (below_then HB1.out HB1.out.size hb2)
        have HR2 := Aside0.mk (Kd.C_below HR1.out hb2)
        have HX := Aside0.mk hC2
        have HXL := Aside0.mk hl2
        clear hl2 hC2
        clear hb2 HB1 HR1
        go_wp2_with fail
        refine (HV2.out _ HR2.out).mono ?_
        rintro e w3 ⟨A3, c3, rfl, hl3, hC3, hb3⟩
        have HB3 := Aside0.mk (below_then HB2.out HB2.out.size hb3)
        have HR3 := Aside0.mk (Kd.C_below HR2.out hb3)
        have HX2 := Aside0.mk (Kd.C_below HX.out hb3)
        have HSM := Aside0.mk (same_any (ints l) (some A2) (some A3) c2 c3 w3 (by rw [ints_length]; have := HLL.out; omega) HX2.out HXL.out hC3 hl3)
        clear hl3 hC3
        clear hb3 HB2 HR2
        go_wp2_with fail
        refine HSM.out.mono ?_
        rintro e w4 ⟨rfl, hb4⟩
        have HB4 := Aside0.mk (below_then HB3.out HB3.out.size hb4)
        have HR4 := Aside0.mk (Kd.C_below HR3.out hb4)
        clear hb4 HB3 HR3
        go_wp2_with fail
        refine (alive_any _).mono ?_
        rintro e w5 ⟨rfl, hb5⟩
        have HB5 := Aside0.mk (below_then HB4.out HB4.out.size hb5)
        have HR5 := Aside0.mk (Kd.C_below HR4.out hb5)
        clear hb5 HB4 HR4
        go_wp2_with fail
        go_ret
        exact ⟨rfl, HB5.out⟩
end Go.Proofs.YtijaefmaceolbaaDoor.Im
namespace Go.Proofs.YtijaefmaceolbaaDoor.Im
open Go.RowKit Go.Proofs.YtijaefmaceolbaaDoorW.PrintWords Go.Proofs.YtijaefmaceolbaaDoorW.PrintLast Go.Proofs.YtijaefmaceolbaaDoorW.PrintMore Go.Proofs.YtijaefmaceolbaaDoor.Tr
theorem law10_any (A : Option Addr) (c : Nat) (l : List ByteArray) (odd : Bool) (w : World) (hr : Kd.C Kd.string w A l.length l) (hc : l.length ≤ c) :
    Calls Tryd.prog 4 #[.slice A l.length c, .bool odd] w fun e w' => e = .returned (.bool true) ∧ Below w.heap.size w w' := by
  obtain ⟨L, rfl⟩ := strs_of l
  rw [List.length_map] at hr hc ⊢
  exact law_cycles L odd A c w hr hc
end Go.Proofs.YtijaefmaceolbaaDoor.Im

