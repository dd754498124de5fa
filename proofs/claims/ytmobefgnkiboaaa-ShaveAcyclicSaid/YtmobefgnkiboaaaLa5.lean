/- The law ShaveAcyclic. -/
import Derived.Test.YtmobefgnkiboaaaRf14
namespace Go.Proofs.Ytmobefgnkiboaaa.Im
open Go.RowKit Go.Proofs.YtmobefgnkiboaaaW.PrintWords Go.Proofs.YtmobefgnkiboaaaW.PrintLast Go.Proofs.YtmobefgnkiboaaaW.PrintMore
set_option linter.unusedVariables false

theorem round_any (n : Int) (l : List S43) (he : ofE n l = 0) : ∃ B : Bool, (B = false → Acyc n.toNat (townO l)) ∧ ∀ (A : Option Addr) (c : Nat) (w : World), Kd.C k43 w A l.length l → l.length ≤ c →
    Calls Try.prog 22 #[.int .i64 n, .slice A l.length c] w fun e w' => e = .returned (.bool B) ∧ Below w.heap.size w w' := by
  obtain ⟨B, ⟨k0, hk0⟩, hB⟩ := Round_g n l he
  exact ⟨B, hB, fun A c w h1 h2 => pomaderef02_Round.calls k0 n A c l B w h1 h2 (hk0 k0 (Nat.le_refl _))⟩

set_option maxHeartbeats 1600000 in
set_option maxRecDepth 100000 in
theorem law5_any (n : Int) (A : Option Addr) (c : Nat) (l : List S43) (w : World) (hr : Kd.C k43 w A l.length l) (hc : l.length ≤ c) :
    Calls Try.prog 5 #[.int .i64 n, .slice A l.length c] w fun e w' => e = .returned (.bool true) ∧ Below w.heap.size w w' := by
  have HF := Aside0.mk (few_nil A c l w hr hc)
  have HR := Aside0.mk hr
  have HV := Aside0.mk (fun w h => valid_any n A c l w h hc)
  clear hr
  cases hf : decide (l.length ≤ 150) with
  | false =>
    rw [hf] at HF
    clear hf
    go_enter Try.func5, Try.ntmps5
    go_wp2_with fail
    refine HF.out.mono ?_
    rintro e w1 ⟨rfl, hb1⟩
    have HB1 := Aside0.mk hb1
    have HR1 := Aside0.mk (Kd.C_below HR.out hb1)
    clear hb1
    go_wp2_with fail
    refine (alive_any _).mono ?_
    rintro e wz ⟨rfl, hbz⟩
    have HBz := Aside0.mk (below_then HB1.out HB1.out.size hbz)
    clear hbz
    go_wp2_with fail
    go_ret
    exact ⟨rfl, HBz.out⟩
  | true =>
    rw [hf] at HF
    clear hf
    by_cases he : ofE n l = 0
    · have hev : (ofE n l == 0) = true := beq_iff_eq.2 he
      rw [hev] at HV
      obtain ⟨B, hB, hBc⟩ := round_any n l he
      have HRd := Aside0.mk (fun w h => hBc A c w h hc)
      clear hBc
      cases B with
      | true =>
        clear hev he hB
        go_enter Try.func5, Try.ntmps5
        go_wp2_with fail
        refine HF.out.mono ?_
        rintro e w1 ⟨rfl, hb1⟩
        have HB1 := Aside0.mk hb1
        have HR1 := Aside0.mk (Kd.C_below HR.out hb1)
        clear hb1
        go_wp2_with fail
        refine (HV.out _ HR1.out).mono ?_
        rintro e w2 ⟨rfl, hb2⟩
        have HB2 := Aside0.mk (below_then HB1.out HB1.out.size hb2)
        have HR2 := Aside0.mk (Kd.C_below HR1.out hb2)
        clear hb2
        go_wp2_with fail
        refine (HRd.out _ HR2.out).mono ?_
        rintro e w3 ⟨rfl, hb3⟩
        have HB3 := Aside0.mk (below_then HB2.out HB2.out.size hb3)
        have HR3 := Aside0.mk (Kd.C_below HR2.out hb3)
        clear hb3
        go_wp2_with fail
        refine (alive_any _).mono ?_
        rintro e wz ⟨rfl, hbz⟩
        have HBz := Aside0.mk (below_then HB3.out HB3.out.size hbz)
        clear hbz
        go_wp2_with fail
        go_ret
        exact ⟨rfl, HBz.out⟩
      | false =>
        obtain ⟨res, hr1, hF, hko, hmk⟩ := acyc_all he (hB rfl)
        have HK := Aside0.mk (fun w h => progKernel_any n A c l w h hc)
        have e1 : listF n l (kerO n l) = zeroL n.toNat res := by unfold listF; rw [if_pos he, hko]; rfl
        have e2 : errF n l (kerO n l) = 0 := by unfold errF; rw [if_pos he, hko]; rfl
        rw [e1, e2] at HK
        have hKs : ∀ w, KernelsPost n l w = fun e w' => e = .returned (.tuple #[.int .i64 1, .int .i64 0]) ∧ Below w.heap.size w w' := fun w => by
          funext e w'
          simp only [KernelsPost, he, if_true, hmk]
          rfl
        have HKs := Aside0.mk (fun w h => Kernels_any n A c l w h hc)
        simp only [hKs] at HKs
        have hN : ∀ w, RanksPost n l w = FoundE w (some res) := fun w => by funext e w'; simp [RanksPost, he, hr1]
        have HP := Aside0.mk (fun w h => Ranks_any n A c l w h hc)
        simp only [hN] at HP
        have hIsR := isRanks_any n l (ints res)
        obtain ⟨B2, hB2, hBc2⟩ := hIsR
        obtain rfl : B2 = true := hB2.2 ((isRk_iff he (ints res)).2 ⟨res, rfl, hF⟩)
        have hrl : (ints res).length = n.toNat := by rw [ints_length]; exact hF.1
        have HBc2 := Aside0.mk (fun A' c' w h h2 h3 => hBc2 A c A' c' w h hc h2 h3)
        rw [hrl] at HBc2
        have hnn := (ofE_ok he).1
        have n12 := (okt_of he).n12
        have hrl2 : res.length = n.toNat := hF.1
        clear hev he hB hr1 hF hko hmk e1 e2 hKs hN hB2 hBc2
        obtain ⟨m, rfl⟩ : ∃ m : Nat, n = m := ⟨n.toNat, by omega⟩
        rw [Int.toNat_natCast] at *
        have hzm : (zeroL m res).length ≤ m := by have := List.length_filter_le (fun i => res.getD i 0 == 0) (List.range m); simpa [zeroL] using this
        go_enter Try.func5, Try.ntmps5
        go_wp2_with fail
        refine HF.out.mono ?_
        rintro e w1 ⟨rfl, hb1⟩
        have HB1 := Aside0.mk hb1
        have HR1 := Aside0.mk (Kd.C_below HR.out hb1)
        clear hb1
        go_wp2_with fail
        refine (HV.out _ HR1.out).mono ?_
        rintro e w2 ⟨rfl, hb2⟩
        have HB2 := Aside0.mk (below_then HB1.out HB1.out.size hb2)
        have HR2 := Aside0.mk (Kd.C_below HR1.out hb2)
        clear hb2
        go_wp2_with fail
        refine (HRd.out _ HR2.out).mono ?_
        rintro e w3 ⟨rfl, hb3⟩
        have HB3 := Aside0.mk (below_then HB2.out HB2.out.size hb3)
        have HR3 := Aside0.mk (Kd.C_below HR2.out hb3)
        clear hb3
        go_wp2_with fail
        refine (HK.out _ HR3.out).mono ?_
        rintro e w4 ⟨A4, c4, rfl, hc4, hC4, hb4⟩
        have HB4 := Aside0.mk (below_then HB3.out HB3.out.size hb4)
        have HR4 := Aside0.mk (Kd.C_below HR3.out hb4)
        have HC4 := Aside0.mk hC4
        clear hb4 hC4
        go_wp2_with fail
        refine (HKs.out _ HR4.out).mono ?_
        rintro e w5 ⟨rfl, hb5⟩
        have HB5 := Aside0.mk (below_then HB4.out HB4.out.size hb5)
        have HR5 := Aside0.mk (Kd.C_below HR4.out hb5)
        have HC5 := Aside0.mk (Kd.C_below HC4.out hb5)
        clear hb5
        go_wp2_with fail
        refine (HP.out _ HR5.out).mono ?_
        rintro e w6 ⟨A6, c6, rfl, hc6, hC6, hb6⟩
        rw [hrl] at hc6 hC6 ⊢
        have HB6 := Aside0.mk (below_then HB5.out HB5.out.size hb6)
        have HR6 := Aside0.mk (Kd.C_below HR5.out hb6)
        have HK6 := Aside0.mk (Kd.C_below HC5.out hb6)
        have HC6 := Aside0.mk hC6
        clear hb6 hC6
        go_wp2_with fail
        refine (HBc2.out _ _ _ HR6.out HC6.out hc6).mono ?_
        rintro e W ⟨rfl, hb7⟩
        have HBW := Aside0.mk (below_then HB6.out HB6.out.size hb7)
        have HKW := Aside0.mk (Kd.C_below HK6.out hb7)
        have HC5' := Aside0.mk (Kd.C_below HC6.out hb7)
        clear hb7 HR1 HR2 HR3 HR4 HR5 HR6 HB1 HB2 HB3 HB4 HB5 HB6 HC4 HC5 HC6 HK6
        go_wp2_with fail
        go_loopw [11, 12] (fun vz v wr => ∃ k : Nat, k ≤ m ∧ v = .int .i64 (k : Int) ∧ Aside0 (Kd.R (Kd.int .i64) 3 wr W.heap.size (fun _ => True) vz (ints (zeroL k res))) ∧ Aside0 (Below W.heap.size W wr)) (fun _ v _ => m - (intOf v).toNat)
        case atStart => exact ⟨0, Nat.zero_le _, rfl, ⟨Kd.R_nil (Kd.int .i64) 3 _ _ _⟩, ⟨Below.refl _ _⟩⟩
        case round =>
          obtain ⟨k, hk, rfl, HRz, HBz⟩ := hrel
          by_cases hkl : k < m
          · have HCr := Aside0.mk (Kd.C_below HC5'.out HBz.out)
            obtain ⟨ad, e0, cx⟩ := Kd.at_int HCr.out (k : Int) (by omega) (by omega)
            cases e0
            rw [rd_ints, Int.toNat_natCast] at cx
            have hzl : (zeroL k res).length ≤ k := by have := List.length_filter_le (fun i => res.getD i 0 == 0) (List.range k); simpa [zeroL] using this
            have hsn : zeroL (k + 1) res = zeroL k res ++ (if res.getD k 0 == 0 then [k] else []) := zeroL_succ k res
            have hil : (ints (zeroL k res)).length ≤ k := by rw [ints_length]; exact hzl
            by_cases hz : res.getD k 0 = 0
            · rw [if_pos (beq_iff_eq.2 hz)] at hsn
              have HSN : Aside0 (ints (zeroL (k + 1) res) = ints (zeroL k res) ++ [(k : Int)]) := ⟨by rw [hsn]; simp [ints]⟩
              rw [hz] at cx
              clear hsn hz
              generalize ints (zeroL k res) = L at *
              go_wp2_with (first | ((with_reducible refine gate_builtin (b := .append) (xs := #[.tmp 77, .tmp 79]) rfl ?_); at_builtin; refine Kd.R_append (Kd.int .i64) (w0 := W) W.heap.size rfl (.tmp 77) (.tmp 79) 25 3 (.int .i64 0) 8 rfl Try.underlying25 info3 rfl (by decide) (by omega) u11 L k [.int .i64 k] (fun _ => True) (fun _ => False) rfl rfl rfl (fun _ hk => hk.elim) (fun _ _ => trivial) HRz.out HBz.out HBz.out.size (by omega) ?_; intro v9 w9 ho hb hg hat; have HO9 := Aside0.mk ho; have HB9 := Aside0.mk hb; clear ho hb hg hat))
              go_roundw
              case rel => exact ⟨k + 1, by omega, by go_num, ⟨by rw [HSN.out]; exact HO9.out⟩, HB9⟩
              case measure => simp [intOf]; try omega
            · rw [if_neg (by rw [beq_iff_eq]; exact hz)] at hsn
              have HSN : Aside0 (zeroL (k + 1) res = zeroL k res) := ⟨by rw [hsn]; simp⟩
              have hz' : (((res.getD k 0 : Nat) : Int) == 0) = false := beq_eq_false_iff_ne.2 (by omega)
              clear hsn hz
              generalize res.getD k 0 = rk at *
              go_wp2_with fail
              go_roundw
              case rel => exact ⟨k + 1, by omega, by go_num, ⟨by rw [HSN.out]; exact HRz.out⟩, HBz⟩
              case measure => simp [intOf]; try omega
          · obtain rfl : k = m := by omega
            obtain ⟨A9, c9, rfl, hl9, hC9⟩ := Kd.R_reads HRz.out
            have hzl : (zeroL k res).length ≤ k := by have := List.length_filter_le (fun i => res.getD i 0 == 0) (List.range k); simpa [zeroL] using this
            have hS := same_any (ints (zeroL k res)) A4 A9 c4 c9 wr (by rw [ints_length]; omega) (by rw [ints_length]; exact Kd.C_below HKW.out HBz.out) (by rw [ints_length]; exact hc4) hC9 hl9
            have HS := Aside0.mk hS
            have HBr := Aside0.mk (below_then HBW.out HBW.out.size HBz.out)
            rw [ints_length] at HS
            have hil := ints_length (zeroL k res)
            clear hS hC9 hl9 hzl
            rw [hil]
            go_wp2_with fail
            refine HS.out.mono ?_
            rintro e w9 ⟨rfl, hb9⟩
            have HB9 := Aside0.mk (below_then HBr.out HBr.out.size hb9)
            clear hb9
            go_wp2_with fail
            refine (alive_any _).mono ?_
            rintro e wz ⟨rfl, hbz⟩
            have HBz := Aside0.mk (below_then HB9.out HB9.out.size hbz)
            clear hbz
            go_wp2_with fail
            go_ret
            exact ⟨rfl, HBz.out⟩
    · have hev : (ofE n l == 0) = false := beq_eq_false_iff_ne.2 he
      rw [hev] at HV
      clear hev he
      go_enter Try.func5, Try.ntmps5
      go_wp2_with fail
      refine HF.out.mono ?_
      rintro e w1 ⟨rfl, hb1⟩
      have HB1 := Aside0.mk hb1
      have HR1 := Aside0.mk (Kd.C_below HR.out hb1)
      clear hb1
      go_wp2_with fail
      refine (HV.out _ HR1.out).mono ?_
      rintro e w2 ⟨rfl, hb2⟩
      have HB2 := Aside0.mk (below_then HB1.out HB1.out.size hb2)
      have HR2 := Aside0.mk (Kd.C_below HR1.out hb2)
      clear hb2
      go_wp2_with fail
      refine (alive_any _).mono ?_
      rintro e wz ⟨rfl, hbz⟩
      have HBz := Aside0.mk (below_then HB2.out HB2.out.size hbz)
      clear hbz
      go_wp2_with fail
      go_ret
      exact ⟨rfl, HBz.out⟩
end Go.Proofs.Ytmobefgnkiboaaa.Im
