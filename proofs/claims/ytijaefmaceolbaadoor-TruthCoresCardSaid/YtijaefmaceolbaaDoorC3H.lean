/- Further parts of the same walk: contracts of the functions that the law reaches, each under the conditions that it states. -/
import Derived.Test.YtijaefmaceolbaaDoorC3G
namespace Go.Proofs.YtijaefmaceolbaaDoor.Im
open Go.RowKit Go.Proofs.YtijaefmaceolbaaDoorW.PrintWords Go.Proofs.YtijaefmaceolbaaDoorW.PrintLast Go.Proofs.YtijaefmaceolbaaDoorW.PrintMore Go.Proofs.YtijaefmaceolbaaDoor.Tr
set_option linter.unusedVariables false
set_option linter.unusedSimpArgs false
set_option maxHeartbeats 3200000 in
set_option maxRecDepth 100000 in
theorem rcore_good (l : List (List UInt8)) (h0 : sysE l = 0) (w : World) (A : Option Addr) (c : Nat) (hr : Kd.C Kd.string w A l.length (l.map strL)) :
    Calls Tryd.prog 16 #[.slice A l.length c] w (OutL (coreO l) w) := by
  have S := sys_ok h0
  have HO := Aside0.mk (rread_good h0 w A c hr)
  have HRS := Aside0.mk (show ∀ c, coreV l.length (sysF l) = some c → coreO l = (c, 0) from fun c h => by unfold coreO; rw [if_pos h0, h])
  have HRN := Aside0.mk (show coreV l.length (sysF l) = none → coreO l = ([], 10) from fun h => by unfold coreO; rw [if_pos h0, h])
  obtain ⟨n, hn⟩ : ∃ n, l.length = n := ⟨_, rfl⟩
  rw [hn] at HO S HRS HRN ⊢
  generalize sysF l = fs at *
  have n10 : n ≤ 10 := S.n10
  have n0 : (0 : Int) ≤ (n : Int) := by omega
  obtain ⟨N, hN⟩ : ∃ N, N = 2 ^ n := ⟨_, rfl⟩
  have hsh : wrap64 ((2 : Int) ^ min n 64) = (N : Int) := by rw [hN]; exact shl_n n (by omega)
  have hsh2 : wrap64 ((2 : Int) ^ n) = (N : Int) := by rw [hN]; exact wr_pow n (by omega)
  have hN12 : N ≤ 1024 := by rw [hN]; exact (Nat.pow_le_pow_right (by decide) n10 : 2 ^ n ≤ 2 ^ 10)
  have hN1 : 1 ≤ N := by rw [hN]; exact Nat.two_pow_pos n
  have HN := Aside0.mk hN
  have HCL := Aside0.mk (fun (s : Nat) (hs : s < 4096) (w1 : World) (A1 : Option Addr) (c1 : Nat) (hC : Kd.C kNd w1 A1 n (fs.map ndF)) (hc : n ≤ c1) => closed_any S s hs w1 A1 c1 hC hc)
  have HHO := Aside0.mk (fun (s : Nat) (hs : s < 4096) (hsn : s < 2 ^ n) (w1 : World) (A1 : Option Addr) (c1 : Nat) (hC : Kd.C kNd w1 A1 n (fs.map ndF)) (hc : n ≤ c1) => holds_any S s hs hsn w1 A1 c1 hC hc)
  have qn : ∀ (w : World) (a : Option Addr) (n c : Nat), (binOp .eql 25 (.slice a n c) (.slice none 0 0)).run Tryd.prog w = .ok (.bool a.isNone) w := fun w a n c => by cases a <;> kernel_rfl
  clear hr h0 hn S hN
  go_enter Tryd.func16, Tryd.ntmps16
  go_wp2_with fail
  refine HO.out.mono ?_
  rintro e w1 ⟨A1, c1, hc1, rfl, hC, hb⟩
  have HB1 := Aside0.mk hb
  have HC := Aside0.mk hC
  have HCC := Aside0.mk hc1
  have HBR := Aside0.mk (Below.refl w1.heap.size w1)
  clear hC hb hc1
  go_wp2_with fail
  go_loopw [6, 7] (fun v6 v7 wr => ∃ (s : Nat) (bs : List Nat), v7 = .int .i64 (s : Int) ∧ Aside0 (1 ≤ s ∧ s ≤ N) ∧ Aside0 (BadL fs n s bs) ∧ Aside0 (Below w1.heap.size w1 wr) ∧ Aside0 (Kd.R (Kd.int .i64) 3 wr w1.heap.size (fun _ => True) v6 (ints bs))) (fun _ v7 _ => N - (intOf v7).toNat)
  case atStart => exact ⟨1, [], rfl, ⟨Nat.le_refl _, hN1⟩, ⟨badL_one fs n⟩, HBR, ⟨Kd.R_nil _ _ _ _ _⟩⟩
  case round =>
    clear HBR
    obtain ⟨s, bs, rfl, HSN, HBL, HB, HRR⟩ := hrel
    have hs1 : (1 : Int) ≤ (s : Int) := by have := HSN.out.1; omega
    have s0 : (0 : Int) ≤ (s : Int) := by omega
    have hsN : s ≤ N := HSN.out.2
    by_cases hsl : s < N
    · have hslt' : (s : Int) < (N : Int) := by omega
      have hs40 : s < 4096 := by omega
      have hsn2 : s < 2 ^ n := by rw [← HN.out]; exact hsl
      have HC1 := Aside0.mk (HCL.out s hs40 wr A1 c1 (Kd.C_below HC.out HB.out) HCC.out)
      have HH1 := Aside0.mk (fun (w2 : World) (h : Below w1.heap.size w1 w2) => HHO.out s hs40 hsn2 w2 A1 c1 (Kd.C_below HC.out h) HCC.out)
      have HNE := Aside0.mk (show s ≠ 0 ∧ s < 2 ^ n from ⟨by omega, hsn2⟩)
      clear hsn2
      cases hcl : cloR fs s n 0
      · rw [hcl] at HC1
        have HB2 := Aside0.mk (HBL.out.skip (fun hb => by have := (cloR_iff s).2 hb.2.2.1; rw [hcl] at this; cases this))
        clear hcl
        go_wp2_with fail
        refine HC1.out.mono ?_
        rintro e w2 ⟨rfl, hb2⟩
        have HBB := Aside0.mk (below_then HB.out HB.out.size hb2)
        have HR2 := Aside0.mk (Kd.R_below HRR.out hb2)
        clear hb2
        go_wp2_with fail
        go_roundw
        case rel => exact ⟨s + 1, bs, by go_num, ⟨by omega, by omega⟩, HB2, HBB, HR2⟩
        case measure => simp [intOf]; omega
      · rw [hcl] at HC1
        have HCLO := Aside0.mk ((cloR_iff s).1 hcl)
        clear hcl
        cases hho : holB fs n s
        · have HH2 := Aside0.mk (fun (w2 : World) (h : Below w1.heap.size w1 w2) => (show Calls Tryd.prog _ _ w2 (BoolPost false w2) from hho ▸ HH1.out w2 h))
          have HB2 := Aside0.mk (HBL.out.add ⟨HNE.out.1, HNE.out.2, HCLO.out, fun h => by rw [holB_iff.2 h] at hho; cases hho⟩)
          have HL8 := Aside0.mk (show (ints bs).length ≤ 1024 by rw [ints_length]; have := HBL.out.len; omega)
          have HI8 := Aside0.mk (ints_snoc' bs s)
          clear hho HH1
          go_wp2_with fail
          refine HC1.out.mono ?_
          rintro e w2 ⟨rfl, hb2⟩
          have HBB := Aside0.mk (below_then HB.out HB.out.size hb2)
          have HR2 := Aside0.mk (Kd.R_below HRR.out hb2)
          clear hb2
          go_wp2_with fail
          refine (HH2.out _ HBB.out).mono ?_
          rintro e w3 ⟨rfl, hb3⟩
          have HB3 := Aside0.mk (below_then HBB.out HBB.out.size hb3)
          have HR3 := Aside0.mk (Kd.R_below HR2.out hb3)
          clear hb3
          go_wp2_with (first | ((with_reducible refine gate_builtin (b := .append) (xs := #[.tmp 37, .tmp 39]) rfl ?_); at_builtin; refine Kd.R_append (Kd.int .i64) (w0 := w1) w1.heap.size rfl (.tmp 37) (.tmp 39) 25 3 (.int .i64 0) 8 rfl Tryd.underlying25 info3 rfl (by decide) (by omega) _ (ints bs) (s : Int) [.int .i64 (s : Int)] (fun _ => True) (fun _ => False) rfl rfl ?aP (fun _ hk => hk.elim) ?aF ?aO ?aB ?aS ?aL ?_; (case aP => exact rfl); (case aF => exact (fun k hk => trivial)); (case aO => exact HR3.out); (case aB => exact HB3.out); (case aS => exact HB3.out.size); (case aL => have := HL8.out; omega); intro v9 w9 ho hb hg hat; rw [HI8.out] at ho; have HR9 := Aside0.mk ho; have HB9 := Aside0.mk hb; clear ho hb hg hat))
          go_roundw
          case rel => exact ⟨s + 1, bs ++ [s], by go_num, ⟨by omega, by omega⟩, HB2, HB9, HR9⟩
          case measure => simp [intOf]; omega
        · have HH2 := Aside0.mk (fun (w2 : World) (h : Below w1.heap.size w1 w2) => (show Calls Tryd.prog _ _ w2 (BoolPost true w2) from hho ▸ HH1.out w2 h))
          have HB2 := Aside0.mk (HBL.out.skip (fun hb => hb.2.2.2 (holB_iff.1 hho)))
          clear hho HH1
          go_wp2_with fail
          refine HC1.out.mono ?_
          rintro e w2 ⟨rfl, hb2⟩
          have HBB := Aside0.mk (below_then HB.out HB.out.size hb2)
          have HR2 := Aside0.mk (Kd.R_below HRR.out hb2)
          clear hb2
          go_wp2_with fail
          refine (HH2.out _ HBB.out).mono ?_
          rintro e w3 ⟨rfl, hb3⟩
          have HB3 := Aside0.mk (below_then HBB.out HBB.out.size hb3)
          have HR3 := Aside0.mk (Kd.R_below HR2.out hb3)
          clear hb3
          go_wp2_with fail
          go_roundw
          case rel => exact ⟨s + 1, bs, by go_num, ⟨by omega, by omega⟩, HB2, HB3, HR3⟩
          case measure => simp [intOf]; omega
    · obtain rfl : N = s := by omega
      have HBL2 := Aside0.mk (show BadL fs n (2 ^ n) bs from HN.out ▸ HBL.out)
      have HM40 := Aside0.mk (show ∀ q, bs.getD q 0 < 4096 from fun q => by
        rcases Nat.lt_or_ge q bs.length with h | h
        · have : bs.getD q 0 ∈ bs := by rw [List.getD_eq_getElem?_getD, List.getElem?_eq_getElem h]; exact List.getElem_mem h
          have := ((HBL.out.mem _).1 this).1
          omega
        · rw [List.getD_eq_getElem?_getD, List.getElem?_eq_none h]; decide)
      obtain ⟨A6, c6, rfl, h6, hC6⟩ := Kd.R_reads HRR.out
      rw [ints_length] at h6 hC6 ⊢
      have HC6 := Aside0.mk hC6
      have hml : bs.length ≤ 1024 := by have := HBL.out.len; omega
      obtain ⟨m, hm⟩ : ∃ m, bs.length = m := ⟨_, rfl⟩
      have HML := Aside0.mk hm
      rw [hm] at HC6 hml ⊢
      have m0 : (0 : Int) ≤ (m : Int) := by omega
      generalize wr = WB at *
      have HBW := Aside0.mk (Below.refl WB.heap.size WB)
      clear HBL HRR hsl h6 hC6 hm
      go_wp2_with fail
      clear hsh hsh2
      go_loopw [8, 9] (fun v8 v9 wr => ∃ (i : Nat) (b : Option (List Nat)), i ≤ m ∧ v9 = .int .i64 (i : Int) ∧ Aside0 (FstC fs n bs i b) ∧ Aside0 (BestV wr v8 b) ∧ Aside0 (Below WB.heap.size WB wr)) (fun _ v9 _ => m - (intOf v9).toNat)
      case atStart => exact ⟨0, none, by omega, rfl, ⟨fun q hq => absurd hq (by omega)⟩, ⟨rfl⟩, HBW⟩
      case round =>
        clear HBW
        obtain ⟨i, b, hi, rfl, HF, HV, HBW⟩ := hrel
        have i0 : (0 : Int) ≤ (i : Int) := by omega
        by_cases him : i < m
        · have him' : (i : Int) < (m : Int) := by omega
          obtain ⟨ad, rfl, _⟩ := Kd.at_int HC6.out (i : Int) i0 him'
          obtain ⟨x, hx⟩ : ∃ x, bs.getD i 0 = x := ⟨_, rfl⟩
          have HXX := Aside0.mk hx
          have hx40 : x < 4096 := by rw [← hx]; exact HM40.out i
          have hb0 : lstB bs i 0 = true := rfl
          have HWW := HBW
          generalize wr = WC at *
          have HBC := Aside0.mk (Below.refl WC.heap.size WC)
          clear hx
          go_wp2_with fail
          go_loopw [10, 11] (fun v10 v11 wr => ∃ k : Nat, k ≤ m ∧ v10 = .bool (lstB bs i k) ∧ v11 = .int .i64 (k : Int) ∧ Aside0 (Below WC.heap.size WC wr)) (fun _ v11 _ => m - (intOf v11).toNat)
          case atStart => exact ⟨0, by omega, rfl, rfl, HBC⟩
          case round =>
            clear HBC
            obtain ⟨k, hk, rfl, rfl, HBC⟩ := hrel
            have k0 : (0 : Int) ≤ (k : Int) := by omega
            by_cases hkm : k < m
            · have hkm' : (k : Int) < (m : Int) := by omega
              have HCk := Kd.C_below (Kd.C_below HC6.out HBW.out) HBC.out
              obtain ⟨_, e1, hck⟩ := Kd.at_int HCk (k : Int) k0 hkm'
              cases e1
              obtain ⟨_, e2, hci⟩ := Kd.at_int HCk (i : Int) i0 him'
              cases e2
              rw [rd_ints, Int.toNat_natCast] at hck hci
              rw [HXX.out] at hci
              have hls := lstB_succ bs i k
              rw [HXX.out] at hls
              have hy40 := HM40.out k
              have HLS := Aside0.mk hls
              generalize hy : bs.getD k 0 = y at *
              generalize hff : lstB bs i k = f at *
              clear HCk hls hff hy
              cases f
              · have HL2 := Aside0.mk (show lstB bs i (k + 1) = false by rw [HLS.out]; rfl)
                go_wp2_with fail
                go_quiet (fail)
                go_wp2_with fail
                go_roundw
                case rel => exact ⟨k + 1, by omega, by rw [HL2.out], by go_num, ⟨pw_below_drewN HBC.out _⟩⟩
                case measure => simp [intOf]; omega
              · by_cases hki : k = i
                · subst hki
                  have HL2 := Aside0.mk (show lstB bs k (k + 1) = true by rw [HLS.out]; simp)
                  have hkk : ((k : Int) == (k : Int)) = true := beq_self_eq_true _
                  go_wp2_with fail
                  go_quiet (fail)
                  go_wp2_with fail
                  go_roundw
                  case rel => exact ⟨k + 1, by omega, by rw [HL2.out], by go_num, ⟨pw_below_drewN HBC.out _⟩⟩
                  case measure => simp [intOf]; omega
                · have hkk : ((k : Int) == (i : Int)) = false := beq_eq_false_iff_ne.2 (by omega)
                  have hand := b_andN y x (by omega) (by omega)
                  have HL2 := Aside0.mk (show lstB bs i (k + 1) = !(andN y x == 0) by rw [HLS.out, beq_eq_false_iff_ne.2 hki]; simp)
                  clear HLS
                  generalize andN y x = q at *
                  by_cases hq : q = 0
                  · subst hq
                    have HL3 := Aside0.mk (show lstB bs i (k + 1) = false by rw [HL2.out]; rfl)
                    go_wp2_with fail
                    go_quiet (fail)
                    go_wp2_with fail
                    go_roundw
                    case rel => exact ⟨k + 1, by omega, by rw [HL3.out], by go_num, ⟨pw_below_drewN HBC.out _⟩⟩
                    case measure => simp [intOf]; omega
                  · have hqb : (((q : Nat) : Int) != 0) = true := bne_iff_ne.2 (by omega)
                    have HL3 := Aside0.mk (show lstB bs i (k + 1) = true by rw [HL2.out, beq_eq_false_iff_ne.2 hq]; rfl)
                    go_wp2_with fail
                    go_quiet (fail)
                    go_wp2_with fail
                    go_roundw
                    case rel => exact ⟨k + 1, by omega, by rw [HL3.out], by go_num, ⟨pw_below_drewN HBC.out _⟩⟩
                    case measure => simp [intOf]; omega
            · obtain rfl : m = k := by omega
              have HCk := Kd.C_below (Kd.C_below HC6.out HBW.out) HBC.out
              obtain ⟨_, e2, hci⟩ := Kd.at_int HCk (i : Int) i0 him'
              cases e2
              rw [rd_ints, Int.toNat_natCast, HXX.out] at hci
              have hml2 := lstB_iff HBL2.out (i := i) (by rw [HML.out]; exact him)
              rw [HML.out, HXX.out] at hml2
              have HM2 := Aside0.mk hml2
              generalize lstB bs i m = f at *
              have HBX := Aside0.mk (below_then HBW.out HBW.out.size HBC.out)
              clear HCk hml2 hkm
              cases f
              · have HF2 := Aside0.mk (fstC_skip HF.out (by rw [HXX.out]; intro h; have := HM2.out.2 h; cases this))
                have HV2 := Aside0.mk (HV.out.below HBC.out)
                go_wp2_with fail
                refine (rmembers_any x _ hx40).mono ?_
                rintro e w5 ⟨v5, rfl, hR5, hb5⟩
                have HB5 := Aside0.mk (below_then HBX.out HBX.out.size hb5)
                have HV5 := Aside0.mk (HV2.out.below hb5)
                clear hR5 hb5
                go_wp2_with fail
                go_roundw
                case rel => exact ⟨i + 1, b, by omega, by go_num, HF2, HV5, HB5⟩
                case measure => simp [intOf]; omega
              · have hmb : MinBad fs n (bs.getD i 0) := by rw [HXX.out]; exact HM2.out.1 rfl
                have hx0 : x ≠ 0 := by rw [← HXX.out]; exact hmb.1.1
                have HMB := Aside0.mk hmb
                have HX0 := Aside0.mk hx0
                have HV2 := Aside0.mk (HV.out.below HBC.out)
                clear hmb hx0 HV
                go_wp2_with fail
                refine (rmembers_any x _ hx40).mono ?_
                rintro e w5 ⟨v5, rfl, hR5, hb5⟩
                have HB5 := Aside0.mk (below_then HBX.out HBX.out.size hb5)
                have HV5 := Aside0.mk (HV2.out.below hb5)
                obtain ⟨A5, c5, rfl, h5, hC5⟩ := Kd.R_reads hR5
                rw [ints_length] at h5 hC5 ⊢
                have hpos : 0 < (ints (memL x)).length := by
                  rw [ints_length]
                  rcases Nat.eq_zero_or_pos (memL x).length with h | h
                  · exfalso
                    apply HX0.out
                    apply Nat.eq_of_testBit_eq
                    intro j
                    rw [Nat.zero_testBit]
                    cases hj : x.testBit j
                    · rfl
                    · have := (memL_mem hx40 j).2 hj
                      rw [List.eq_nil_of_length_eq_zero h] at this
                      cases this
                  · exact h
                obtain ⟨a5, rfl⟩ := C_some (by rw [ints_length]; exact hC5) hpos
                have HC5 := Aside0.mk hC5
                have H5 := Aside0.mk h5
                clear hR5 hb5 h5 hC5 hpos HV2
                cases b with
                | none =>
                  obtain rfl := HV5.out
                  have HF2 := Aside0.mk (fstC_first HF.out HMB.out)
                  rw [HXX.out] at HF2
                  go_wp2_with fail
                  go_roundw
                  case rel => exact ⟨i + 1, some (memL x), by omega, by go_num, HF2, ⟨a5, c5, rfl, H5.out, HC5.out⟩, HB5⟩
                  case measure => simp [intOf]; omega
                | some b =>
                  obtain ⟨a8, d8, rfl, hl8, hC8⟩ := HV5.out
                  have HLE := Aside0.mk (less_any (memL x) b (some a5) (some a8) c5 d8 w5 (by have := memL_len x; omega) (by
                    obtain ⟨q, _, _, e, _⟩ := HF.out
                    rw [e]; have := memL_len (bs.getD q 0); omega) HC5.out H5.out hC8 hl8)
                  have HC8 := Aside0.mk hC8
                  have HL8 := Aside0.mk hl8
                  clear hC8 hl8 HV5
                  cases hle : lessB (ints (memL x)) (ints b)
                  · rw [hle] at HLE
                    have HF2 := Aside0.mk (fstC_stay (i := i) HF.out (by rw [HXX.out]; exact hle))
                    clear hle
                    go_wp2_with fail
                    refine HLE.out.mono ?_
                    rintro e w6 ⟨rfl, hb6⟩
                    have HB6 := Aside0.mk (below_then HB5.out HB5.out.size hb6)
                    have HC9 := Aside0.mk (Kd.C_below HC8.out hb6)
                    clear hb6
                    go_wp2_with fail
                    go_roundw
                    case rel => exact ⟨i + 1, some b, by omega, by go_num, HF2, ⟨a8, d8, rfl, HL8.out, HC9.out⟩, HB6⟩
                    case measure => simp [intOf]; omega
                  · rw [hle] at HLE
                    have HF2 := Aside0.mk (fstC_turn (i := i) HF.out HMB.out (by rw [HXX.out]; exact hle))
                    rw [HXX.out] at HF2
                    clear hle
                    go_wp2_with fail
                    refine HLE.out.mono ?_
                    rintro e w6 ⟨rfl, hb6⟩
                    have HB6 := Aside0.mk (below_then HB5.out HB5.out.size hb6)
                    have HC9 := Aside0.mk (Kd.C_below HC5.out hb6)
                    clear hb6
                    go_wp2_with fail
                    go_roundw
                    case rel => exact ⟨i + 1, some (memL x), by omega, by go_num, HF2, ⟨a5, c5, rfl, H5.out, HC9.out⟩, HB6⟩
                    case measure => simp [intOf]; omega
        · obtain rfl : m = i := by omega
          have HF2 := Aside0.mk (fstC_core HBL2.out (b := b) (by rw [HML.out]; exact HF.out))
          clear HF him
          cases b with
          | none =>
            obtain rfl := HV.out
            have HQ := Aside0.mk (HRN.out HF2.out)
            go_wp2_with fail
            go_ret2
            exact ⟨none, 0, (by rw [HQ.out]; rfl), (by rw [HQ.out]; exact Nat.le_refl _), (by rw [HQ.out]; exact Kd.C_nil _ _), below_then HB1.out HB1.out.size (below_then HB.out HB.out.size HBW.out)⟩
          | some b =>
            obtain ⟨a8, d8, rfl, hl8, hC8⟩ := HV.out
            have HQ := Aside0.mk (HRS.out _ HF2.out)
            have HC8 := Aside0.mk hC8
            have HL8 := Aside0.mk hl8
            clear hC8 hl8 HV
            go_wp2_with fail
            go_ret2
            exact ⟨some a8, d8, (by rw [HQ.out]; rfl), (by rw [HQ.out]; exact HL8.out), (by rw [HQ.out]; exact HC8.out), below_then HB1.out HB1.out.size (below_then HB.out HB.out.size HBW.out)⟩
theorem rcore_call (l : List (List UInt8)) (w : World) (A : Option Addr) (c : Nat) (hr : Kd.C Kd.string w A l.length (l.map strL)) :
    Calls Tryd.prog 16 #[.slice A l.length c] w (OutL (coreO l) w) := by
  by_cases h0 : sysE l = 0
  · exact rcore_good l h0 w A c hr
  · have HR := Aside0.mk (show coreO l = ([], sysE l) by unfold coreO; rw [if_neg h0])
    have HO := Aside0.mk (rread_bad h0 w A c hr)
    have hne : (sysE l != 0) = true := bne_iff_ne.2 h0
    clear h0 hr
    generalize sysE l = x at *
    go_enter Tryd.func16, Tryd.ntmps16
    go_wp2_with fail
    refine HO.out.mono ?_
    rintro e w1 ⟨rfl, hb⟩
    have HB := Aside0.mk hb
    clear hb
    go_wp2_with fail
    go_ret2
    exact ⟨none, 0, (by rw [HR.out]; rfl), (by rw [HR.out]; exact Nat.le_refl _), (by rw [HR.out]; exact Kd.C_nil _ _), HB.out⟩
theorem coreO_len (L : List (List UInt8)) : (coreO L).1.length ≤ 12 := by
  unfold coreO
  split
  · cases h : coreV L.length (sysF L) with
    | none => simp
    | some c =>
      have : IsCore L.length (sysF L) c := by
        unfold coreV at h
        split at h
        · rename_i hx
          rw [← Option.some.inj h]
          exact Classical.choose_spec hx
        · cases h
      obtain ⟨s, _, e, _⟩ := this
      rw [e]
      exact memL_len s
  · simp
end Go.Proofs.YtijaefmaceolbaaDoor.Im

namespace Go.Proofs.YtijaefmaceolbaaDoor.Im
open Go.RowKit Go.Proofs.YtijaefmaceolbaaDoorW.PrintWords Go.Proofs.YtijaefmaceolbaaDoorW.PrintLast Go.Proofs.YtijaefmaceolbaaDoorW.PrintMore Go.Proofs.YtijaefmaceolbaaDoor.Tr
set_option linter.unusedVariables false
set_option linter.unusedSimpArgs false
set_option maxHeartbeats 6400000 in
set_option maxRecDepth 100000 in
theorem law_cores (L : List (List UInt8)) (A : Option Addr) (c : Nat) (w : World) (hr : Kd.C Kd.string w A L.length (L.map strL)) (hc : L.length ≤ c) :
    Calls Tryd.prog 3 #[.slice A L.length c] w fun e w' => e = .returned (.bool true) ∧ Below w.heap.size w w' := by
  have hml : (L.map strL).length = L.length := List.length_map _
  have hfew := few_any (L.map strL) A c w (by rw [hml]; exact hr) (by rw [hml]; exact hc)
  rw [hml] at hfew
  have HF := Aside0.mk hfew
  have HR := Aside0.mk hr
  clear hfew
  cases hf : fewB (L.map strL)
  · rw [hf] at HF
    clear hf hr
    go_enter Tryd.func3, Tryd.ntmps3
    go_wp2_with fail
    refine HF.out.mono ?_
    rintro e w1 ⟨rfl, hb1⟩
    have HB1 := Aside0.mk hb1
    have HR1 := Aside0.mk (Kd.C_below HR.out hb1)
    clear hb1
    go_wp2_with fail
    refine (alive_any _).mono ?_
    rintro e w2 ⟨rfl, hb2⟩
    have HB2 := Aside0.mk (below_then HB1.out HB1.out.size hb2)
    have HR2 := Aside0.mk (Kd.C_below HR1.out hb2)
    clear hb2 HB1 HR1
    go_wp2_with fail
    go_ret
    exact ⟨rfl, HB2.out⟩
  · rw [hf] at HF
    clear hf hr
    by_cases h7 : 7 < L.length
    · have t7 : decide (7 < (L.length : Int)) = true := decide_eq_true (by omega)
      by_cases h10 : L.length ≤ 10
      · have t10 : decide ((L.length : Int) ≤ 10) = true := decide_eq_true (by omega)
        go_enter Tryd.func3, Tryd.ntmps3
        go_wp2_with fail
        refine HF.out.mono ?_
        rintro e w1 ⟨rfl, hb1⟩
        have HB1 := Aside0.mk hb1
        have HR1 := Aside0.mk (Kd.C_below HR.out hb1)
        clear hb1
        go_wp2_with fail
        refine (alive_any _).mono ?_
        rintro e w2 ⟨rfl, hb2⟩
        have HB2 := Aside0.mk (below_then HB1.out HB1.out.size hb2)
        have HR2 := Aside0.mk (Kd.C_below HR1.out hb2)
        clear hb2 HB1 HR1
        go_wp2_with fail
        go_ret
        exact ⟨rfl, HB2.out⟩
      · have t10 : decide ((L.length : Int) ≤ 10) = false := decide_eq_false (by omega)
        have HV1 := Aside0.mk (fun (w1 : World) (hC : Kd.C Kd.string w1 A L.length (L.map strL)) => core_call L w1 A c hC)
        have HV2 := Aside0.mk (fun (w1 : World) (hC : Kd.C Kd.string w1 A L.length (L.map strL)) => rcore_call L w1 A c hC)
        have hlen := Aside0.mk (Nat.lt_of_le_of_lt (show (coreO L).1.length ≤ 12 from coreO_len L) (by decide : 12 < 1000000))
        generalize coreO L = r at *
        obtain ⟨rs, rx⟩ := r
        have e1 : (rx == rx) = true := by simp
        go_enter Tryd.func3, Tryd.ntmps3
        go_wp2_with fail
        refine HF.out.mono ?_
        rintro e w1 ⟨rfl, hb1⟩
        have HB1 := Aside0.mk hb1
        have HR1 := Aside0.mk (Kd.C_below HR.out hb1)
        clear hb1
        go_wp2_with fail
        refine (HV1.out _ HR1.out).mono ?_
        rintro e w2 ⟨A2, c2, rfl, hl2, hC2, hb2⟩
        have HB2 := Aside0.mk (below_then HB1.out HB1.out.size hb2)
        have HR2 := Aside0.mk (Kd.C_below HR1.out hb2)
        have HX := Aside0.mk hC2
        have HXL := Aside0.mk hl2
        clear hl2 hC2
        clear hb2 HB1 HR1
        go_wp2_with fail
        refine (HV2.out _ HR2.out).mono ?_
        rintro e w3 ⟨A3, c3, rfl, hl3, hC3, hb3⟩
        have HB3 := Aside0.mk (below_then HB2.out HB2.out.size hb3)
        have HR3 := Aside0.mk (Kd.C_below HR2.out hb3)
        have HY := Aside0.mk hC3
        have HYL := Aside0.mk hl3
        have HX2 := Aside0.mk (Kd.C_below HX.out hb3)
        have hsm := same_any (ints rs) A2 A3 c2 c3 w3 (by rw [ints_length]; exact hlen.out) (by rw [ints_length]; exact HX2.out) (by rw [ints_length]; exact HXL.out) (by rw [ints_length]; exact HY.out) (by rw [ints_length]; exact HYL.out)
        rw [ints_length] at hsm
        have HSM := Aside0.mk hsm
        clear hsm hl3 hC3
        clear hb3 HB2 HR2
        go_wp2_with fail
        refine HSM.out.mono ?_
        rintro e w4 ⟨rfl, hb4⟩
        have HB4 := Aside0.mk (below_then HB3.out HB3.out.size hb4)
        have HR4 := Aside0.mk (Kd.C_below HR3.out hb4)
        clear hb4 HB3 HR3
        go_wp2_with fail
        refine (alive_any _).mono ?_
        rintro e w5 ⟨rfl, hb5⟩
        have HB5 := Aside0.mk (below_then HB4.out HB4.out.size hb5)
        have HR5 := Aside0.mk (Kd.C_below HR4.out hb5)
        clear hb5 HB4 HR4
        go_wp2_with fail
        go_ret
        exact ⟨rfl, HB5.out⟩
    · have t7 : decide (7 < (L.length : Int)) = false := decide_eq_false (by omega)
      have HV1 := Aside0.mk (fun (w1 : World) (hC : Kd.C Kd.string w1 A L.length (L.map strL)) => core_call L w1 A c hC)
      have HV2 := Aside0.mk (fun (w1 : World) (hC : Kd.C Kd.string w1 A L.length (L.map strL)) => rcore_call L w1 A c hC)
      have hlen := Aside0.mk (Nat.lt_of_le_of_lt (show (coreO L).1.length ≤ 12 from coreO_len L) (by decide : 12 < 1000000))
      generalize coreO L = r at *
      obtain ⟨rs, rx⟩ := r
      have e1 : (rx == rx) = true := by simp
      go_enter Tryd.func3, Tryd.ntmps3
      go_wp2_with fail
      refine HF.out.mono ?_
      rintro e w1 ⟨rfl, hb1⟩
      have HB1 := Aside0.mk hb1
      have HR1 := Aside0.mk (Kd.C_below HR.out hb1)
      clear hb1
      go_wp2_with fail
      refine (HV1.out _ HR1.out).mono ?_
      rintro e w2 ⟨A2, c2, rfl, hl2, hC2, hb2⟩
      have HB2 := Aside0.mk (below_then HB1.out HB1.out.size hb2)
      have HR2 := Aside0.mk (Kd.C_below HR1.out hb2)
      have HX := Aside0.mk hC2
      have HXL := Aside0.mk hl2
      clear hl2 hC2
      clear hb2 HB1 HR1
      go_wp2_with fail
      refine (HV2.out _ HR2.out).mono ?_
      rintro e w3 ⟨A3, c3, rfl, hl3, hC3, hb3⟩
      have HB3 := Aside0.mk (below_then HB2.out HB2.out.size hb3)
      have HR3 := Aside0.mk (Kd.C_below HR2.out hb3)
      have HY := Aside0.mk hC3
      have HYL := Aside0.mk hl3
      have HX2 := Aside0.mk (Kd.C_below HX.out hb3)
      have hsm := same_any (ints rs) A2 A3 c2 c3 w3 (by rw [ints_length]; exact hlen.out) (by rw [ints_length]; exact HX2.out) (by rw [ints_length]; exact HXL.out) (by rw [ints_length]; exact HY.out) (by rw [ints_length]; exact HYL.out)
      rw [ints_length] at hsm
      have HSM := Aside0.mk hsm
      clear hsm hl3 hC3
      clear hb3 HB2 HR2
      go_wp2_with fail
      refine HSM.out.mono ?_
      rintro e w4 ⟨rfl, hb4⟩
      have HB4 := Aside0.mk (below_then HB3.out HB3.out.size hb4)
      have HR4 := Aside0.mk (Kd.C_below HR3.out hb4)
      clear hb4 HB3 HR3
      go_wp2_with fail
      refine (alive_any _).mono ?_
      rintro e w5 ⟨rfl, hb5⟩
      have HB5 := Aside0.mk (below_then HB4.out HB4.out.size hb5)
      have HR5 := Aside0.mk (Kd.C_below HR4.out hb5)
      clear hb5 HB4 HR4
      go_wp2_with fail
      go_ret
      exact ⟨rfl, HB5.out⟩
end Go.Proofs.YtijaefmaceolbaaDoor.Im
namespace Go.Proofs.YtijaefmaceolbaaDoor.Im
open Go.RowKit Go.Proofs.YtijaefmaceolbaaDoorW.PrintWords Go.Proofs.YtijaefmaceolbaaDoorW.PrintLast Go.Proofs.YtijaefmaceolbaaDoorW.PrintMore Go.Proofs.YtijaefmaceolbaaDoor.Tr
theorem law9_any (A : Option Addr) (c : Nat) (l : List ByteArray) (w : World) (hr : Kd.C Kd.string w A l.length l) (hc : l.length ≤ c) :
    Calls Tryd.prog 3 #[.slice A l.length c] w fun e w' => e = .returned (.bool true) ∧ Below w.heap.size w w' := by
  obtain ⟨L, rfl⟩ := strs_of l
  rw [List.length_map] at hr hc ⊢
  exact law_cores L A c w hr hc
end Go.Proofs.YtijaefmaceolbaaDoor.Im

