/- Further parts of the same walk: contracts of the functions that the law reaches, each under the conditions that it states. -/
import Derived.Test.YtijaefmaceolbaaGreatDoorC4H
import Derived.WalkMore
namespace Go.Proofs.YtijaefmaceolbaaGreatDoor.Im
open Go.RowKit Go.Proofs.YtijaefmaceolbaaGreatDoorW.PrintWords Go.Proofs.YtijaefmaceolbaaGreatDoorW.PrintLast Go.Proofs.YtijaefmaceolbaaGreatDoorW.PrintMore Go.Proofs.YtijaefmaceolbaaGreatDoor.Tr
set_option linter.unusedVariables false
set_option linter.unusedSimpArgs false
theorem com_key {α : Type} (a b : T3) (X Y : α) : (if b3 a = b3 b then X else if b3 a = 63 then X else if b3 b = 63 then X else Y) = if (a == none || (b == none || a == b)) = true then X else Y := by
  rcases a with _ | (_ | _) <;> rcases b with _ | (_ | _) <;> simp [b3, byte3]
theorem com_l0 {v u : List T3} {n : Nat} (hn : n ≤ 10) (hv : v.length = n) (hu : u.length = n) : ∀ (d i : Nat), i + d = n → Gives (fun k => truth_compatible.l0 k (strV v) (strV u) (n : Int) i) ((List.range' i d).all fun i => getV v i == none || (getV u i == none || getV v i == getV u i))
  | 0, i, h => Gives.now fun k => by
    simp only [truth_compatible.l0]
    rw [if_neg (by omega)]
    rfl
  | d + 1, i, h => by
    have ih := com_l0 hn hv hu d (i + 1) (by omega)
    rw [List.range'_succ, List.all_cons]
    cases hc : (getV v i == none || (getV u i == none || getV v i == getV u i))
    · rw [Bool.false_and]
      exact Gives.now fun k => by
        simp only [truth_compatible.l0]
        rw [if_pos (by omega), if_pos (by omega), if_pos (by rw [strV_size]; omega), if_pos (by rw [strV_size]; omega), bt_strV v i (by omega), bt_strV u i (by omega), com_key, if_neg (by rw [hc]; simp)]
    · rw [Bool.true_and]
      exact ih.step fun k hk => by
        simp only [truth_compatible.l0]
        rw [if_pos (by omega), if_pos (by omega), if_pos (by rw [strV_size]; omega), if_pos (by rw [strV_size]; omega), bt_strV v i (by omega), bt_strV u i (by omega), com_key, if_pos hc, wr_succ i (by omega)]
        exact hk
theorem compatible_any {v u : List T3} {n : Nat} (hn : n ≤ 10) (hv : v.length = n) (hu : u.length = n) (w : World) : Calls Tryz.prog 39 #[.string (strV v), .string (strV u)] w fun e w' => e = .returned (.bool (comB v u)) ∧ Below w.heap.size w w' := by
  obtain ⟨k, hk⟩ := com_l0 hn hv hu n 0 (by omega)
  have e : comB v u = (List.range' 0 n).all fun i => getV v i == none || (getV u i == none || getV v i == getV u i) := by
    unfold comB
    rw [hv, List.range_eq_range']
  rw [e]
  exact (truth_compatible.calls k (strV v) (strV u) _ w (by unfold truth_compatible.f; rw [strV_size, hv]; exact hk k (Nat.le_refl _))).mono fun e w' ⟨h1, h2⟩ => ⟨h1, h2.below⟩
theorem count_none (v : List T3) : (v.length : Int) - (Lib.countByte (strV v).data.toList 63 : Int) = (cntV v : Int) := by
  have e : (strV v).data.toList = v.map byte3 := by simp [strV]
  rw [e]
  unfold Lib.countByte
  induction v with
  | nil => rfl
  | cons a t ih =>
    have e2 : (strV t).data.toList = t.map byte3 := by simp [strV]
    have ih := ih e2
    rcases a with _ | (_ | _)
    · simp only [List.map_cons, List.length_cons, cntV, List.countP_cons] at ih ⊢
      simp [byte3, cntV] at ih ⊢
      omega
    · simp only [List.map_cons, List.length_cons, cntV, List.countP_cons] at ih ⊢
      simp [byte3, cntV] at ih ⊢
      omega
    · simp only [List.map_cons, List.length_cons, cntV, List.countP_cons] at ih ⊢
      simp [byte3, cntV] at ih ⊢
      omega
set_option maxHeartbeats 800000 in
theorem values_any' {v : List T3} (hv : v.length ≤ 10) (w : World) : Calls Tryz.prog 40 #[.string (strV v)] w fun e w' => e = .returned (.int .i64 (cntV v : Int)) ∧ w' = w := by
  have HC := Aside0.mk (fun (w1 : World) => (show Calls Tryz.prog 69 #[.string (strV v), .string ⟨#[63]⟩] w1 fun e w' => e = .returned (.int .i64 (Lib.countByte (strV v).data.toList 63)) ∧ w' = w1 from Any.strings_Count_one Tryz.lays138 (strV v) 63 w1))
  have HN := Aside0.mk (count_none v)
  have hs := strV_size v
  have hc : (cntV v : Int) ≤ 10 := by
    have : cntV v ≤ v.length := List.countP_le_length
    omega
  rw [← hs] at HN
  generalize strV v = s at *
  generalize Lib.countByte s.data.toList 63 = q at *
  generalize cntV v = r at *
  have hq : (s.size : Int) - (q : Int) = (r : Int) := HN.out
  have hw : wrap64 ((s.size : Int) - (q : Int)) = (r : Int) := by rw [hq]; unfold wrap64; omega
  have hsz : s.size ≤ 10 := by omega
  clear hs hv
  go_enter Tryz.func40, Tryz.ntmps40
  go_wp2_with fail
  refine (HC.out _).mono ?_
  rintro e w1 ⟨rfl, rfl⟩
  go_wp2_with fail
  go_ret
  exact ⟨rfl, rfl⟩
noncomputable def intrinsicO (l : List (List UInt8)) : ByteArray × Int :=
  if sysE l = 0 then (if 1000 < (fixL (sysF l)).length then (str0, 8) else (strV (topV (sysF l)), 0)) else (str0, sysE l)
def besS : Option (List T3) → ByteArray
  | none => str0
  | some c => strV c
end Go.Proofs.YtijaefmaceolbaaGreatDoor.Im

namespace Go.Proofs.YtijaefmaceolbaaGreatDoor.Im
open Go.RowKit Go.Proofs.YtijaefmaceolbaaGreatDoorW.PrintWords Go.Proofs.YtijaefmaceolbaaGreatDoorW.PrintLast Go.Proofs.YtijaefmaceolbaaGreatDoorW.PrintMore Go.Proofs.YtijaefmaceolbaaGreatDoor.Tr
set_option linter.unusedVariables false
set_option linter.unusedSimpArgs false
theorem stepP_no {all : List (List T3)} {x y : List T3} {b : Option (List T3)} (hy : y ∈ all) (h : comB x y = false) : stepP all b x = b := by
  unfold stepP
  rw [if_neg]
  intro hi
  have := List.all_eq_true.1 hi y hy
  rw [h] at this
  cases this
theorem fold_take {all : List (List T3)} {x : List T3} {i : Nat} (h : i < all.length) (hx : all.getD i [] = x) : (all.take (i + 1)).foldl (stepP all) none = stepP all ((all.take i).foldl (stepP all) none) x := by
  rw [List.take_succ_eq_append_getElem h, List.foldl_append]
  have : all[i] = x := by rw [← hx]; simp [h]
  rw [this]
  rfl
theorem all_take {all : List (List T3)} {p : List T3 → Bool} {y : List T3} {k : Nat} (h : k < all.length) (hy : all.getD k [] = y) : (all.take (k + 1)).all p = ((all.take k).all p && p y) := by
  rw [List.take_succ_eq_append_getElem h, List.all_append]
  have : all[k] = y := by rw [← hy]; simp [h]
  rw [this]
  simp
set_option maxHeartbeats 6400000 in
set_option maxRecDepth 100000 in
theorem intrinsic_good {n : Nat} {fs : List Fm} (S : Tr.Sys n fs) (hm : ¬ 1000 < (fixL fs).length) (w : World) (A : Option Addr) (c : Nat) (HO : Aside0 (Calls Tryz.prog 27 #[.slice A n c] w (OfGood n fs w)))
    (HE : Aside0 (∀ (w1 : World) (A : Option Addr) (c : Nat), Kd.C kF w1 A n fs → n ≤ c → Calls Tryz.prog 32 #[.slice A n c] w1 (FixedPost (false, fixL fs) w1))) :
    Calls Tryz.prog 20 #[.slice A n c] w (OutS (strV (topV fs), 0) w) := by
  have HT := Aside0.mk (prog_top fs)
  have n10 := S.n10
  have HLN := Aside0.mk (show ∀ x ∈ fixL fs, x.length = n from fun x hx => by rw [(mem_fixL.1 hx).len, S.len])
  have NP := S.pos
  generalize topV fs = top at *
  obtain ⟨al, hal⟩ : ∃ al, fixL fs = al := ⟨_, rfl⟩
  rw [hal] at hm HE HT HLN
  clear S hal
  go_enter Tryz.func20, Tryz.ntmps20
  go_wp2_with fail
  go_step3
  go_wp2_with fail
  refine HO.out.mono ?_
  rintro e w1 ⟨A1, c1, hc1, rfl, hC, hb⟩
  have HC := Aside0.mk hC
  have HB := Aside0.mk hb
  have HCC := Aside0.mk hc1
  clear hC hb hc1
  go_wp2_with fail
  refine (HE.out _ _ _ HC.out HCC.out).mono ?_
  rintro e w2 ⟨v, rfl, hR, hb2⟩
  have HB2 := Aside0.mk (below_then HB.out HB.out.size hb2)
  obtain ⟨A2, c2, rfl, hl2, hC2⟩ := Kd.R_reads hR
  obtain ⟨m, hmm⟩ : ∃ m, al.length = m := ⟨_, rfl⟩
  have HMM := Aside0.mk hmm
  rw [show ((false, al) : Bool × List (List T3)).2 = al from rfl, List.length_map, hmm] at hC2 hl2
  rw [show ((false, al) : Bool × List (List T3)).2 = al from rfl, List.length_map, hmm]
  have HC2 := Aside0.mk hC2
  rw [hmm] at hm
  have m1 : m ≤ 1000 := by omega
  clear hR hb2 hC2 hl2 hmm hm HC HCC HB HE HO
  have HBR := Aside0.mk (Below.refl w2.heap.size w2)
  have HS0 := Aside0.mk (show Value.string ⟨#[]⟩ = .string (besS none) from rfl)
  have HCX := Aside0.mk (show ∀ (W : World), Below w2.heap.size w2 W → ∀ i, i < m → ∃ ad, A2 = some ad ∧ W.cell? (ad.add i) = some (.string (strV (al.getD i []))) from fun W hW i hi => by
    obtain ⟨ad, e1, h1⟩ := Kd.at_string (Kd.C_below HC2.out hW) (i : Int) (by omega) (by omega)
    rw [Int.toNat_natCast] at h1
    have er : rdOf ByteArray.empty (al.map strV) (i : Int) = strV (al.getD i []) := by
      have hl : i < al.length := by rw [HMM.out]; exact hi
      simp [rdOf, hl]
    rw [er] at h1
    exact ⟨ad, e1, h1⟩)
  have HGM := Aside0.mk (show ∀ i, i < m → al.getD i [] ∈ al from fun i hi => by
    have hl : i < al.length := by rw [HMM.out]; exact hi
    rw [List.getD_eq_getElem?_getD, List.getElem?_eq_getElem hl]
    exact List.getElem_mem hl)
  go_wp2_with fail
  go_step3
  go_wp2_with fail
  go_loopg [8, 30] (m + 1) (fun g v8 v30 wr => ∃ (i : Nat) (b : Option (List T3)), i ≤ m ∧ v8 = .string (besS b) ∧ v30 = .int .i64 (i : Int) ∧ Aside0 (m - i < g) ∧ Aside0 (b = (al.take i).foldl (stepP al) none) ∧ Aside0 (∀ c, b = some c → c.length = n) ∧ Aside0 (Below w2.heap.size w2 wr))
  case atStart => exact ⟨0, none, by omega, HS0.out, rfl, ⟨by omega⟩, ⟨by simp⟩, ⟨fun _ h => by cases h⟩, HBR⟩
  case round =>
    clear HBR HS0
    obtain ⟨i, b, hi, rfl, rfl, HQ, HBB, HBL, HBW⟩ := hrel
    have i0 : (0 : Int) ≤ (i : Int) := by omega
    by_cases him : i < m
    · have him' : (i : Int) < (m : Int) := by omega
      obtain ⟨ad, rfl, cx⟩ := HCX.out _ HBW.out i him
      obtain ⟨x, hx⟩ : ∃ x, al.getD i [] = x := ⟨_, rfl⟩
      have hxm : x ∈ al := by rw [← hx]; exact HGM.out i him
      have hxl := HLN.out x hxm
      have HFT := Aside0.mk (show (al.take (i + 1)).foldl (stepP al) none = stepP al b x by rw [fold_take (by rw [HMM.out]; exact him) hx, HBB.out])
      rw [hx] at cx
      have HXL := Aside0.mk hxl
      have HCA := Aside0.mk (fun (y : List T3) (hy : y ∈ al) (w8 : World) => compatible_any n10 hxl (HLN.out y hy) w8)
      have HVX := Aside0.mk (fun (w8 : World) => values_any' (show x.length ≤ 10 by omega) w8)
      clear hx hxl hxm
      generalize gk = gO at *
      obtain ⟨sx, hsx⟩ : ∃ s, strV x = s := ⟨_, rfl⟩
      rw [hsx] at cx HCA HVX
      have HSX := Aside0.mk hsx
      clear hsx
      go_wp2_with fail
      have HBI := Aside0.mk (Below.refl wr.heap.size wr)
      generalize wr = WI at *
      go_loopg [36] (m + 1) (fun g v36 wr => ∃ k : Nat, k ≤ m ∧ v36 = .int .i64 (k : Int) ∧ Aside0 (m - k < g) ∧ Aside0 ((al.take k).all (comB x) = true) ∧ Aside0 (Below WI.heap.size WI wr))
      case atStart => exact ⟨0, by omega, rfl, ⟨by omega⟩, ⟨by simp⟩, HBI⟩
      case round =>
        clear HBI
        obtain ⟨k, hk, rfl, HQK, HAL, HBK⟩ := hrel
        have k0 : (0 : Int) ≤ (k : Int) := by omega
        have HBT := Aside0.mk (below_then HBW.out HBW.out.size HBK.out)
        by_cases hkm : k < m
        · have hkm' : (k : Int) < (m : Int) := by omega
          obtain ⟨_, e1, cy⟩ := HCX.out _ HBT.out k hkm
          cases e1
          obtain ⟨y, hy⟩ : ∃ y, al.getD k [] = y := ⟨_, rfl⟩
          have hym : y ∈ al := by rw [← hy]; exact HGM.out k hkm
          have HAT := Aside0.mk (all_take (p := comB x) (show k < al.length by rw [HMM.out]; exact hkm) hy)
          rw [hy] at cy
          have HCY := Aside0.mk (HCA.out y hym wr)
          have HNO := Aside0.mk (fun (h : comB x y = false) => stepP_no (b := b) hym h)
          clear hy hym
          generalize strV y = sy at *
          cases hcb : comB x y
          · rw [hcb] at HCY
            have HST := Aside0.mk (HNO.out hcb)
            clear hcb HNO HAT
            go_wp2_with fail
            refine HCY.out.mono ?_
            rintro e w9 ⟨rfl, hb9⟩
            have HB9 := Aside0.mk (below_then HBT.out HBT.out.size hb9)
            clear hb9
            go_wp2_with fail
            go_roundg (gO - 1)
            case measure => have := HQ.out; omega
            case rel => exact ⟨i + 1, b, by omega, rfl, by go_num, ⟨by have := HQ.out; omega⟩, ⟨by rw [HFT.out, HST.out]⟩, HBL, HB9⟩
          · rw [hcb] at HCY HAT
            clear HNO hcb
            go_wp2_with fail
            refine HCY.out.mono ?_
            rintro e w9 ⟨rfl, hb9⟩
            have HB9 := Aside0.mk (below_then HBK.out HBK.out.size hb9)
            clear hb9
            go_wp2_with fail
            go_roundg (gk - 1)
            case measure => have := HQK.out; omega
            case rel => exact ⟨k + 1, by omega, by go_num, ⟨by have := HQK.out; omega⟩, ⟨by rw [HAT.out, HAL.out]; rfl⟩, HB9⟩
        · obtain rfl : m = k := by omega
          have hall := HAL.out
          rw [List.take_of_length_le (by rw [HMM.out]; exact Nat.le_refl _)] at hall
          have HSP := Aside0.mk (show ∀ b, stepP al b x = match b with | none => some x | some c => if cntV c < cntV x then some x else some c from fun b => by
            unfold stepP
            rw [if_pos (show intB al x = true from hall)]
            cases b <;> rfl)
          have HBX := Aside0.mk (show ∀ c, some x = some c → c.length = n from fun c h => by rw [← Option.some.inj h]; exact HXL.out)
          clear hall hkm HAL HQK
          cases b with
          | none =>
            have hz : ((besS none).toList == (⟨#[]⟩ : ByteArray).toList) = true := by simp [besS, str0]
            have hz2 : (besS none) = ⟨#[]⟩ := rfl
            go_wp2_with fail
            go_roundg (gO - 1)
            case measure => have := HQ.out; omega
            case rel => exact ⟨i + 1, some x, by omega, (by rw [← HSX.out]; rfl), by go_num, ⟨by have := HQ.out; omega⟩, ⟨by rw [HFT.out, HSP.out]⟩, HBX, HBT⟩
          | some cv =>
            have hcl := HBL.out cv rfl
            have HVC := Aside0.mk (fun (w8 : World) => values_any' (show cv.length ≤ 10 by omega) w8)
            have hz : ((strV cv).toList == (⟨#[]⟩ : ByteArray).toList) = false := by
              have h0 : (⟨#[]⟩ : ByteArray) = strV [] := rfl
              rw [h0, eqS]
              exact decide_eq_false (fun h => by rw [h] at hcl; simp at hcl; omega)
            have hbs : besS (some cv) = strV cv := rfl
            rw [hbs]
            have hz3 : ¬ (strV cv).toList = [] := by
              rw [strV_list]
              intro h
              have := congrArg List.length h
              simp at this
              rw [this] at hcl
              simp at hcl
              omega
            obtain ⟨sc, hsc⟩ : ∃ s, strV cv = s := ⟨_, rfl⟩
            have hz4 : (strV cv).toList.isEmpty = false := by simpa using hz3
            rw [hsc] at hz HVC hz4
            clear hz3
            rw [hsc]
            have HSC := Aside0.mk hsc
            clear hbs hsc hcl
            have HSPC := Aside0.mk (HSP.out (some cv))
            simp only at HSPC
            clear HSP
            by_cases hlt : cntV cv < cntV x
            · have d1 : decide ((cntV cv : Int) < (cntV x : Int)) = true := decide_eq_true (by omega)
              have d2 : decide (cntV cv < cntV x) = true := decide_eq_true hlt
              rw [if_pos hlt] at HSPC
              clear hlt
              generalize cntV cv = q1 at *
              generalize cntV x = q2 at *
              go_wp2_with fail
              refine (HVX.out _).mono ?_
              rintro e w9 ⟨rfl, rfl⟩
              go_wp2_with fail
              refine (HVC.out _).mono ?_
              rintro e w9 ⟨rfl, rfl⟩
              go_wp2_with fail
              go_roundg (gO - 1)
              case measure => have := HQ.out; omega
              case rel => exact ⟨i + 1, some x, by omega, (by rw [← HSX.out]; rfl), by go_num, ⟨by have := HQ.out; omega⟩, ⟨by rw [HFT.out, HSPC.out]⟩, HBX, HBT⟩
            · have d1 : decide ((cntV cv : Int) < (cntV x : Int)) = false := decide_eq_false (by omega)
              have d2 : decide (cntV cv < cntV x) = false := decide_eq_false hlt
              rw [if_neg hlt] at HSPC
              clear hlt
              generalize cntV cv = q1 at *
              generalize cntV x = q2 at *
              go_wp2_with fail
              refine (HVX.out _).mono ?_
              rintro e w9 ⟨rfl, rfl⟩
              go_wp2_with fail
              refine (HVC.out _).mono ?_
              rintro e w9 ⟨rfl, rfl⟩
              go_wp2_with fail
              go_roundg (gO - 1)
              case measure => have := HQ.out; omega
              case rel => exact ⟨i + 1, some cv, by omega, (by rw [← HSC.out]; rfl), by go_num, ⟨by have := HQ.out; omega⟩, ⟨by rw [HFT.out, HSPC.out]⟩, HBL, HBT⟩
    · obtain rfl : m = i := by omega
      have hbt := HBB.out
      rw [List.take_of_length_le (by rw [HMM.out]; exact Nat.le_refl _), HT.out] at hbt
      subst hbt
      clear him
      go_wp2_with fail
      (try rw [Exit.noGoto_ret])
      go_ret2
      exact ⟨rfl, below_then HB2.out HB2.out.size HBW.out⟩
set_option maxHeartbeats 1600000 in
set_option maxRecDepth 100000 in
theorem intrinsic_call (l : List (List UInt8)) (w : World) (A : Option Addr) (c : Nat) (hr : Kd.C Kd.string w A l.length (l.map strL)) :
    Calls Tryz.prog 20 #[.slice A l.length c] w (OutS (intrinsicO l) w) := by
  by_cases h0 : sysE l = 0
  · have S := sys_ok h0
    have HO := Aside0.mk (of_good h0 w A c hr)
    have hf := run_fix S
    have HE := Aside0.mk (fun (w1 : World) (A : Option Addr) (c : Nat) (hC : Kd.C kF w1 A l.length (sysF l)) (hc : l.length ≤ c) => fixed_any S w1 A c hC hc)
    generalize runV (visX (sysF l)) (valsB base3 l.length) [] = r at *
    obtain ⟨b, out⟩ := r
    by_cases hm : 1000 < (fixL (sysF l)).length
    · have HR := Aside0.mk (show intrinsicO l = (str0, 8) by unfold intrinsicO; rw [if_pos h0, if_pos hm])
      obtain ⟨n, hn⟩ : ∃ n, l.length = n := ⟨_, rfl⟩
      rw [hn] at HO S HE ⊢
      have hb : b = true := hf.1.trans (decide_eq_true hm)
      subst hb
      rw [HR.out]
      clear hr S h0 hn hf hm HR
      generalize sysF l = fs at *
      go_enter Tryz.func20, Tryz.ntmps20
      go_wp2_with fail
      go_step3
      go_wp2_with fail
      refine HO.out.mono ?_
      rintro e w1 ⟨A1, c1, hc1, rfl, hC, hb⟩
      have HC := Aside0.mk hC
      have HB := Aside0.mk hb
      have HCC := Aside0.mk hc1
      clear hC hb hc1
      go_wp2_with fail
      refine (HE.out _ _ _ HC.out HCC.out).mono ?_
      rintro e w2 ⟨v, rfl, hR, hb2⟩
      have HB2 := Aside0.mk (below_then HB.out HB.out.size hb2)
      clear hR hb2
      go_wp2_with fail
      (try rw [Exit.noGoto_ret])
      go_ret2
      exact ⟨rfl, HB2.out⟩
    · have hb : b = false := hf.1.trans (decide_eq_false hm)
      have ho : out = fixL (sysF l) := hf.2 hm
      subst hb
      subst ho
      rw [show intrinsicO l = (strV (topV (sysF l)), 0) by unfold intrinsicO; rw [if_pos h0, if_neg hm]]
      exact intrinsic_good S hm w A c HO HE
  · have HR := Aside0.mk (show intrinsicO l = (str0, sysE l) by unfold intrinsicO; rw [if_neg h0])
    have HO := Aside0.mk (of_bad h0 w A c hr)
    have hne : (sysE l != 0) = true := bne_iff_ne.2 h0
    rw [HR.out]
    clear h0 hr HR
    generalize sysE l = x at *
    go_enter Tryz.func20, Tryz.ntmps20
    go_wp2_with fail
    go_step3
    go_wp2_with fail
    refine HO.out.mono ?_
    rintro e w1 ⟨rfl, hb⟩
    have HB := Aside0.mk hb
    clear hb
    go_wp2_with fail
    (try rw [Exit.noGoto_ret])
    go_ret2
    exact ⟨rfl, HB.out⟩
end Go.Proofs.YtijaefmaceolbaaGreatDoor.Im

namespace Go.Proofs.YtijaefmaceolbaaGreatDoor.Im
open Go.RowKit Go.Proofs.YtijaefmaceolbaaGreatDoorW.PrintWords Go.Proofs.YtijaefmaceolbaaGreatDoorW.PrintLast Go.Proofs.YtijaefmaceolbaaGreatDoorW.PrintMore
attribute [local go_sem] max2_int min2_int max_two min_two max_three min_three max_four min_four
set_option linter.unusedVariables false
set_option linter.unusedSimpArgs false
mutual
def pomaderef01_fixed.l0 : Nat → List (SNd) → List ByteArray → Int → Option (List ByteArray)
  | 0, _, _, _ => none
  | k + 1, x0, x3, x4 => (pomaderef01_power.f k 3 (x0.length : Int)).bind fun t180 => (if x4 < t180 then (pomaderef01_fixed.j1 k x0 x3 x4 (decide ((x3.length : Int) ≤ 1000))) else (pomaderef01_fixed.j1 k x0 x3 x4 false))
def pomaderef01_fixed.j1 : Nat → List (SNd) → List ByteArray → Int → Bool → Option (List ByteArray)
  | 0, _, _, _, _ => none
  | k + 1, x0, x3, x4, x15 => if x15 = true then ((pomaderef01_written.f k x4 (x0.length : Int) 3).bind fun t181 => ((pomaderef01_values.f k x0 t181).bind fun t182 => (if t182.toList = t181.toList then (if x3.length < 8796093022208 then (pomaderef01_fixed.l0 k x0 (x3 ++ [t181]) (wrap64 (x4 + 1))) else (none)) else (pomaderef01_fixed.l0 k x0 x3 (wrap64 (x4 + 1)))))) else (some x3)
end
def pomaderef01_fixed.f (k : Nat) (l0 : List (SNd)) : Option (List ByteArray) := pomaderef01_fixed.l0 k l0 ([] : List ByteArray) 0
theorem pomaderef01_fixed.mono_l : ∀ k, (∀ y0 y1 y2, LeO (pomaderef01_fixed.l0 k y0 y1 y2) (pomaderef01_fixed.l0 (k + 1) y0 y1 y2)) ∧ (∀ y0 y1 y2 y3, LeO (pomaderef01_fixed.j1 k y0 y1 y2 y3) (pomaderef01_fixed.j1 (k + 1) y0 y1 y2 y3))
  | 0 => ⟨fun _ _ _ r h => by simp [pomaderef01_fixed.l0] at h, fun _ _ _ _ r h => by simp [pomaderef01_fixed.j1] at h⟩
  | k + 1 => by
    obtain ⟨ih0, ih1⟩ := pomaderef01_fixed.mono_l k
    refine ⟨?_, ?_⟩
    · intro y0 y1 y2
      unfold pomaderef01_fixed.l0
      repeat' first
      | (with_reducible exact ih0 _ _ _)
      | (with_reducible exact ih1 _ _ _ _)
      | (with_reducible exact pomaderef01_power.mono _ _ _)
      | (with_reducible exact pomaderef01_values.mono _ _ _)
      | (with_reducible exact pomaderef01_written.mono _ _ _ _)
      | (with_reducible exact LeO.refl _)
      | (with_reducible exact LeO.none _)
      | (with_reducible refine LeO.ite ?_ ?_)
      | (with_reducible refine LeO.bind ?_ (fun _ => ?_))
      | exact ih0 _ _ _
      | exact ih1 _ _ _ _
      | exact pomaderef01_power.mono _ _ _
      | exact pomaderef01_values.mono _ _ _
      | exact pomaderef01_written.mono _ _ _ _
      | exact LeO.none _
      | refine LeO.ite ?_ ?_
      | refine LeO.bind ?_ (fun _ => ?_)
    · intro y0 y1 y2 y3
      unfold pomaderef01_fixed.j1
      repeat' first
      | (with_reducible exact ih0 _ _ _)
      | (with_reducible exact ih1 _ _ _ _)
      | (with_reducible exact pomaderef01_power.mono _ _ _)
      | (with_reducible exact pomaderef01_values.mono _ _ _)
      | (with_reducible exact pomaderef01_written.mono _ _ _ _)
      | (with_reducible exact LeO.refl _)
      | (with_reducible exact LeO.none _)
      | (with_reducible refine LeO.ite ?_ ?_)
      | (with_reducible refine LeO.bind ?_ (fun _ => ?_))
      | exact ih0 _ _ _
      | exact ih1 _ _ _ _
      | exact pomaderef01_power.mono _ _ _
      | exact pomaderef01_values.mono _ _ _
      | exact pomaderef01_written.mono _ _ _ _
      | exact LeO.none _
      | refine LeO.ite ?_ ?_
      | refine LeO.bind ?_ (fun _ => ?_)
theorem pomaderef01_fixed.mono : ∀ a0 k, LeO (pomaderef01_fixed.f k a0) (pomaderef01_fixed.f (k + 1) a0) := by
  intro a0 k
  obtain ⟨ih0, ih1⟩ := pomaderef01_fixed.mono_l k
  unfold pomaderef01_fixed.f
  repeat' first
      | (with_reducible exact ih0 _ _ _)
      | (with_reducible exact ih1 _ _ _ _)
      | (with_reducible exact pomaderef01_power.mono _ _ _)
      | (with_reducible exact pomaderef01_values.mono _ _ _)
      | (with_reducible exact pomaderef01_written.mono _ _ _ _)
      | (with_reducible exact LeO.refl _)
      | (with_reducible exact LeO.none _)
      | (with_reducible refine LeO.ite ?_ ?_)
      | (with_reducible refine LeO.bind ?_ (fun _ => ?_))
      | exact ih0 _ _ _
      | exact ih1 _ _ _ _
      | exact pomaderef01_power.mono _ _ _
      | exact pomaderef01_values.mono _ _ _
      | exact pomaderef01_written.mono _ _ _ _
      | exact LeO.none _
      | refine LeO.ite ?_ ?_
      | refine LeO.bind ?_ (fun _ => ?_)
set_option maxHeartbeats 8000000 in
set_option maxRecDepth 100000 in
theorem pomaderef01_fixed.calls (k : Nat) (A0 : Option Addr) (c0 : Nat) (l0 : List (SNd)) (r : List ByteArray) (w : World) (hr0 : Kd.C kNd w A0 l0.length l0) (hc0 : l0.length ≤ c0) (h : pomaderef01_fixed.f k l0 = some r) :
    Calls Tryz.prog 38 #[.slice A0 l0.length c0] w fun e w' => ∃ v0_ : Value, e = .returned (v0_) ∧ Kd.R Kd.string 9 w' w.heap.size (fun _ => True) v0_ r ∧ Below w.heap.size w w' := by
  have HR0 := Aside0.mk hr0
  have HC0 := Aside0.mk hc0
  clear hr0 hc0
  have HB := Aside0.mk (Below.refl w.heap.size w)
  have H : (pomaderef01_fixed.l0 k l0 ([] : List ByteArray) 0) = some r := h
  clear h
  have H' := Aside0.mk H
  clear H
  go_enter Tryz.func38, Tryz.ntmps38
  go_wp2
  go_loopg [3, 4] k (fun kq v3 v4 w' => ∃ (x3_1 : List ByteArray) (x4_1 : Int), v4 = .int .i64 x4_1 ∧ Aside0 (pomaderef01_fixed.l0 kq l0 x3_1 x4_1 = some r) ∧ Aside0 (kq ≤ k) ∧ Aside0 (Kd.R Kd.string 9 w' w.heap.size (fun _ => True) v3 x3_1) ∧ Aside0 (Below w.heap.size w w'))
  case atStart => exact ⟨(([] : List ByteArray)), (0), (by first | rfl | (simp; done) | (simp [*]; done)), H', ⟨Nat.le_refl _⟩, ⟨by first | exact Kd.R_nil _ _ _ _ _ | exact Kd.N_nil _ _ _ _ _ | exact Kd.V_nil _ _ _ _ _ | exact Kd.Q_nil _ _ _ _ _ | exact Kd.S_nil _ _ _ _ _⟩, ⟨by repeat (first | (with_reducible first | exact HB.out | apply below_alloc | apply pw_below_drewN | apply below_drew1) | exact HB.out)⟩⟩
  case round =>
    clear H'
    obtain ⟨x3_1, x4_1, rfl, HA, HK1, HO_3, HB⟩ := hrel
    cases gk with
    | zero => exact absurd HA.out (by simp [pomaderef01_fixed.l0])
    | succ k1 =>
      have H := HA.out
      clear HA
      simp only [pomaderef01_fixed.l0] at H
      have HC2 := Aside0.mk H
      clear H
      go_upto_region 3 with (fail)
      go_cut [15] (fun v15 wc => ∃ (kq : Nat) (x15_1 : Bool), v15 = .bool x15_1 ∧ Aside0 (pomaderef01_fixed.j1 kq l0 x3_1 x4_1 x15_1 = some r) ∧ Aside0 (kq ≤ k1) ∧ Aside0 (Kd.R Kd.string 9 wc w.heap.size (fun _ => True) u3 x3_1) ∧ Aside0 (Below w.heap.size w wc))
      case first =>
        have H := HC2.out
        clear HC2
        replace H := Option.bind_eq_some_iff.mp H
        obtain ⟨t180, A30, H⟩ := H
        replace H : (if x4_1 < t180 then (pomaderef01_fixed.j1 k1 l0 x3_1 x4_1 (decide ((x3_1.length : Int) ≤ 1000))) else (pomaderef01_fixed.j1 k1 l0 x3_1 x4_1 false)) = some r := H
        have A3 := Aside0.mk A30
        clear A30
        by_cases c4 : x4_1 < t180
        · rw [if_pos c4] at H
          have c4b0 : decide (x4_1 < t180) = true := decide_eq_true c4
          clear c4
          (first | rw [c4b0] | (simp only [i64_w, i32_w]; rw [c4b0]) | skip)
          have H' := Aside0.mk H
          clear H
          go_wp2_with (first | ((with_reducible refine gate_callee (f := 67) rfl ?_); refine goesL_ (some 9) rfl rfl Tryz.func67 (by kernel_rfl) rfl #[.int .i64 3, .int .i64 (l0.length : Int)] rfl (by (try simp only [List.map_toArray, List.map_cons, List.map_nil]); first | done | rfl | (simp only [List.length_drop, List.length_take]; rfl)) ?_; (with_reducible refine (pomaderef01_power.calls k1 3 (l0.length : Int) t180 _ A3.out).mono ?_); rintro e w' ⟨rfl, ⟨nd, rfl⟩⟩; refine ⟨_, rfl, ?_⟩; obtain ⟨Ao5, co5, eo5⟩ := Kd.R_slice HO_3.out; subst eo5))
          go_meet
          case rel => exact ⟨_, (decide ((x3_1.length : Int) ≤ 1000)), (by first | rfl | (simp; done) | (simp [*]; done)), H', ⟨by have := HK1.out; first | omega | exact Nat.le_refl _⟩, ⟨by (with_reducible repeat (first | apply Kd.R_alloc | apply Kd.R_drewN | apply Kd.R_drew)); exact HO_3.out⟩, ⟨by repeat (first | (with_reducible first | exact HB.out | apply below_alloc | apply pw_below_drewN | apply below_drew1) | exact HB.out)⟩⟩
        · rw [if_neg c4] at H
          have c4b0 : decide (x4_1 < t180) = false := decide_eq_false c4
          clear c4
          (first | rw [c4b0] | (simp only [i64_w, i32_w]; rw [c4b0]) | skip)
          have H' := Aside0.mk H
          clear H
          go_wp2_with (first | ((with_reducible refine gate_callee (f := 67) rfl ?_); refine goesL_ (some 9) rfl rfl Tryz.func67 (by kernel_rfl) rfl #[.int .i64 3, .int .i64 (l0.length : Int)] rfl (by (try simp only [List.map_toArray, List.map_cons, List.map_nil]); first | done | rfl | (simp only [List.length_drop, List.length_take]; rfl)) ?_; (with_reducible refine (pomaderef01_power.calls k1 3 (l0.length : Int) t180 _ A3.out).mono ?_); rintro e w' ⟨rfl, ⟨nd, rfl⟩⟩; refine ⟨_, rfl, ?_⟩))
          go_meet
          case rel => exact ⟨_, (false), (by first | rfl | (simp; done) | (simp [*]; done)), H', ⟨by have := HK1.out; first | omega | exact Nat.le_refl _⟩, ⟨by (with_reducible repeat (first | apply Kd.R_alloc | apply Kd.R_drewN | apply Kd.R_drew)); exact HO_3.out⟩, ⟨by repeat (first | (with_reducible first | exact HB.out | apply below_alloc | apply pw_below_drewN | apply below_drew1) | exact HB.out)⟩⟩
      case rest =>
        clear HC2
        try clear p2
        try clear c3
        try clear c4
        try clear c4b0
        obtain ⟨kq, x15_1, rfl, HA, HJ1, HO_3, HB⟩ := hcut
        cases kq with
        | zero => exact absurd HA.out (by simp [pomaderef01_fixed.j1])
        | succ kj1 =>
          have H := HA.out
          clear HA
          simp only [pomaderef01_fixed.j1] at H
          by_cases c6 : x15_1 = true
          · subst c6
            have H1 : ((pomaderef01_written.f kj1 x4_1 (l0.length : Int) 3).bind fun t181 => ((pomaderef01_values.f kj1 l0 t181).bind fun t182 => (if t182.toList = t181.toList then (if x3_1.length < 8796093022208 then (pomaderef01_fixed.l0 kj1 l0 (x3_1 ++ [t181]) (wrap64 (x4_1 + 1))) else (none)) else (pomaderef01_fixed.l0 kj1 l0 x3_1 (wrap64 (x4_1 + 1)))))) = some r := by rw [if_pos rfl] at H; exact H
            clear H
            have H := H1
            clear H1
            replace H := Option.bind_eq_some_iff.mp H
            obtain ⟨t181, A70, H⟩ := H
            replace H : ((pomaderef01_values.f kj1 l0 t181).bind fun t182 => (if t182.toList = t181.toList then (if x3_1.length < 8796093022208 then (pomaderef01_fixed.l0 kj1 l0 (x3_1 ++ [t181]) (wrap64 (x4_1 + 1))) else (none)) else (pomaderef01_fixed.l0 kj1 l0 x3_1 (wrap64 (x4_1 + 1))))) = some r := H
            have A7 := Aside0.mk A70
            clear A70
            replace H := Option.bind_eq_some_iff.mp H
            obtain ⟨t182, A80, H⟩ := H
            replace H : (if t182.toList = t181.toList then (if x3_1.length < 8796093022208 then (pomaderef01_fixed.l0 kj1 l0 (x3_1 ++ [t181]) (wrap64 (x4_1 + 1))) else (none)) else (pomaderef01_fixed.l0 kj1 l0 x3_1 (wrap64 (x4_1 + 1)))) = some r := H
            have A8 := Aside0.mk A80
            clear A80
            by_cases c9 : t182.toList = t181.toList
            · rw [if_pos c9] at H
              have c9b0 : (t182.toList == t181.toList) = true := beq_iff_eq.mpr c9
              have c9b1 : (t182.toList != t181.toList) = false := bne_eq_false_iff_eq.mpr c9
              clear c9
              by_cases c10 : x3_1.length < 8796093022208
              · rw [if_pos c10] at H
                have LMc10 := Aside0.mk c10
                clear c10
                obtain ⟨y183, hy183⟩ : ∃ y_ : List ByteArray, y_ = (x3_1 ++ [t181]) := ⟨_, rfl⟩
                replace H : (pomaderef01_fixed.l0 kj1 l0 y183 (wrap64 (x4_1 + 1))) = some r := by first | (rw [hy183]; with_reducible exact H) | (have H2_ := (Option.bind_some _ _).symm.trans H; rw [hy183]; with_reducible exact H2_) | (have H2_ := (Option.bind_some _ _).symm.trans H; with_reducible exact H2_) | with_reducible exact H | (rw [hy183]; exact H) | exact H
                have Ny183 := Aside0.mk hy183
                clear hy183
                have H' := Aside0.mk H
                clear H
                go_wp2_with (first | ((with_reducible refine gate_callee (f := 68) rfl ?_); refine goesL_ (some 21) rfl rfl Tryz.func68 (by kernel_rfl) rfl #[.int .i64 x4_1, .int .i64 (l0.length : Int), .int .i64 3] rfl (by (try simp only [List.map_toArray, List.map_cons, List.map_nil]); first | done | rfl | (simp only [List.length_drop, List.length_take]; rfl)) ?_; (with_reducible refine (pomaderef01_written.calls kj1 x4_1 (l0.length : Int) 3 t181 _ A7.out).mono ?_); rintro e w11 ⟨rfl, hb⟩; refine ⟨_, rfl, ?_⟩; have n0_ := Aside0.mk (Kd.R_below (by (with_reducible repeat (first | apply Kd.R_alloc | apply Kd.R_drewN | apply Kd.R_drew)); exact HO_3.out) hb); have n1_ := Aside0.mk (below_step (by repeat (first | (with_reducible first | exact HB.out | apply below_alloc | apply pw_below_drewN | apply below_drew1) | exact HB.out)) hb); clear HO_3; clear HB; have HO_3 := n0_; have HB := n1_; clear n0_ n1_; (try clear hb); (try clear hb2); (try clear hk); (try clear hi)) | ((with_reducible refine gate_callee (f := 66) rfl ?_); refine goesL_ (some 24) rfl rfl Tryz.func66 (by kernel_rfl) rfl #[.slice A0 l0.length c0, .string t181] rfl (by (try simp only [List.map_toArray, List.map_cons, List.map_nil]); first | done | rfl | (simp only [List.length_drop, List.length_take]; rfl)) ?_; (with_reducible refine (pomaderef01_values.calls kj1 _ _ l0 t181 t182 _ ?side1 ?side2 A8.out).mono ?_); (case side1 => repeat (first | exact (Kd.C_below HR0.out HB.out) | (with_reducible refine Kd.C_alloc ?_ _) | (with_reducible refine Kd.C_drewN ?_ _) | (with_reducible refine Kd.C_drew ?_))); (case side2 => exact HC0.out); rintro e w12 ⟨rfl, hb⟩; refine ⟨_, rfl, ?_⟩; have n0_ := Aside0.mk (Kd.R_below (by (with_reducible repeat (first | apply Kd.R_alloc | apply Kd.R_drewN | apply Kd.R_drew)); exact HO_3.out) hb); have n1_ := Aside0.mk (below_step (by repeat (first | (with_reducible first | exact HB.out | apply below_alloc | apply pw_below_drewN | apply below_drew1) | exact HB.out)) hb); clear HO_3; clear HB; have HO_3 := n0_; have HB := n1_; clear n0_ n1_; (try clear hb); (try clear hb2); (try clear hk); (try clear hi)) | ((with_reducible refine gate_builtin (b := .append) (xs := #[.tmp 27, .tmp 29]) rfl ?_); (try (refine gate_guard (by rfl) ?_; dsimp only)); at_builtin; refine Kd.R_append Kd.string (w0 := w) w.heap.size rfl (.tmp 27) (.tmp 29) 22 9 (.string ⟨#[]⟩) 16 rfl Tryz.underlying22 info9 rfl (by decide) (by omega) u3 x3_1 t181 [.string t181] (fun _ => True) (fun _ => False) rfl rfl ?aP (fun _ hk => hk.elim) ?aF ?aO ?aB ?aS ?aL ?_; (case aP => exact rfl); (case aB => exact (by repeat (first | (with_reducible first | exact HB.out | apply below_alloc | apply pw_below_drewN | apply below_drew1) | exact HB.out))); (case aF => exact (fun _ _ => trivial)); (case aO => exact (by (with_reducible repeat (first | apply Kd.R_alloc | apply Kd.R_drewN | apply Kd.R_drew)); exact HO_3.out)); (case aS => exact (below_size (by repeat (first | (with_reducible first | exact HB.out | apply below_alloc | apply pw_below_drewN | apply below_drew1) | exact HB.out)))); (case aL => have := LMc10.out; omega); intro v184 w13 ho hb hg hat; rw [← Ny183.out] at ho; have n0_ := Aside0.mk (hb); have n1_ := Aside0.mk (ho); clear HB; clear HO_3; have HB := n0_; have HO185 := n1_; clear n0_ n1_; clear ho hb hg hat))
                go_roundg kj1
                case measure => have := HK1.out; have := HJ1.out; omega
                case rel => exact ⟨(y183), (wrap64 (x4_1 + 1)), (by first | rfl | (simp; done) | (simp [*]; done)), H', ⟨by have := HK1.out; have := HJ1.out; omega⟩, ⟨by (with_reducible repeat (first | apply Kd.R_alloc | apply Kd.R_drewN | apply Kd.R_drew)); exact HO185.out⟩, ⟨by repeat (first | (with_reducible first | exact HB.out | apply below_alloc | apply pw_below_drewN | apply below_drew1) | exact HB.out)⟩⟩
              · rw [if_neg c10] at H
                exact absurd H (by simp)
            · rw [if_neg c9] at H
              have c9b0 : (t182.toList == t181.toList) = false := beq_eq_false_iff_ne.mpr c9
              have c9b1 : (t182.toList != t181.toList) = true := bne_iff_ne.mpr c9
              have H' := Aside0.mk H
              clear H
              go_wp2_with (first | ((with_reducible refine gate_callee (f := 68) rfl ?_); refine goesL_ (some 21) rfl rfl Tryz.func68 (by kernel_rfl) rfl #[.int .i64 x4_1, .int .i64 (l0.length : Int), .int .i64 3] rfl (by (try simp only [List.map_toArray, List.map_cons, List.map_nil]); first | done | rfl | (simp only [List.length_drop, List.length_take]; rfl)) ?_; (with_reducible refine (pomaderef01_written.calls kj1 x4_1 (l0.length : Int) 3 t181 _ A7.out).mono ?_); rintro e w14 ⟨rfl, hb⟩; refine ⟨_, rfl, ?_⟩; have n0_ := Aside0.mk (Kd.R_below (by (with_reducible repeat (first | apply Kd.R_alloc | apply Kd.R_drewN | apply Kd.R_drew)); exact HO_3.out) hb); have n1_ := Aside0.mk (below_step (by repeat (first | (with_reducible first | exact HB.out | apply below_alloc | apply pw_below_drewN | apply below_drew1) | exact HB.out)) hb); clear HO_3; clear HB; have HO_3 := n0_; have HB := n1_; clear n0_ n1_; (try clear hb); (try clear hb2); (try clear hk); (try clear hi)) | ((with_reducible refine gate_callee (f := 66) rfl ?_); refine goesL_ (some 24) rfl rfl Tryz.func66 (by kernel_rfl) rfl #[.slice A0 l0.length c0, .string t181] rfl (by (try simp only [List.map_toArray, List.map_cons, List.map_nil]); first | done | rfl | (simp only [List.length_drop, List.length_take]; rfl)) ?_; (with_reducible refine (pomaderef01_values.calls kj1 _ _ l0 t181 t182 _ ?side1 ?side2 A8.out).mono ?_); (case side1 => repeat (first | exact (Kd.C_below HR0.out HB.out) | (with_reducible refine Kd.C_alloc ?_ _) | (with_reducible refine Kd.C_drewN ?_ _) | (with_reducible refine Kd.C_drew ?_))); (case side2 => exact HC0.out); rintro e w15 ⟨rfl, hb⟩; refine ⟨_, rfl, ?_⟩; have n0_ := Aside0.mk (Kd.R_below (by (with_reducible repeat (first | apply Kd.R_alloc | apply Kd.R_drewN | apply Kd.R_drew)); exact HO_3.out) hb); have n1_ := Aside0.mk (below_step (by repeat (first | (with_reducible first | exact HB.out | apply below_alloc | apply pw_below_drewN | apply below_drew1) | exact HB.out)) hb); clear HO_3; clear HB; have HO_3 := n0_; have HB := n1_; clear n0_ n1_; (try clear hb); (try clear hb2); (try clear hk); (try clear hi)))
              go_roundg kj1
              case measure => have := HK1.out; have := HJ1.out; omega
              case rel => exact ⟨(x3_1), (wrap64 (x4_1 + 1)), (by first | rfl | (simp; done) | (simp [*]; done)), H', ⟨by have := HK1.out; have := HJ1.out; omega⟩, ⟨by (with_reducible repeat (first | apply Kd.R_alloc | apply Kd.R_drewN | apply Kd.R_drew)); exact HO_3.out⟩, ⟨by repeat (first | (with_reducible first | exact HB.out | apply below_alloc | apply pw_below_drewN | apply below_drew1) | exact HB.out)⟩⟩
          · replace c6 := Bool.eq_false_iff.mpr c6
            subst c6
            have H1 : (some x3_1) = some r := by rw [if_neg (show ¬ (false = true) by decide)] at H; exact H
            clear H
            have H := H1
            clear H1
            obtain rfl := Option.some.inj H
            go_wp2
            go_ret
            exact ⟨_, by first | rfl | (simp [errW_none, errW_some] <;> rfl) | (simp [*, errW_none, errW_some] <;> rfl), by (with_reducible repeat (first | apply Kd.R_alloc | apply Kd.R_drewN | apply Kd.R_drew)); exact HO_3.out, by repeat (first | (with_reducible first | exact HB.out | apply below_alloc | apply pw_below_drewN | apply below_drew1) | exact HB.out)⟩
end Go.Proofs.YtijaefmaceolbaaGreatDoor.Im

namespace Go.Proofs.YtijaefmaceolbaaGreatDoor.Im
open Go.RowKit Go.Proofs.YtijaefmaceolbaaGreatDoorW.PrintWords Go.Proofs.YtijaefmaceolbaaGreatDoorW.PrintLast Go.Proofs.YtijaefmaceolbaaGreatDoorW.PrintMore Go.Proofs.YtijaefmaceolbaaGreatDoor.Tr
set_option linter.unusedVariables false
set_option linter.unusedSimpArgs false
theorem pow3 {n : Nat} (h : n ≤ 10) : 3 ^ n ≤ 59049 := (Nat.pow_le_pow_right (by decide) h : 3 ^ n ≤ 3 ^ 10)
theorem power_l0 {n : Nat} (hn : n ≤ 10) : ∀ (d i : Nat), i + d = n → Gives (fun k => pomaderef01_power.l0 k 3 (n : Int) ((3 ^ i : Nat) : Int) i) ((3 ^ n : Nat) : Int)
  | 0, i, h => Gives.now fun k => by
    simp only [pomaderef01_power.l0]
    rw [if_neg (by omega), show i = n by omega]
  | d + 1, i, h => (power_l0 hn d (i + 1) (by omega)).step fun k hk => by
    have h3 := pow3 (show i + 1 ≤ 10 by omega)
    have e : wrap64 (((3 ^ i : Nat) : Int) * 3) = ((3 ^ (i + 1) : Nat) : Int) := by
      have e1 : (3 : Nat) ^ (i + 1) = 3 ^ i * 3 := Nat.pow_succ 3 i
      rw [e1] at h3 ⊢
      generalize (3 : Nat) ^ i = q at *
      unfold wrap64
      omega
    simp only [pomaderef01_power.l0]
    rw [if_pos (by omega), e, wr_succ i (by omega)]
    exact hk
theorem power_g {n : Nat} (hn : n ≤ 10) : Gives (fun k => pomaderef01_power.f k 3 (n : Int)) ((3 ^ n : Nat) : Int) := power_l0 hn n 0 (by omega)
theorem rfixed_l0 {n : Nat} {fs : List Fm} (S : Tr.Sys n fs) : ∀ (d x : Nat) (acc : List (List T3)), x + d = 3 ^ n → acc.length ≤ x → ∃ out : List (List T3), out.length ≤ 100000 ∧
      (if 1000 < (acc ++ (((List.range (3 ^ n)).map (wrB base3 n)).drop x).filter (fixB fs)).length then 1000 < out.length else out = acc ++ (((List.range (3 ^ n)).map (wrB base3 n)).drop x).filter (fixB fs)) ∧
      Gives (fun k => pomaderef01_fixed.l0 k (fs.map ndF) (acc.map strV) x) (out.map strV)
  | 0, x, acc, h, ha => by
    have h10 := pow3 S.n10
    refine ⟨acc, by omega, ?_, ?_⟩
    · rw [List.drop_of_length_le (by simp; omega)]
      simp
    · obtain ⟨k1, h1⟩ := power_g S.n10
      refine ⟨k1 + 2, fun k hk => ?_⟩
      obtain ⟨m, rfl⟩ : ∃ m, k = m + 2 := ⟨k - 2, by omega⟩
      have g1 : pomaderef01_power.f (m + 1) 3 (n : Int) = some ((3 ^ n : Nat) : Int) := h1 (m + 1) (by omega)
      simp only [pomaderef01_fixed.l0]
      rw [List.length_map, S.len, g1, Option.bind_some, if_neg (by omega)]
      simp [pomaderef01_fixed.j1]
  | d + 1, x, acc, h, ha => by
    have h10 := pow3 S.n10
    have hx : x < 3 ^ n := by omega
    have e1 : ((List.range (3 ^ n)).map (wrB base3 n)).drop x = wrB base3 n x :: ((List.range (3 ^ n)).map (wrB base3 n)).drop (x + 1) := by
      rw [List.drop_eq_getElem_cons (by simp; exact hx)]
      simp
    obtain ⟨kp, hp⟩ := power_g S.n10
    by_cases hs : acc.length ≤ 1000
    · have hw := written_g dig3 n x S.n10 (by omega)
      have hv := values_g S (wrB_len base3 n x)
      obtain ⟨k1, h1⟩ := hw
      obtain ⟨k2, h2⟩ := hv
      rw [e1]
      by_cases hf : nextV fs (wrB base3 n x) = wrB base3 n x
      · rw [List.filter_cons_of_pos (by show decide _ = true; exact decide_eq_true hf)]
        obtain ⟨out, ho1, ho2, k0, h0⟩ := rfixed_l0 S d (x + 1) (acc ++ [wrB base3 n x]) (by omega) (by simp; omega)
        rw [List.append_assoc, List.singleton_append] at ho2
        refine ⟨out, ho1, ho2, k0 + k1 + k2 + kp + 2, fun k hk => ?_⟩
        obtain ⟨m, rfl⟩ : ∃ m, k = m + 2 := ⟨k - 2, by omega⟩
        have g0 : pomaderef01_fixed.l0 m (fs.map ndF) ((acc ++ [wrB base3 n x]).map strV) ((x + 1 : Nat) : Int) = _ := h0 m (by omega)
        rw [List.map_append, show [wrB base3 n x].map strV = [strV (wrB base3 n x)] from rfl] at g0
        have g1 : pomaderef01_written.f m x n 3 = some (strV (wrB base3 n x)) := h1 m (by omega)
        have g2 : pomaderef01_values.f m (fs.map ndF) (strV (wrB base3 n x)) = some (strV (nextV fs (wrB base3 n x))) := h2 m (by omega)
        have gp : pomaderef01_power.f (m + 1) 3 (n : Int) = some ((3 ^ n : Nat) : Int) := hp (m + 1) (by omega)
        simp only [pomaderef01_fixed.l0]
        rw [List.length_map, S.len, gp, Option.bind_some, if_pos (by omega), List.length_map, decide_eq_true (show (acc.length : Int) ≤ 1000 by omega)]
        simp only [pomaderef01_fixed.j1]
        rw [if_pos trivial, List.length_map, S.len, g1, Option.bind_some, g2, Option.bind_some, hf, if_pos rfl, if_pos (by rw [List.length_map]; omega), wr_succ x (by omega)]
        exact g0
      · rw [List.filter_cons_of_neg (by show ¬ decide _ = true; rw [decide_eq_true_eq]; exact hf)]
        obtain ⟨out, ho1, ho2, k0, h0⟩ := rfixed_l0 S d (x + 1) acc (by omega) (by omega)
        refine ⟨out, ho1, ho2, k0 + k1 + k2 + kp + 2, fun k hk => ?_⟩
        obtain ⟨m, rfl⟩ : ∃ m, k = m + 2 := ⟨k - 2, by omega⟩
        have g0 : pomaderef01_fixed.l0 m (fs.map ndF) (acc.map strV) ((x + 1 : Nat) : Int) = _ := h0 m (by omega)
        have g1 : pomaderef01_written.f m x n 3 = some (strV (wrB base3 n x)) := h1 m (by omega)
        have g2 : pomaderef01_values.f m (fs.map ndF) (strV (wrB base3 n x)) = some (strV (nextV fs (wrB base3 n x))) := h2 m (by omega)
        have gp : pomaderef01_power.f (m + 1) 3 (n : Int) = some ((3 ^ n : Nat) : Int) := hp (m + 1) (by omega)
        simp only [pomaderef01_fixed.l0]
        rw [List.length_map, S.len, gp, Option.bind_some, if_pos (by omega), List.length_map, decide_eq_true (show (acc.length : Int) ≤ 1000 by omega)]
        simp only [pomaderef01_fixed.j1]
        rw [if_pos trivial, List.length_map, S.len, g1, Option.bind_some, g2, Option.bind_some, if_neg (fun h => hf (strV_eq h)), wr_succ x (by omega)]
        exact g0
    · refine ⟨acc, by omega, ?_, kp + 2, fun k hk => ?_⟩
      · rw [if_pos (by rw [List.length_append]; omega)]
        omega
      · obtain ⟨m, rfl⟩ : ∃ m, k = m + 2 := ⟨k - 2, by omega⟩
        have gp : pomaderef01_power.f (m + 1) 3 (n : Int) = some ((3 ^ n : Nat) : Int) := hp (m + 1) (by omega)
        simp only [pomaderef01_fixed.l0]
        rw [List.length_map, S.len, gp, Option.bind_some, if_pos (by omega), List.length_map, decide_eq_false (show ¬ (acc.length : Int) ≤ 1000 by omega)]
        simp [pomaderef01_fixed.j1]
theorem rfixed_any {n : Nat} {fs : List Fm} (S : Tr.Sys n fs) : ∃ out : List (List T3), out.length ≤ 100000 ∧ (if 1000 < (fixL fs).length then 1000 < out.length else out = fixL fs) ∧
    ∀ (w : World) (A : Option Addr) (c : Nat), Kd.C kNd w A n (fs.map ndF) → n ≤ c → Calls Tryz.prog 38 #[.slice A n c] w fun e w' => ∃ A2 c2, e = .returned (.slice A2 out.length c2) ∧ out.length ≤ c2 ∧ Kd.C Kd.string w' A2 out.length (out.map strV) ∧ Kd.R Kd.string 9 w' w.heap.size (fun _ => True) (.slice A2 out.length c2) (out.map strV) ∧ Below w.heap.size w w' := by
  obtain ⟨out, h1, h2, k, hk⟩ := rfixed_l0 S (3 ^ n) 0 [] (by omega) (by simp)
  rw [List.drop_zero, List.nil_append, show (3 ^ n) = base3.length ^ n from rfl, vals_wr (by decide)] at h2
  have e : (valsB base3 n).filter (fixB fs) = fixL fs := by unfold fixL; rw [S.len]
  rw [e] at h2
  refine ⟨out, h1, h2, fun w A c hC hc => ?_⟩
  have hl : (fs.map ndF).length = n := by rw [List.length_map, S.len]
  have := pomaderef01_fixed.calls k A c (fs.map ndF) (out.map strV) w (by rw [hl]; exact hC) (by rw [hl]; exact hc) (hk k (Nat.le_refl _))
  rw [hl] at this
  refine this.mono fun e w' ⟨v, h3, h4, h5⟩ => ?_
  obtain ⟨A2, c2, rfl, h6, h7⟩ := Kd.R_reads h4
  rw [List.length_map] at h3 h6 h7 h4
  exact ⟨A2, c2, h3, h6, h7, h4, h5⟩
theorem rleast_l1 {n : Nat} {fs : List Fm} (S : Tr.Sys n fs) : ∀ (d i : Nat), i + d = n → Gives (fun k => pomaderef01_least.l1 k (fs.map ndF) (strV (iterV fs i (noneV n))) i) (strV (iterV fs n (noneV n)))
  | 0, i, h => Gives.now fun k => by
    simp only [pomaderef01_least.l1]
    rw [List.length_map, S.len, if_neg (by omega), show i = n by omega]
  | d + 1, i, h => by
    have n10 := S.n10
    obtain ⟨k0, h0⟩ := rleast_l1 S d (i + 1) (by omega)
    obtain ⟨k1, h1⟩ := values_g S (show (iterV fs i (noneV n)).length = n by rw [iterV_len (by simp [noneV, S.len]), S.len])
    refine ⟨k0 + k1 + 1, fun k hk => ?_⟩
    obtain ⟨m, rfl⟩ : ∃ m, k = m + 1 := ⟨k - 1, by omega⟩
    have g1 : pomaderef01_values.f m (fs.map ndF) (strV (iterV fs i (noneV n))) = some (strV (nextV fs (iterV fs i (noneV n)))) := h1 m (by omega)
    simp only [pomaderef01_least.l1]
    rw [List.length_map, S.len, if_pos (by omega), g1, Option.bind_some, wr_succ i (by omega)]
    exact h0 m (by omega)
theorem rleast_l0 {n : Nat} {fs : List Fm} (S : Tr.Sys n fs) : ∀ (d i : Nat), i + d = n → Gives (fun k => pomaderef01_least.l0 k (fs.map ndF) (strV (noneV i)) i) (strV (iterV fs n (noneV n)))
  | 0, i, h => (rleast_l1 S n 0 (by omega)).step fun k hk => by
    simp only [pomaderef01_least.l0]
    rw [List.length_map, S.len, if_neg (by omega), show i = n by omega]
    exact hk
  | d + 1, i, h => (rleast_l0 S d (i + 1) (by omega)).step fun k hk => by
    have n10 := S.n10
    simp only [pomaderef01_least.l0]
    rw [List.length_map, S.len, if_pos (by omega), if_pos (by rw [strV_size]; simp [noneV]; omega), strV_one, wr_succ i (by omega)]
    exact hk
theorem rleast_any {n : Nat} {fs : List Fm} (S : Tr.Sys n fs) (w : World) (A : Option Addr) (c : Nat) (hC : Kd.C kNd w A n (fs.map ndF)) (hc : n ≤ c) : Calls Tryz.prog 37 #[.slice A n c] w fun e w' => e = .returned (.string (strV (leastV fs))) ∧ Below w.heap.size w w' := by
  obtain ⟨k, hk⟩ := rleast_l0 S n 0 (by omega)
  have e : iterV fs n (noneV n) = leastV fs := by unfold leastV; rw [S.len]
  rw [e] at hk
  have hl : (fs.map ndF).length = n := by rw [List.length_map, S.len]
  have := pomaderef01_least.calls k A c (fs.map ndF) (strV (leastV fs)) w (by rw [hl]; exact hC) (by rw [hl]; exact hc) (hk k (Nat.le_refl _))
  rw [hl] at this
  exact this
theorem rcom_l0 {v u : List T3} {n : Nat} (hn : n ≤ 10) (hv : v.length = n) (hu : u.length = n) : ∀ (d i : Nat), i + d = n → Gives (fun k => pomaderef01_Compatible.l0 k (strV v) (strV u) i) ((List.range' i d).all fun i => getV v i == none || (getV u i == none || getV v i == getV u i))
  | 0, i, h => by
    refine ⟨2, fun k hk => ?_⟩
    obtain ⟨m, rfl⟩ : ∃ m, k = m + 2 := ⟨k - 2, by omega⟩
    simp only [pomaderef01_Compatible.l0]
    rw [if_neg (by rw [strV_size]; omega)]
    simp [pomaderef01_Compatible.j1]
  | d + 1, i, h => by
    obtain ⟨k0, h0⟩ := rcom_l0 hn hv hu d (i + 1) (by omega)
    rw [List.range'_succ, List.all_cons]
    refine ⟨k0 + 2, fun k hk => ?_⟩
    obtain ⟨m, rfl⟩ : ∃ m, k = m + 2 := ⟨k - 2, by omega⟩
    have g0 := h0 m (by omega)
    simp only [pomaderef01_Compatible.l0]
    rw [if_pos (by rw [strV_size]; omega), decide_eq_true (show (i : Int) < ((strV u).size : Int) by rw [strV_size]; omega)]
    simp only [pomaderef01_Compatible.j1]
    rw [if_pos trivial, if_pos (by omega), if_pos (by rw [strV_size]; omega), if_pos (by rw [strV_size]; omega), bt_strV v i (by omega), bt_strV u i (by omega), com_key]
    cases hc : (getV v i == none || (getV u i == none || getV v i == getV u i))
    · rw [if_neg (by simp), Bool.false_and]
    · rw [if_pos rfl, Bool.true_and, wr_succ i (by omega)]
      exact g0
theorem rcom_any {v u : List T3} {n : Nat} (hn : n ≤ 10) (hv : v.length = n) (hu : u.length = n) (w : World) : Calls Tryz.prog 22 #[.string (strV v), .string (strV u)] w fun e w' => e = .returned (.bool (comB v u)) ∧ Below w.heap.size w w' := by
  obtain ⟨k, hk⟩ := rcom_l0 hn hv hu n 0 (by omega)
  have e : comB v u = (List.range' 0 n).all fun i => getV v i == none || (getV u i == none || getV v i == getV u i) := by
    unfold comB
    rw [hv, List.range_eq_range']
  rw [e]
  exact (pomaderef01_Compatible.calls k (strV v) (strV u) _ w (hk k (Nat.le_refl _))).mono fun e w' ⟨h1, h2⟩ => ⟨h1, h2.below⟩
theorem ext_key {α : Type} (a b : T3) (X Y : α) : (if b3 b = 63 then X else if b3 a = b3 b then X else Y) = if (b == none || a == b) = true then X else Y := by
  rcases a with _ | (_ | _) <;> rcases b with _ | (_ | _) <;> simp [b3, byte3]
theorem rext_l0 {v u : List T3} {n : Nat} (hn : n ≤ 10) (hv : v.length = n) (hu : u.length = n) : ∀ (d i : Nat), i + d = n → Gives (fun k => pomaderef01_Extends.l0 k (strV v) (strV u) i) ((List.range' i d).all fun i => getV u i == none || getV v i == getV u i)
  | 0, i, h => Gives.now fun k => by
    simp only [pomaderef01_Extends.l0]
    rw [if_neg (by rw [strV_size]; omega)]
    rfl
  | d + 1, i, h => by
    have ih := rext_l0 hn hv hu d (i + 1) (by omega)
    rw [List.range'_succ, List.all_cons]
    refine ih.step fun m g0 => ?_
    simp only [pomaderef01_Extends.l0]
    rw [if_pos (by rw [strV_size]; omega), if_pos (by omega), if_pos (by rw [strV_size]; omega), bt_strV v i (by omega), bt_strV u i (by omega), ext_key]
    cases hc : (getV u i == none || getV v i == getV u i)
    · rw [if_neg (by simp), Bool.false_and]
    · rw [if_pos rfl, Bool.true_and, wr_succ i (by omega)]
      exact g0
theorem rext_any {v u : List T3} {n : Nat} (hn : n ≤ 10) (hv : v.length = n) (hu : u.length = n) (w : World) : Calls Tryz.prog 12 #[.string (strV v), .string (strV u)] w fun e w' => e = .returned (.bool (extB v u)) ∧ Below w.heap.size w w' := by
  obtain ⟨k, hk⟩ := rext_l0 hn hv hu n 0 (by omega)
  have e : extB v u = (List.range' 0 n).all fun i => getV u i == none || getV v i == getV u i := by
    unfold extB
    rw [hv, List.range_eq_range']
  rw [e]
  exact (pomaderef01_Extends.calls k (strV v) (strV u) _ w (by unfold pomaderef01_Extends.f; rw [strV_size, strV_size, hv, hu, if_pos rfl]; exact hk k (Nat.le_refl _))).mono fun e w' ⟨h1, h2⟩ => ⟨h1, h2.below⟩
end Go.Proofs.YtijaefmaceolbaaGreatDoor.Im

namespace Go.Proofs.YtijaefmaceolbaaGreatDoor.Im
open Go.RowKit Go.Proofs.YtijaefmaceolbaaGreatDoorW.PrintWords Go.Proofs.YtijaefmaceolbaaGreatDoorW.PrintLast Go.Proofs.YtijaefmaceolbaaGreatDoorW.PrintMore Go.Proofs.YtijaefmaceolbaaGreatDoor.Tr
set_option linter.unusedVariables false
set_option linter.unusedSimpArgs false
set_option maxHeartbeats 1600000 in
set_option maxRecDepth 100000 in
theorem rleast_call (l : List (List UInt8)) (w : World) (A : Option Addr) (c : Nat) (hr : Kd.C Kd.string w A l.length (l.map strL)) :
    Calls Tryz.prog 17 #[.slice A l.length c] w (OutS (leastO l) w) := by
  by_cases h0 : sysE l = 0
  · have S := sys_ok h0
    have HO := Aside0.mk (rread_good h0 w A c hr)
    have HL := Aside0.mk (fun (w1 : World) (A1 : Option Addr) (c1 : Nat) (hC : Kd.C kNd w1 A1 l.length ((sysF l).map ndF)) (hc : l.length ≤ c1) => rleast_any S w1 A1 c1 hC hc)
    rw [show leastO l = (strV (leastV (sysF l)), 0) by unfold leastO; rw [if_pos h0]]
    clear hr h0 S
    generalize strV (leastV (sysF l)) = sl at *
    generalize l.length = n at *
    go_enter Tryz.func17, Tryz.ntmps17
    go_wp2_with fail
    refine HO.out.mono ?_
    rintro e w1 ⟨A1, c1, hc1, rfl, hC, hb⟩
    have HC := Aside0.mk hC
    have HB := Aside0.mk hb
    have HCC := Aside0.mk hc1
    clear hC hb hc1
    go_wp2_with fail
    refine (HL.out _ _ _ HC.out HCC.out).mono ?_
    rintro e w2 ⟨rfl, hb2⟩
    have HB2 := Aside0.mk (below_then HB.out HB.out.size hb2)
    clear hb2
    go_wp2_with fail
    go_ret2
    exact ⟨rfl, HB2.out⟩
  · have HO := Aside0.mk (rread_bad h0 w A c hr)
    have hne : (sysE l != 0) = true := bne_iff_ne.2 h0
    rw [show leastO l = (str0, sysE l) by unfold leastO; rw [if_neg h0]]
    clear h0 hr
    generalize sysE l = x at *
    go_enter Tryz.func17, Tryz.ntmps17
    go_wp2_with fail
    refine HO.out.mono ?_
    rintro e w1 ⟨rfl, hb⟩
    have HB := Aside0.mk hb
    clear hb
    go_wp2_with fail
    go_ret2
    exact ⟨rfl, HB.out⟩
set_option maxHeartbeats 1600000 in
set_option maxRecDepth 100000 in
theorem rfixed_call (l : List (List UInt8)) (w : World) (A : Option Addr) (c : Nat) (hr : Kd.C Kd.string w A l.length (l.map strL)) :
    Calls Tryz.prog 18 #[.slice A l.length c] w (OutT (fixedO l) w) := by
  by_cases h0 : sysE l = 0
  · have S := sys_ok h0
    have HO := Aside0.mk (rread_good h0 w A c hr)
    obtain ⟨out, ho1, ho2, ho3⟩ := rfixed_any S
    have HF := Aside0.mk ho3
    clear hr S ho3
    by_cases hm : 1000 < (fixL (sysF l)).length
    · rw [if_pos hm] at ho2
      rw [show fixedO l = ([], 8) by unfold fixedO; rw [if_pos h0, if_pos hm]]
      have t1 : decide (1000 < (out.length : Int)) = true := decide_eq_true (by omega)
      have t2 : decide (1000 < out.length) = true := decide_eq_true (by omega)
      clear h0 hm
      generalize l.length = n at *
      go_enter Tryz.func18, Tryz.ntmps18
      go_wp2_with fail
      refine HO.out.mono ?_
      rintro e w1 ⟨A1, c1, hc1, rfl, hC, hb⟩
      have HC := Aside0.mk hC
      have HB := Aside0.mk hb
      have HCC := Aside0.mk hc1
      clear hC hb hc1
      go_wp2_with fail
      refine (HF.out _ _ _ HC.out HCC.out).mono ?_
      rintro e w2 ⟨A2, c2, rfl, hl2, hC2, hR2, hb2⟩
      have HB2 := Aside0.mk (below_then HB.out HB.out.size hb2)
      clear hb2 hl2 hC2 hR2
      go_wp2_with fail
      go_ret2
      exact ⟨.slice none 0 0, rfl, Kd.R_nil _ _ _ _ _, HB2.out⟩
    · rw [if_neg hm] at ho2
      rw [show fixedO l = (fixL (sysF l), 0) by unfold fixedO; rw [if_pos h0, if_neg hm], ← ho2]
      have hm2 : ¬ 1000 < out.length := by rw [ho2]; exact hm
      have t1 : decide (1000 < (out.length : Int)) = false := decide_eq_false (by omega)
      have t2 : decide (1000 < out.length) = false := decide_eq_false (by omega)
      clear h0 hm ho2
      generalize l.length = n at *
      go_enter Tryz.func18, Tryz.ntmps18
      go_wp2_with fail
      refine HO.out.mono ?_
      rintro e w1 ⟨A1, c1, hc1, rfl, hC, hb⟩
      have HC := Aside0.mk hC
      have HB := Aside0.mk hb
      have HCC := Aside0.mk hc1
      clear hC hb hc1
      go_wp2_with fail
      refine (HF.out _ _ _ HC.out HCC.out).mono ?_
      rintro e w2 ⟨A2, c2, rfl, hl2, hC2, hR2, hb2⟩
      have HB2 := Aside0.mk (below_then HB.out HB.out.size hb2)
      have HR2 := Aside0.mk (Kd.R_lower hR2 HB.out.size)
      clear hb2 hl2 hC2 hR2
      go_wp2_with fail
      go_ret2
      exact ⟨_, rfl, HR2.out, HB2.out⟩
  · have HO := Aside0.mk (rread_bad h0 w A c hr)
    have hne : (sysE l != 0) = true := bne_iff_ne.2 h0
    rw [show fixedO l = ([], sysE l) by unfold fixedO; rw [if_neg h0]]
    clear h0 hr
    generalize sysE l = x at *
    go_enter Tryz.func18, Tryz.ntmps18
    go_wp2_with fail
    refine HO.out.mono ?_
    rintro e w1 ⟨rfl, hb⟩
    have HB := Aside0.mk hb
    clear hb
    go_wp2_with fail
    go_ret2
    exact ⟨.slice none 0 0, rfl, Kd.R_nil _ _ _ _ _, HB.out⟩
theorem foldR_take {all : List (List T3)} {x b : List T3} {i : Nat} (h : i < all.length) (hx : all.getD i [] = x) : (all.take (i + 1)).foldl (stepR all) b = stepR all ((all.take i).foldl (stepR all) b) x := by
  rw [List.take_succ_eq_append_getElem h, List.foldl_append]
  have : all[i] = x := by rw [← hx]; simp [h]
  rw [this]
  rfl
theorem take_no {all : List (List T3)} {p : List T3 → Bool} {k : Nat} (h : (all.take k).all p = false) : all.all p = false := by
  cases h2 : all.all p
  · rfl
  · rw [List.all_eq_true] at h2
    have : (all.take k).all p = true := List.all_eq_true.2 fun x hx => h2 x (List.mem_of_mem_take hx)
    rw [this] at h
    cases h
set_option maxHeartbeats 6400000 in
set_option maxRecDepth 100000 in
theorem rintrinsic_good {n : Nat} {fs : List Fm} (S : Tr.Sys n fs) (hm : ¬ 1000 < (fixL fs).length) (w : World) (A : Option Addr) (c : Nat) (HO : Aside0 (Calls Tryz.prog 30 #[.slice A n c] w (RdGood n fs w)))
    (HF : Aside0 (∀ (w : World) (A : Option Addr) (c : Nat), Kd.C kNd w A n (fs.map ndF) → n ≤ c → Calls Tryz.prog 38 #[.slice A n c] w fun e w' => ∃ A2 c2, e = .returned (.slice A2 (fixL fs).length c2) ∧ (fixL fs).length ≤ c2 ∧ Kd.C Kd.string w' A2 (fixL fs).length ((fixL fs).map strV) ∧ Kd.R Kd.string 9 w' w.heap.size (fun _ => True) (.slice A2 (fixL fs).length c2) ((fixL fs).map strV) ∧ Below w.heap.size w w')) :
    Calls Tryz.prog 21 #[.slice A n c] w (OutS (strV (topV fs), 0) w) := by
  have HT := Aside0.mk (ref_top fs)
  have n10 := S.n10
  have HLN := Aside0.mk (show ∀ x ∈ fixL fs, x.length = n from fun x hx => by rw [(mem_fixL.1 hx).len, S.len])
  have HLL := Aside0.mk (show (leastV fs).length = n from by rw [leastV_len, S.len])
  have HLE := Aside0.mk (fun (w1 : World) (A1 : Option Addr) (c1 : Nat) (hC : Kd.C kNd w1 A1 n (fs.map ndF)) (hc : n ≤ c1) => rleast_any S w1 A1 c1 hC hc)
  generalize topV fs = top at *
  generalize leastV fs = lea at *
  obtain ⟨al, hal⟩ : ∃ al, fixL fs = al := ⟨_, rfl⟩
  rw [hal] at hm HT HLN HF
  clear S hal
  obtain ⟨m, hmm⟩ : ∃ m, al.length = m := ⟨_, rfl⟩
  have HMM := Aside0.mk hmm
  rw [hmm] at HF hm
  clear hmm
  have m1 : m ≤ 1000 := by omega
  have t1 : decide (1000 < (m : Int)) = false := decide_eq_false (by omega)
  have t2 : decide (1000 < m) = false := decide_eq_false (by omega)
  clear hm
  go_enter Tryz.func21, Tryz.ntmps21
  go_wp2_with fail
  refine HO.out.mono ?_
  rintro e w1 ⟨A1, c1, hc1, rfl, hC, hb⟩
  have HC := Aside0.mk hC
  have HB := Aside0.mk hb
  have HCC := Aside0.mk hc1
  clear hC hb hc1
  go_wp2_with fail
  refine (HF.out _ _ _ HC.out HCC.out).mono ?_
  rintro e w2 ⟨A2, c2, rfl, hl2, hC2, hR2, hb2⟩
  have HB2 := Aside0.mk (below_then HB.out HB.out.size hb2)
  have HCN := Aside0.mk (Kd.C_below HC.out hb2)
  have HC2 := Aside0.mk hC2
  clear hb2 hl2 hC2 hR2
  go_wp2_with fail
  refine (HLE.out _ _ _ HCN.out HCC.out).mono ?_
  rintro e w3 ⟨rfl, hb3⟩
  have HB3 := Aside0.mk (below_then HB2.out HB2.out.size hb3)
  have HC3 := Aside0.mk (Kd.C_below HC2.out hb3)
  clear hb3 HC2 HB2 HB HCN HC HCC HF HO HLE
  have HBR := Aside0.mk (Below.refl w3.heap.size w3)
  have HCX := Aside0.mk (show ∀ (W : World), Below w3.heap.size w3 W → ∀ i, i < m → ∃ ad, A2 = some ad ∧ W.cell? (ad.add i) = some (.string (strV (al.getD i []))) from fun W hW i hi => by
    obtain ⟨ad, e1, h1⟩ := Kd.at_string (Kd.C_below HC3.out hW) (i : Int) (by omega) (by omega)
    rw [Int.toNat_natCast] at h1
    have er : rdOf ByteArray.empty (al.map strV) (i : Int) = strV (al.getD i []) := by
      have hl : i < al.length := by rw [HMM.out]; exact hi
      simp [rdOf, hl]
    rw [er] at h1
    exact ⟨ad, e1, h1⟩)
  have HGM := Aside0.mk (show ∀ i, i < m → al.getD i [] ∈ al from fun i hi => by
    have hl : i < al.length := by rw [HMM.out]; exact hi
    rw [List.getD_eq_getElem?_getD, List.getElem?_eq_getElem hl]
    exact List.getElem_mem hl)
  go_wp2_with fail
  go_loopw [7, 8] (fun v7 v8 wr => ∃ (i : Nat) (b : List T3), i ≤ m ∧ v7 = .string (strV b) ∧ v8 = .int .i64 (i : Int) ∧ Aside0 (b = (al.take i).foldl (stepR al) lea) ∧ Aside0 (b.length = n) ∧ Aside0 (Below w3.heap.size w3 wr)) (fun _ v8 _ => m - (intOf v8).toNat)
  case atStart => exact ⟨0, lea, by omega, rfl, rfl, ⟨by simp⟩, HLL, HBR⟩
  case round =>
    clear HBR
    obtain ⟨i, b, hi, rfl, rfl, HBB, HBL, HBW⟩ := hrel
    have i0 : (0 : Int) ≤ (i : Int) := by omega
    by_cases him : i < m
    · have him' : (i : Int) < (m : Int) := by omega
      obtain ⟨ad, rfl, cx⟩ := HCX.out _ HBW.out i him
      obtain ⟨x, hx⟩ : ∃ x, al.getD i [] = x := ⟨_, rfl⟩
      have hxm : x ∈ al := by rw [← hx]; exact HGM.out i him
      have hxl := HLN.out x hxm
      have HFT := Aside0.mk (show (al.take (i + 1)).foldl (stepR al) lea = if extB x b && intB al x then x else b by rw [foldR_take (by rw [HMM.out]; exact him) hx, ← HBB.out]; rfl)
      rw [hx] at cx
      have HXL := Aside0.mk hxl
      have HCA := Aside0.mk (fun (y : List T3) (hy : y ∈ al) (w8 : World) => rcom_any n10 hxl (HLN.out y hy) w8)
      have HEX := Aside0.mk (rext_any n10 hxl HBL.out wr)
      have HCI := Aside0.mk (show ∀ W, Below w3.heap.size w3 W → W.cell? (ad.add i) = some (.string (strV x)) from fun W hW => by
        obtain ⟨_, e1, h1⟩ := HCX.out W hW i him
        cases e1
        rw [hx] at h1
        exact h1)
      clear hx hxl hxm
      obtain ⟨sx, hsx⟩ : ∃ s, strV x = s := ⟨_, rfl⟩
      rw [hsx] at cx HCA HEX HCI
      have HSX := Aside0.mk hsx
      obtain ⟨sb, hsb⟩ : ∃ s, strV b = s := ⟨_, rfl⟩
      rw [hsb] at HEX
      rw [hsb]
      have HSB := Aside0.mk hsb
      clear hsx hsb
      obtain ⟨eb, heb⟩ : ∃ e, extB x b = e := ⟨_, rfl⟩
      rw [heb] at HEX HFT
      clear heb
      go_wp2_with fail
      refine HEX.out.mono ?_
      rintro e w5 ⟨rfl, hb5⟩
      have HB5 := Aside0.mk (below_then HBW.out HBW.out.size hb5)
      clear hb5
      go_wp2_with fail
      have HBI := Aside0.mk (Below.refl w5.heap.size w5)
      have H1 := Aside0.mk (show Value.bool eb = .bool (eb && (al.take 0).all (comB x)) from by simp)
      go_loopw [9, 10] (fun v9 v10 wr => ∃ k : Nat, k ≤ m ∧ v9 = .bool (eb && (al.take k).all (comB x)) ∧ v10 = .int .i64 (k : Int) ∧ Aside0 (Below w5.heap.size w5 wr)) (fun _ v10 _ => m - (intOf v10).toNat)
      case atStart => exact ⟨0, by omega, H1.out, rfl, HBI⟩
      case round =>
        clear HBI H1
        obtain ⟨k, hk, rfl, rfl, HBK⟩ := hrel
        have k0 : (0 : Int) ≤ (k : Int) := by omega
        have HBT := Aside0.mk (below_then HB5.out HB5.out.size HBK.out)
        have ci := HCI.out _ HBT.out
        by_cases hkm : k < m
        · have hkm' : (k : Int) < (m : Int) := by omega
          obtain ⟨_, e1, cy⟩ := HCX.out _ HBT.out k hkm
          cases e1
          obtain ⟨y, hy⟩ : ∃ y, al.getD k [] = y := ⟨_, rfl⟩
          have hym : y ∈ al := by rw [← hy]; exact HGM.out k hkm
          have HAT := Aside0.mk (all_take (p := comB x) (show k < al.length by rw [HMM.out]; exact hkm) hy)
          have HCZ2 := Aside0.mk (HCA.out y hym wr.drew)
          rw [hy] at cy
          clear hy hym
          obtain ⟨f, hf⟩ : ∃ f, (eb && (al.take k).all (comB x)) = f := ⟨_, rfl⟩
          rw [hf]
          cases f
          · have HNO := Aside0.mk (show (al.take (i + 1)).foldl (stepR al) lea = b from by
              rw [HFT.out, if_neg]
              intro h
              rw [Bool.and_eq_true] at h
              rw [h.1, Bool.true_and] at hf
              have h2 : intB al x = al.all (comB x) := rfl
              rw [h2, take_no hf] at h
              cases h.2)
            clear hf HAT HCZ2
            go_wp2_with fail
            go_roundw
            case rel => exact ⟨i + 1, b, by omega, by rw [HSB.out], by go_num, ⟨HNO.out.symm⟩, HBL, HBT⟩
            case measure => simp [intOf]; omega
          · rw [Bool.and_eq_true] at hf
            have HAT2 := Aside0.mk (show (eb && (al.take (k + 1)).all (comB x)) = comB x y from by rw [HAT.out, hf.1, hf.2]; simp)
            clear hf HAT
            generalize strV y = sy at *
            generalize comB x y = cb at *
            have HSS := Aside0.mk (show ∀ w2, Below wr.drew.heap.size wr.drew w2 → w2.cell? (ad.add i) = some (.string sx) ∧ w2.cell? (ad.add k) = some (.string sy) from fun w2 h => ⟨pw_cell_below h ci, pw_cell_below h cy⟩)
            go_upto_region 15 with fail
            go_region_held3 (fun w' => w'.cell? (ad.add i) = some (.string sx) ∧ w'.cell? (ad.add k) = some (.string sy)) (first | go_keep | exact HSS.out _ hb2)
              (first | (with_reducible refine HCZ2.out.mono ?_; rintro e w8 ⟨rfl, hb2⟩))
            have HBJ := Aside0.mk (below_then (below_drew HBK.out) (below_drew HBK.out).size hb2)
            clear hb2
            go_wp2_with fail
            go_roundw
            case rel => exact ⟨k + 1, by omega, by rw [HAT2.out], by go_num, HBJ⟩
            case measure => simp [intOf]; omega
        · obtain rfl : m = k := by omega
          have hall : (al.take m).all (comB x) = intB al x := by rw [List.take_of_length_le (by rw [HMM.out]; exact Nat.le_refl _)]; rfl
          rw [hall]
          clear hall hkm
          obtain ⟨f, hf⟩ : ∃ f, (eb && intB al x) = f := ⟨_, rfl⟩
          rw [hf] at HFT ⊢
          clear hf
          cases f
          · have HNO := Aside0.mk (show (al.take (i + 1)).foldl (stepR al) lea = b from HFT.out)
            go_wp2_with fail
            go_roundw
            case rel => exact ⟨i + 1, b, by omega, by rw [HSB.out], by go_num, ⟨HNO.out.symm⟩, HBL, HBT⟩
            case measure => simp [intOf]; omega
          · have HNO := Aside0.mk (show (al.take (i + 1)).foldl (stepR al) lea = x from HFT.out)
            go_wp2_with fail
            go_roundw
            case rel => exact ⟨i + 1, x, by omega, by rw [HSX.out], by go_num, ⟨HNO.out.symm⟩, HXL, HBT⟩
            case measure => simp [intOf]; omega
    · obtain rfl : m = i := by omega
      have hbt := HBB.out
      rw [List.take_of_length_le (by rw [HMM.out]; exact Nat.le_refl _), HT.out] at hbt
      subst hbt
      clear him
      go_wp2_with fail
      go_ret2
      exact ⟨rfl, below_then HB3.out HB3.out.size HBW.out⟩
set_option maxHeartbeats 1600000 in
set_option maxRecDepth 100000 in
theorem rintrinsic_call (l : List (List UInt8)) (w : World) (A : Option Addr) (c : Nat) (hr : Kd.C Kd.string w A l.length (l.map strL)) :
    Calls Tryz.prog 21 #[.slice A l.length c] w (OutS (intrinsicO l) w) := by
  by_cases h0 : sysE l = 0
  · have S := sys_ok h0
    have HO := Aside0.mk (rread_good h0 w A c hr)
    obtain ⟨out, ho1, ho2, ho3⟩ := rfixed_any S
    have HF := Aside0.mk ho3
    clear hr ho3
    by_cases hm : 1000 < (fixL (sysF l)).length
    · rw [if_pos hm] at ho2
      rw [show intrinsicO l = (str0, 8) by unfold intrinsicO; rw [if_pos h0, if_pos hm]]
      have t1 : decide (1000 < (out.length : Int)) = true := decide_eq_true (by omega)
      have t2 : decide (1000 < out.length) = true := decide_eq_true (by omega)
      clear h0 hm S
      generalize l.length = n at *
      go_enter Tryz.func21, Tryz.ntmps21
      go_wp2_with fail
      refine HO.out.mono ?_
      rintro e w1 ⟨A1, c1, hc1, rfl, hC, hb⟩
      have HC := Aside0.mk hC
      have HB := Aside0.mk hb
      have HCC := Aside0.mk hc1
      clear hC hb hc1
      go_wp2_with fail
      refine (HF.out _ _ _ HC.out HCC.out).mono ?_
      rintro e w2 ⟨A2, c2, rfl, hl2, hC2, hR2, hb2⟩
      have HB2 := Aside0.mk (below_then HB.out HB.out.size hb2)
      clear hb2 hl2 hC2 hR2
      go_wp2_with fail
      go_ret2
      exact ⟨rfl, HB2.out⟩
    · rw [if_neg hm] at ho2
      subst ho2
      rw [show intrinsicO l = (strV (topV (sysF l)), 0) by unfold intrinsicO; rw [if_pos h0, if_neg hm]]
      exact rintrinsic_good S hm w A c HO HF
  · have HO := Aside0.mk (rread_bad h0 w A c hr)
    have hne : (sysE l != 0) = true := bne_iff_ne.2 h0
    rw [show intrinsicO l = (str0, sysE l) by unfold intrinsicO; rw [if_neg h0]]
    clear h0 hr
    generalize sysE l = x at *
    go_enter Tryz.func21, Tryz.ntmps21
    go_wp2_with fail
    refine HO.out.mono ?_
    rintro e w1 ⟨rfl, hb⟩
    have HB := Aside0.mk hb
    clear hb
    go_wp2_with fail
    go_ret2
    exact ⟨rfl, HB.out⟩
end Go.Proofs.YtijaefmaceolbaaGreatDoor.Im

namespace Go.Proofs.YtijaefmaceolbaaGreatDoor.Im
open Go.RowKit Go.Proofs.YtijaefmaceolbaaGreatDoorW.PrintWords Go.Proofs.YtijaefmaceolbaaGreatDoorW.PrintLast Go.Proofs.YtijaefmaceolbaaGreatDoorW.PrintMore Go.Proofs.YtijaefmaceolbaaGreatDoor.Tr
set_option linter.unusedVariables false
set_option linter.unusedSimpArgs false
theorem fixedO_len (L : List (List UInt8)) : (fixedO L).1.length ≤ 1000 := by
  unfold fixedO
  split
  · split
    · simp
    · show (fixL (sysF L)).length ≤ 1000
      omega
  · simp
set_option maxHeartbeats 6400000 in
set_option maxRecDepth 100000 in
theorem law_fixed (L : List (List UInt8)) (A : Option Addr) (c : Nat) (w : World) (hr : Kd.C Kd.string w A L.length (L.map strL)) (hc : L.length ≤ c) :
    Calls Tryz.prog 4 #[.slice A L.length c] w fun e w' => e = .returned (.bool true) ∧ Below w.heap.size w w' := by
  have hml : (L.map strL).length = L.length := List.length_map _
  have hfew := few_any (L.map strL) A c w (by rw [hml]; exact hr) (by rw [hml]; exact hc)
  rw [hml] at hfew
  have HF := Aside0.mk hfew
  have HR := Aside0.mk hr
  clear hfew
  cases hf : fewB (L.map strL)
  · rw [hf] at HF
    clear hf hr
    go_enter Tryz.func4, Tryz.ntmps4
    go_wp2_with fail
    refine HF.out.mono ?_
    rintro e w1 ⟨rfl, hb1⟩
    have HB1 := Aside0.mk hb1
    have HR1 := Aside0.mk (Kd.C_below HR.out hb1)
    clear hb1
    go_wp2_with fail
    refine (alive_any _).mono ?_
    rintro e w2 ⟨rfl, hb2⟩
    have HB2 := Aside0.mk (below_then HB1.out HB1.out.size hb2)
    have HR2 := Aside0.mk (Kd.C_below HR1.out hb2)
    clear hb2 HB1 HR1
    go_wp2_with fail
    go_ret
    exact ⟨rfl, HB2.out⟩
  · rw [hf] at HF
    clear hf hr
    by_cases h7 : 7 < L.length
    · have t7 : decide (7 < (L.length : Int)) = true := decide_eq_true (by omega)
      have t7' : decide (7 < L.length) = true := decide_eq_true (by omega)
      by_cases h10 : L.length ≤ 10
      · have t10 : decide ((L.length : Int) ≤ 10) = true := decide_eq_true (by omega)
        have t10' : decide (L.length ≤ 10) = true := decide_eq_true (by omega)
        have HV1 := Aside0.mk (fun (w1 : World) (hC : Kd.C Kd.string w1 A L.length (L.map strL)) => least_call L w1 A c hC)
        have HV2 := Aside0.mk (fun (w1 : World) (hC : Kd.C Kd.string w1 A L.length (L.map strL)) => rleast_call L w1 A c hC)
        have HV3 := Aside0.mk (fun (w1 : World) (hC : Kd.C Kd.string w1 A L.length (L.map strL)) => fixed_call L w1 A c hC)
        have HV4 := Aside0.mk (fun (w1 : World) (hC : Kd.C Kd.string w1 A L.length (L.map strL)) => rfixed_call L w1 A c hC)
        have HV5 := Aside0.mk (fun (w1 : World) (hC : Kd.C Kd.string w1 A L.length (L.map strL)) => intrinsic_call L w1 A c hC)
        have HV6 := Aside0.mk (fun (w1 : World) (hC : Kd.C Kd.string w1 A L.length (L.map strL)) => rintrinsic_call L w1 A c hC)
        have HXL := Aside0.mk (fixedO_len L)
        generalize leastO L = q at *
        generalize fixedO L = r at *
        generalize intrinsicO L = u at *
        obtain ⟨qs, qe⟩ := q
        obtain ⟨rs, re⟩ := r
        obtain ⟨us, ue⟩ := u
        have e1 : (qs.toList == qs.toList) = true := by simp
        have e2 : (qs.toList != qs.toList) = false := by simp
        have e3 : (us.toList == us.toList) = true := by simp
        have e4 : (qe == qe) = true := by simp
        have e5 : (qe != qe) = false := by simp
        have e6 : (re == re) = true := by simp
        have e7 : (re != re) = false := by simp
        have e8 : (ue == ue) = true := by simp
        go_enter Tryz.func4, Tryz.ntmps4
        go_wp2_with fail
        refine HF.out.mono ?_
        rintro e w1 ⟨rfl, hb1⟩
        have HB1 := Aside0.mk hb1
        have HR1 := Aside0.mk (Kd.C_below HR.out hb1)
        clear hb1
        go_wp2_with fail
        refine (HV1.out _ HR1.out).mono ?_
        rintro e w2 ⟨rfl, hb2⟩
        have HB2 := Aside0.mk (below_then HB1.out HB1.out.size hb2)
        have HR2 := Aside0.mk (Kd.C_below HR1.out hb2)
        clear hb2 HB1 HR1
        go_wp2_with fail
        refine (HV2.out _ HR2.out).mono ?_
        rintro e w3 ⟨rfl, hb3⟩
        have HB3 := Aside0.mk (below_then HB2.out HB2.out.size hb3)
        have HR3 := Aside0.mk (Kd.C_below HR2.out hb3)
        clear hb3 HB2 HR2
        go_wp2_with fail
        refine (alive_any _).mono ?_
        rintro e w4 ⟨rfl, hb4⟩
        have HB4 := Aside0.mk (below_then HB3.out HB3.out.size hb4)
        have HR4 := Aside0.mk (Kd.C_below HR3.out hb4)
        clear hb4 HB3 HR3
        go_wp2_with fail
        go_ret
        exact ⟨rfl, HB4.out⟩
      · have t10 : decide ((L.length : Int) ≤ 10) = false := decide_eq_false (by omega)
        have t10' : decide (L.length ≤ 10) = false := decide_eq_false (by omega)
        have HV1 := Aside0.mk (fun (w1 : World) (hC : Kd.C Kd.string w1 A L.length (L.map strL)) => least_call L w1 A c hC)
        have HV2 := Aside0.mk (fun (w1 : World) (hC : Kd.C Kd.string w1 A L.length (L.map strL)) => rleast_call L w1 A c hC)
        have HV3 := Aside0.mk (fun (w1 : World) (hC : Kd.C Kd.string w1 A L.length (L.map strL)) => fixed_call L w1 A c hC)
        have HV4 := Aside0.mk (fun (w1 : World) (hC : Kd.C Kd.string w1 A L.length (L.map strL)) => rfixed_call L w1 A c hC)
        have HV5 := Aside0.mk (fun (w1 : World) (hC : Kd.C Kd.string w1 A L.length (L.map strL)) => intrinsic_call L w1 A c hC)
        have HV6 := Aside0.mk (fun (w1 : World) (hC : Kd.C Kd.string w1 A L.length (L.map strL)) => rintrinsic_call L w1 A c hC)
        have HXL := Aside0.mk (fixedO_len L)
        generalize leastO L = q at *
        generalize fixedO L = r at *
        generalize intrinsicO L = u at *
        obtain ⟨qs, qe⟩ := q
        obtain ⟨rs, re⟩ := r
        obtain ⟨us, ue⟩ := u
        have e1 : (qs.toList == qs.toList) = true := by simp
        have e2 : (qs.toList != qs.toList) = false := by simp
        have e3 : (us.toList == us.toList) = true := by simp
        have e4 : (qe == qe) = true := by simp
        have e5 : (qe != qe) = false := by simp
        have e6 : (re == re) = true := by simp
        have e7 : (re != re) = false := by simp
        have e8 : (ue == ue) = true := by simp
        go_enter Tryz.func4, Tryz.ntmps4
        go_wp2_with fail
        refine HF.out.mono ?_
        rintro e w1 ⟨rfl, hb1⟩
        have HB1 := Aside0.mk hb1
        have HR1 := Aside0.mk (Kd.C_below HR.out hb1)
        clear hb1
        go_wp2_with fail
        refine (HV1.out _ HR1.out).mono ?_
        rintro e w2 ⟨rfl, hb2⟩
        have HB2 := Aside0.mk (below_then HB1.out HB1.out.size hb2)
        have HR2 := Aside0.mk (Kd.C_below HR1.out hb2)
        clear hb2 HB1 HR1
        go_wp2_with fail
        refine (HV2.out _ HR2.out).mono ?_
        rintro e w3 ⟨rfl, hb3⟩
        have HB3 := Aside0.mk (below_then HB2.out HB2.out.size hb3)
        have HR3 := Aside0.mk (Kd.C_below HR2.out hb3)
        clear hb3 HB2 HR2
        go_wp2_with fail
        refine (HV3.out _ HR3.out).mono ?_
        rintro e w4 ⟨v4, rfl, hv4, hb4⟩
        have HB4 := Aside0.mk (below_then HB3.out HB3.out.size hb4)
        have HR4 := Aside0.mk (Kd.C_below HR3.out hb4)
        obtain ⟨A4, c4, rfl, hl4, hC4⟩ := Kd.R_reads hv4
        have HP4 := Aside0.mk hC4
        have HQ4 := Aside0.mk hl4
        clear hv4 hl4 hC4
        clear hb4 HB3 HR3
        go_wp2_with fail
        refine (HV4.out _ HR4.out).mono ?_
        rintro e w5 ⟨v5, rfl, hv5, hb5⟩
        have HB5 := Aside0.mk (below_then HB4.out HB4.out.size hb5)
        have HR5 := Aside0.mk (Kd.C_below HR4.out hb5)
        obtain ⟨A5, c5, rfl, hl5, hC5⟩ := Kd.R_reads hv5
        have HTX := Aside0.mk (texts_any (rs.map strV) A4 A5 c4 c5 w5 (by rw [List.length_map]; exact Nat.lt_of_le_of_lt HXL.out (by decide)) (Kd.C_below HP4.out hb5) HQ4.out hC5 hl5)
        clear hv5 hl5 hC5
        rw [List.length_map] at HTX
        clear hb5 HB4 HR4
        go_wp2_with fail
        refine HTX.out.mono ?_
        rintro e w6 ⟨rfl, hb6⟩
        have HB6 := Aside0.mk (below_then HB5.out HB5.out.size hb6)
        have HR6 := Aside0.mk (Kd.C_below HR5.out hb6)
        clear hb6 HB5 HR5
        go_wp2_with fail
        refine (HV5.out _ HR6.out).mono ?_
        rintro e w7 ⟨rfl, hb7⟩
        have HB7 := Aside0.mk (below_then HB6.out HB6.out.size hb7)
        have HR7 := Aside0.mk (Kd.C_below HR6.out hb7)
        clear hb7 HB6 HR6
        go_wp2_with fail
        refine (HV6.out _ HR7.out).mono ?_
        rintro e w8 ⟨rfl, hb8⟩
        have HB8 := Aside0.mk (below_then HB7.out HB7.out.size hb8)
        have HR8 := Aside0.mk (Kd.C_below HR7.out hb8)
        clear hb8 HB7 HR7
        go_wp2_with fail
        refine (alive_any _).mono ?_
        rintro e w9 ⟨rfl, hb9⟩
        have HB9 := Aside0.mk (below_then HB8.out HB8.out.size hb9)
        have HR9 := Aside0.mk (Kd.C_below HR8.out hb9)
        clear hb9 HB8 HR8
        go_wp2_with fail
        go_ret
        exact ⟨rfl, HB9.out⟩
    · have t7 : decide (7 < (L.length : Int)) = false := decide_eq_false (by omega)
      have t7' : decide (7 < L.length) = false := decide_eq_false (by omega)
      have HV1 := Aside0.mk (fun (w1 : World) (hC : Kd.C Kd.string w1 A L.length (L.map strL)) => least_call L w1 A c hC)
      have HV2 := Aside0.mk (fun (w1 : World) (hC : Kd.C Kd.string w1 A L.length (L.map strL)) => rleast_call L w1 A c hC)
      have HV3 := Aside0.mk (fun (w1 : World) (hC : Kd.C Kd.string w1 A L.length (L.map strL)) => fixed_call L w1 A c hC)
      have HV4 := Aside0.mk (fun (w1 : World) (hC : Kd.C Kd.string w1 A L.length (L.map strL)) => rfixed_call L w1 A c hC)
      have HV5 := Aside0.mk (fun (w1 : World) (hC : Kd.C Kd.string w1 A L.length (L.map strL)) => intrinsic_call L w1 A c hC)
      have HV6 := Aside0.mk (fun (w1 : World) (hC : Kd.C Kd.string w1 A L.length (L.map strL)) => rintrinsic_call L w1 A c hC)
      have HXL := Aside0.mk (fixedO_len L)
      generalize leastO L = q at *
      generalize fixedO L = r at *
      generalize intrinsicO L = u at *
      obtain ⟨qs, qe⟩ := q
      obtain ⟨rs, re⟩ := r
      obtain ⟨us, ue⟩ := u
      have e1 : (qs.toList == qs.toList) = true := by simp
      have e2 : (qs.toList != qs.toList) = false := by simp
      have e3 : (us.toList == us.toList) = true := by simp
      have e4 : (qe == qe) = true := by simp
      have e5 : (qe != qe) = false := by simp
      have e6 : (re == re) = true := by simp
      have e7 : (re != re) = false := by simp
      have e8 : (ue == ue) = true := by simp
      go_enter Tryz.func4, Tryz.ntmps4
      go_wp2_with fail
      refine HF.out.mono ?_
      rintro e w1 ⟨rfl, hb1⟩
      have HB1 := Aside0.mk hb1
      have HR1 := Aside0.mk (Kd.C_below HR.out hb1)
      clear hb1
      go_wp2_with fail
      refine (HV1.out _ HR1.out).mono ?_
      rintro e w2 ⟨rfl, hb2⟩
      have HB2 := Aside0.mk (below_then HB1.out HB1.out.size hb2)
      have HR2 := Aside0.mk (Kd.C_below HR1.out hb2)
      clear hb2 HB1 HR1
      go_wp2_with fail
      refine (HV2.out _ HR2.out).mono ?_
      rintro e w3 ⟨rfl, hb3⟩
      have HB3 := Aside0.mk (below_then HB2.out HB2.out.size hb3)
      have HR3 := Aside0.mk (Kd.C_below HR2.out hb3)
      clear hb3 HB2 HR2
      go_wp2_with fail
      refine (HV3.out _ HR3.out).mono ?_
      rintro e w4 ⟨v4, rfl, hv4, hb4⟩
      have HB4 := Aside0.mk (below_then HB3.out HB3.out.size hb4)
      have HR4 := Aside0.mk (Kd.C_below HR3.out hb4)
      obtain ⟨A4, c4, rfl, hl4, hC4⟩ := Kd.R_reads hv4
      have HP4 := Aside0.mk hC4
      have HQ4 := Aside0.mk hl4
      clear hv4 hl4 hC4
      clear hb4 HB3 HR3
      go_wp2_with fail
      refine (HV4.out _ HR4.out).mono ?_
      rintro e w5 ⟨v5, rfl, hv5, hb5⟩
      have HB5 := Aside0.mk (below_then HB4.out HB4.out.size hb5)
      have HR5 := Aside0.mk (Kd.C_below HR4.out hb5)
      obtain ⟨A5, c5, rfl, hl5, hC5⟩ := Kd.R_reads hv5
      have HTX := Aside0.mk (texts_any (rs.map strV) A4 A5 c4 c5 w5 (by rw [List.length_map]; exact Nat.lt_of_le_of_lt HXL.out (by decide)) (Kd.C_below HP4.out hb5) HQ4.out hC5 hl5)
      clear hv5 hl5 hC5
      rw [List.length_map] at HTX
      clear hb5 HB4 HR4
      go_wp2_with fail
      refine HTX.out.mono ?_
      rintro e w6 ⟨rfl, hb6⟩
      have HB6 := Aside0.mk (below_then HB5.out HB5.out.size hb6)
      have HR6 := Aside0.mk (Kd.C_below HR5.out hb6)
      clear hb6 HB5 HR5
      go_wp2_with fail
      refine (HV5.out _ HR6.out).mono ?_
      rintro e w7 ⟨rfl, hb7⟩
      have HB7 := Aside0.mk (below_then HB6.out HB6.out.size hb7)
      have HR7 := Aside0.mk (Kd.C_below HR6.out hb7)
      clear hb7 HB6 HR6
      go_wp2_with fail
      refine (HV6.out _ HR7.out).mono ?_
      rintro e w8 ⟨rfl, hb8⟩
      have HB8 := Aside0.mk (below_then HB7.out HB7.out.size hb8)
      have HR8 := Aside0.mk (Kd.C_below HR7.out hb8)
      clear hb8 HB7 HR7
      go_wp2_with fail
      refine (alive_any _).mono ?_
      rintro e w9 ⟨rfl, hb9⟩
      have HB9 := Aside0.mk (below_then HB8.out HB8.out.size hb9)
      have HR9 := Aside0.mk (Kd.C_below HR8.out hb9)
      clear hb9 HB8 HR8
      go_wp2_with fail
      go_ret
      exact ⟨rfl, HB9.out⟩
end Go.Proofs.YtijaefmaceolbaaGreatDoor.Im
namespace Go.Proofs.YtijaefmaceolbaaGreatDoor.Im
open Go.RowKit Go.Proofs.YtijaefmaceolbaaGreatDoorW.PrintWords Go.Proofs.YtijaefmaceolbaaGreatDoorW.PrintLast Go.Proofs.YtijaefmaceolbaaGreatDoorW.PrintMore Go.Proofs.YtijaefmaceolbaaGreatDoor.Tr
theorem law17_any (A : Option Addr) (c : Nat) (l : List ByteArray) (w : World) (hr : Kd.C Kd.string w A l.length l) (hc : l.length ≤ c) :
    Calls Tryz.prog 4 #[.slice A l.length c] w fun e w' => e = .returned (.bool true) ∧ Below w.heap.size w w' := by
  obtain ⟨L, rfl⟩ := strs_of l
  rw [List.length_map] at hr hc ⊢
  exact law_fixed L A c w hr hc
end Go.Proofs.YtijaefmaceolbaaGreatDoor.Im

