/- Further parts of the same walk: contracts of the functions that the law reaches, each under the conditions that it states. -/
import Derived.Test.YtijaefmaceolbaaGreatDoorC5H
import Derived.WalkMore
namespace Go.Proofs.YtijaefmaceolbaaGreatDoor.Im
open Go.RowKit Go.Proofs.YtijaefmaceolbaaGreatDoorW.PrintWords Go.Proofs.YtijaefmaceolbaaGreatDoorW.PrintLast Go.Proofs.YtijaefmaceolbaaGreatDoorW.PrintMore Go.Proofs.YtijaefmaceolbaaGreatDoor.Tr
set_option linter.unusedVariables false
set_option linter.unusedSimpArgs false
theorem com_key {α : Type} (a b : T3) (X Y : α) : (if b3 a = b3 b then X else if b3 a = 63 then X else if b3 b = 63 then X else Y) = if (a == none || (b == none || a == b)) = true then X else Y := by
  rcases a with _ | (_ | _) <;> rcases b with _ | (_ | _) <;> simp [b3, byte3]
theorem com_l0 {v u : List T3} {n : Nat} (hn : n ≤ 10) (hv : v.length = n) (hu : u.length = n) : ∀ (d i : Nat), i + d = n → Gives (fun k => truth_compatible.l0 k (strV v) (strV u) (n : Int) i) ((List.range' i d).all fun i => getV v i == none || (getV u i == none || getV v i == getV u i))
  | 0, i, h => Gives.now fun k => by
    simp only [truth_compatible.l0]
    rw [if_neg (by omega)]
    rfl
  | d + 1, i, h => by
    have ih := com_l0 hn hv hu d (i + 1) (by omega)
    rw [List.range'_succ, List.all_cons]
    cases hc : (getV v i == none || (getV u i == none || getV v i == getV u i))
    · rw [Bool.false_and]
      exact Gives.now fun k => by
        simp only [truth_compatible.l0]
        rw [if_pos (by omega), if_pos (by omega), if_pos (by rw [strV_size]; omega), if_pos (by rw [strV_size]; omega), bt_strV v i (by omega), bt_strV u i (by omega), com_key, if_neg (by rw [hc]; simp)]
    · rw [Bool.true_and]
      exact ih.step fun k hk => by
        simp only [truth_compatible.l0]
        rw [if_pos (by omega), if_pos (by omega), if_pos (by rw [strV_size]; omega), if_pos (by rw [strV_size]; omega), bt_strV v i (by omega), bt_strV u i (by omega), com_key, if_pos hc, wr_succ i (by omega)]
        exact hk
theorem compatible_any {v u : List T3} {n : Nat} (hn : n ≤ 10) (hv : v.length = n) (hu : u.length = n) (w : World) : Calls Tryz.prog 39 #[.string (strV v), .string (strV u)] w fun e w' => e = .returned (.bool (comB v u)) ∧ Below w.heap.size w w' := by
  obtain ⟨k, hk⟩ := com_l0 hn hv hu n 0 (by omega)
  have e : comB v u = (List.range' 0 n).all fun i => getV v i == none || (getV u i == none || getV v i == getV u i) := by
    unfold comB
    rw [hv, List.range_eq_range']
  rw [e]
  exact (truth_compatible.calls k (strV v) (strV u) _ w (by unfold truth_compatible.f; rw [strV_size, hv]; exact hk k (Nat.le_refl _))).mono fun e w' ⟨h1, h2⟩ => ⟨h1, h2.below⟩
theorem count_none (v : List T3) : (v.length : Int) - (Lib.countByte (strV v).data.toList 63 : Int) = (cntV v : Int) := by
  have e : (strV v).data.toList = v.map byte3 := by simp [strV]
  rw [e]
  unfold Lib.countByte
  induction v with
  | nil => rfl
  | cons a t ih =>
    have e2 : (strV t).data.toList = t.map byte3 := by simp [strV]
    have ih := ih e2
    rcases a with _ | (_ | _)
    · simp only [List.map_cons, List.length_cons, cntV, List.countP_cons] at ih ⊢
      simp [byte3, cntV] at ih ⊢
      omega
    · simp only [List.map_cons, List.length_cons, cntV, List.countP_cons] at ih ⊢
      simp [byte3, cntV] at ih ⊢
      omega
    · simp only [List.map_cons, List.length_cons, cntV, List.countP_cons] at ih ⊢
      simp [byte3, cntV] at ih ⊢
      omega
set_option maxHeartbeats 800000 in
theorem values_any' {v : List T3} (hv : v.length ≤ 10) (w : World) : Calls Tryz.prog 40 #[.string (strV v)] w fun e w' => e = .returned (.int .i64 (cntV v : Int)) ∧ w' = w := by
  have HC := Aside0.mk (fun (w1 : World) => (show Calls Tryz.prog 69 #[.string (strV v), .string ⟨#[63]⟩] w1 fun e w' => e = .returned (.int .i64 (Lib.countByte (strV v).data.toList 63)) ∧ w' = w1 from Any.strings_Count_one Tryz.lays138 (strV v) 63 w1))
  have HN := Aside0.mk (count_none v)
  have hs := strV_size v
  have hc : (cntV v : Int) ≤ 10 := by
    have : cntV v ≤ v.length := List.countP_le_length
    omega
  rw [← hs] at HN
  generalize strV v = s at *
  generalize Lib.countByte s.data.toList 63 = q at *
  generalize cntV v = r at *
  have hq : (s.size : Int) - (q : Int) = (r : Int) := HN.out
  have hw : wrap64 ((s.size : Int) - (q : Int)) = (r : Int) := by rw [hq]; unfold wrap64; omega
  have hsz : s.size ≤ 10 := by omega
  clear hs hv
  go_enter Tryz.func40, Tryz.ntmps40
  go_wp2_with fail
  refine (HC.out _).mono ?_
  rintro e w1 ⟨rfl, rfl⟩
  go_wp2_with fail
  go_ret
  exact ⟨rfl, rfl⟩
noncomputable def intrinsicO (l : List (List UInt8)) : ByteArray × Int :=
  if sysE l = 0 then (if 1000 < (fixL (sysF l)).length then (str0, 8) else (strV (topV (sysF l)), 0)) else (str0, sysE l)
def besS : Option (List T3) → ByteArray
  | none => str0
  | some c => strV c
end Go.Proofs.YtijaefmaceolbaaGreatDoor.Im

namespace Go.Proofs.YtijaefmaceolbaaGreatDoor.Im
open Go.RowKit Go.Proofs.YtijaefmaceolbaaGreatDoorW.PrintWords Go.Proofs.YtijaefmaceolbaaGreatDoorW.PrintLast Go.Proofs.YtijaefmaceolbaaGreatDoorW.PrintMore Go.Proofs.YtijaefmaceolbaaGreatDoor.Tr
set_option linter.unusedVariables false
set_option linter.unusedSimpArgs false
theorem stepP_no {all : List (List T3)} {x y : List T3} {b : Option (List T3)} (hy : y ∈ all) (h : comB x y = false) : stepP all b x = b := by
  unfold stepP
  rw [if_neg]
  intro hi
  have := List.all_eq_true.1 hi y hy
  rw [h] at this
  cases this
theorem fold_take {all : List (List T3)} {x : List T3} {i : Nat} (h : i < all.length) (hx : all.getD i [] = x) : (all.take (i + 1)).foldl (stepP all) none = stepP all ((all.take i).foldl (stepP all) none) x := by
  rw [List.take_succ_eq_append_getElem h, List.foldl_append]
  have : all[i] = x := by rw [← hx]; simp [h]
  rw [this]
  rfl
theorem all_take {all : List (List T3)} {p : List T3 → Bool} {y : List T3} {k : Nat} (h : k < all.length) (hy : all.getD k [] = y) : (all.take (k + 1)).all p = ((all.take k).all p && p y) := by
  rw [List.take_succ_eq_append_getElem h, List.all_append]
  have : all[k] = y := by rw [← hy]; simp [h]
  rw [this]
  simp
set_option maxHeartbeats 6400000 in
set_option maxRecDepth 100000 in
theorem intrinsic_good {n : Nat} {fs : List Fm} (S : Tr.Sys n fs) (hm : ¬ 1000 < (fixL fs).length) (w : World) (A : Option Addr) (c : Nat) (HO : Aside0 (Calls Tryz.prog 27 #[.slice A n c] w (OfGood n fs w)))
    (HE : Aside0 (∀ (w1 : World) (A : Option Addr) (c : Nat), Kd.C kF w1 A n fs → n ≤ c → Calls Tryz.prog 32 #[.slice A n c] w1 (FixedPost (false, fixL fs) w1))) :
    Calls Tryz.prog 20 #[.slice A n c] w (OutS (strV (topV fs), 0) w) := by
  have HT := Aside0.mk (prog_top fs)
  have n10 := S.n10
  have HLN := Aside0.mk (show ∀ x ∈ fixL fs, x.length = n from fun x hx => by rw [(mem_fixL.1 hx).len, S.len])
  have NP := S.pos
  generalize topV fs = top at *
  obtain ⟨al, hal⟩ : ∃ al, fixL fs = al := ⟨_, rfl⟩
  rw [hal] at hm HE HT HLN
  clear S hal
  go_enter Tryz.func20, Tryz.ntmps20
  go_wp2_with fail
  go_step3
  go_wp2_with fail
  refine HO.out.mono ?_
  rintro e w1 ⟨A1, c1, hc1, rfl, hC, hb⟩
  have HC := Aside0.mk hC
  have HB := Aside0.mk hb
  have HCC := Aside0.mk hc1
  clear hC hb hc1
  go_wp2_with fail
  refine (HE.out _ _ _ HC.out HCC.out).mono ?_
  rintro e w2 ⟨v, rfl, hR, hb2⟩
  have HB2 := Aside0.mk (below_then HB.out HB.out.size hb2)
  obtain ⟨A2, c2, rfl, hl2, hC2⟩ := Kd.R_reads hR
  obtain ⟨m, hmm⟩ : ∃ m, al.length = m := ⟨_, rfl⟩
  have HMM := Aside0.mk hmm
  rw [show ((false, al) : Bool × List (List T3)).2 = al from rfl, List.length_map, hmm] at hC2 hl2
  rw [show ((false, al) : Bool × List (List T3)).2 = al from rfl, List.length_map, hmm]
  have HC2 := Aside0.mk hC2
  rw [hmm] at hm
  have m1 : m ≤ 1000 := by omega
  clear hR hb2 hC2 hl2 hmm hm HC HCC HB HE HO
  have HBR := Aside0.mk (Below.refl w2.heap.size w2)
  have HS0 := Aside0.mk (show Value.string ⟨#[]⟩ = .string (besS none) from rfl)
  have HCX := Aside0.mk (show ∀ (W : World), Below w2.heap.size w2 W → ∀ i, i < m → ∃ ad, A2 = some ad ∧ W.cell? (ad.add i) = some (.string (strV (al.getD i []))) from fun W hW i hi => by
    obtain ⟨ad, e1, h1⟩ := Kd.at_string (Kd.C_below HC2.out hW) (i : Int) (by omega) (by omega)
    rw [Int.toNat_natCast] at h1
    have er : rdOf ByteArray.empty (al.map strV) (i : Int) = strV (al.getD i []) := by
      have hl : i < al.length := by rw [HMM.out]; exact hi
      simp [rdOf, hl]
    rw [er] at h1
    exact ⟨ad, e1, h1⟩)
  have HGM := Aside0.mk (show ∀ i, i < m → al.getD i [] ∈ al from fun i hi => by
    have hl : i < al.length := by rw [HMM.out]; exact hi
    rw [List.getD_eq_getElem?_getD, List.getElem?_eq_getElem hl]
    exact List.getElem_mem hl)
  go_wp2_with fail
  go_step3
  go_wp2_with fail
  go_loopg [8, 30] (m + 1) (fun g v8 v30 wr => ∃ (i : Nat) (b : Option (List T3)), i ≤ m ∧ v8 = .string (besS b) ∧ v30 = .int .i64 (i : Int) ∧ Aside0 (m - i < g) ∧ Aside0 (b = (al.take i).foldl (stepP al) none) ∧ Aside0 (∀ c, b = some c → c.length = n) ∧ Aside0 (Below w2.heap.size w2 wr))
  case atStart => exact ⟨0, none, by omega, HS0.out, rfl, ⟨by omega⟩, ⟨by simp⟩, ⟨fun _ h => by cases h⟩, HBR⟩
  case round =>
    clear HBR HS0
    obtain ⟨i, b, hi, rfl, rfl, HQ, HBB, HBL, HBW⟩ := hrel
    have i0 : (0 : Int) ≤ (i : Int) := by omega
    by_cases him : i < m
    · have him' : (i : Int) < (m : Int) := by omega
      obtain ⟨ad, rfl, cx⟩ := HCX.out _ HBW.out i him
      obtain ⟨x, hx⟩ : ∃ x, al.getD i [] = x := ⟨_, rfl⟩
      have hxm : x ∈ al := by rw [← hx]; exact HGM.out i him
      have hxl := HLN.out x hxm
      have HFT := Aside0.mk (show (al.take (i + 1)).foldl (stepP al) none = stepP al b x by rw [fold_take (by rw [HMM.out]; exact him) hx, HBB.out])
      rw [hx] at cx
      have HXL := Aside0.mk hxl
      have HCA := Aside0.mk (fun (y : List T3) (hy : y ∈ al) (w8 : World) => compatible_any n10 hxl (HLN.out y hy) w8)
      have HVX := Aside0.mk (fun (w8 : World) => values_any' (show x.length ≤ 10 by omega) w8)
      clear hx hxl hxm
      generalize gk = gO at *
      obtain ⟨sx, hsx⟩ : ∃ s, strV x = s := ⟨_, rfl⟩
      rw [hsx] at cx HCA HVX
      have HSX := Aside0.mk hsx
      clear hsx
      go_wp2_with fail
      have HBI := Aside0.mk (Below.refl wr.heap.size wr)
      generalize wr = WI at *
      go_loopg [36] (m + 1) (fun g v36 wr => ∃ k : Nat, k ≤ m ∧ v36 = .int .i64 (k : Int) ∧ Aside0 (m - k < g) ∧ Aside0 ((al.take k).all (comB x) = true) ∧ Aside0 (Below WI.heap.size WI wr))
      case atStart => exact ⟨0, by omega, rfl, ⟨by omega⟩, ⟨by simp⟩, HBI⟩
      case round =>
        clear HBI
        obtain ⟨k, hk, rfl, HQK, HAL, HBK⟩ := hrel
        have k0 : (0 : Int) ≤ (k : Int) := by omega
        have HBT := Aside0.mk (below_then HBW.out HBW.out.size HBK.out)
        by_cases hkm : k < m
        · have hkm' : (k : Int) < (m : Int) := by omega
          obtain ⟨_, e1, cy⟩ := HCX.out _ HBT.out k hkm
          cases e1
          obtain ⟨y, hy⟩ : ∃ y, al.getD k [] = y := ⟨_, rfl⟩
          have hym : y ∈ al := by rw [← hy]; exact HGM.out k hkm
          have HAT := Aside0.mk (all_take (p := comB x) (show k < al.length by rw [HMM.out]; exact hkm) hy)
          rw [hy] at cy
          have HCY := Aside0.mk (HCA.out y hym wr)
          have HNO := Aside0.mk (fun (h : comB x y = false) => stepP_no (b := b) hym h)
          clear hy hym
          generalize strV y = sy at *
          cases hcb : comB x y
          · rw [hcb] at HCY
            have HST := Aside0.mk (HNO.out hcb)
            clear hcb HNO HAT
            go_wp2_with fail
            refine HCY.out.mono ?_
            rintro e w9 ⟨rfl, hb9⟩
            have HB9 := Aside0.mk (below_then HBT.out HBT.out.size hb9)
            clear hb9
            go_wp2_with fail
            go_roundg (gO - 1)
            case measure => have := HQ.out; omega
            case rel => exact ⟨i + 1, b, by omega, rfl, by go_num, ⟨by have := HQ.out; omega⟩, ⟨by rw [HFT.out, HST.out]⟩, HBL, HB9⟩
          · rw [hcb] at HCY HAT
            clear HNO hcb
            go_wp2_with fail
            refine HCY.out.mono ?_
            rintro e w9 ⟨rfl, hb9⟩
            have HB9 := Aside0.mk (below_then HBK.out HBK.out.size hb9)
            clear hb9
            go_wp2_with fail
            go_roundg (gk - 1)
            case measure => have := HQK.out; omega
            case rel => exact ⟨k + 1, by omega, by go_num, ⟨by have := HQK.out; omega⟩, ⟨by rw [HAT.out, HAL.out]; rfl⟩, HB9⟩
        · obtain rfl : m = k := by omega
          have hall := HAL.out
          rw [List.take_of_length_le (by rw [HMM.out]; exact Nat.le_refl _)] at hall
          have HSP := Aside0.mk (show ∀ b, stepP al b x = match b with | none => some x | some c => if cntV c < cntV x then some x else some c from fun b => by
            unfold stepP
            rw [if_pos (show intB al x = true from hall)]
            cases b <;> rfl)
          have HBX := Aside0.mk (show ∀ c, some x = some c → c.length = n from fun c h => by rw [← Option.some.inj h]; exact HXL.out)
          clear hall hkm HAL HQK
          cases b with
          | none =>
            have hz : ((besS none).toList == (⟨#[]⟩ : ByteArray).toList) = true := by simp [besS, str0]
            have hz2 : (besS none) = ⟨#[]⟩ := rfl
            go_wp2_with fail
            go_roundg (gO - 1)
            case measure => have := HQ.out; omega
            case rel => exact ⟨i + 1, some x, by omega, (by rw [← HSX.out]; rfl), by go_num, ⟨by have := HQ.out; omega⟩, ⟨by rw [HFT.out, HSP.out]⟩, HBX, HBT⟩
          | some cv =>
            have hcl := HBL.out cv rfl
            have HVC := Aside0.mk (fun (w8 : World) => values_any' (show cv.length ≤ 10 by omega) w8)
            have hz : ((strV cv).toList == (⟨#[]⟩ : ByteArray).toList) = false := by
              have h0 : (⟨#[]⟩ : ByteArray) = strV [] := rfl
              rw [h0, eqS]
              exact decide_eq_false (fun h => by rw [h] at hcl; simp at hcl; omega)
            have hbs : besS (some cv) = strV cv := rfl
            rw [hbs]
            have hz3 : ¬ (strV cv).toList = [] := by
              rw [strV_list]
              intro h
              have := congrArg List.length h
              simp at this
              rw [this] at hcl
              simp at hcl
              omega
            obtain ⟨sc, hsc⟩ : ∃ s, strV cv = s := ⟨_, rfl⟩
            have hz4 : (strV cv).toList.isEmpty = false := by simpa using hz3
            rw [hsc] at hz HVC hz4
            clear hz3
            rw [hsc]
            have HSC := Aside0.mk hsc
            clear hbs hsc hcl
            have HSPC := Aside0.mk (HSP.out (some cv))
            simp only at HSPC
            clear HSP
            by_cases hlt : cntV cv < cntV x
            · have d1 : decide ((cntV cv : Int) < (cntV x : Int)) = true := decide_eq_true (by omega)
              have d2 : decide (cntV cv < cntV x) = true := decide_eq_true hlt
              rw [if_pos hlt] at HSPC
              clear hlt
              generalize cntV cv = q1 at *
              generalize cntV x = q2 at *
              go_wp2_with fail
              refine (HVX.out _).mono ?_
              rintro e w9 ⟨rfl, rfl⟩
              go_wp2_with fail
              refine (HVC.out _).mono ?_
              rintro e w9 ⟨rfl, rfl⟩
              go_wp2_with fail
              go_roundg (gO - 1)
              case measure => have := HQ.out; omega
              case rel => exact ⟨i + 1, some x, by omega, (by rw [← HSX.out]; rfl), by go_num, ⟨by have := HQ.out; omega⟩, ⟨by rw [HFT.out, HSPC.out]⟩, HBX, HBT⟩
            · have d1 : decide ((cntV cv : Int) < (cntV x : Int)) = false := decide_eq_false (by omega)
              have d2 : decide (cntV cv < cntV x) = false := decide_eq_false hlt
              rw [if_neg hlt] at HSPC
              clear hlt
              generalize cntV cv = q1 at *
              generalize cntV x = q2 at *
              go_wp2_with fail
              refine (HVX.out _).mono ?_
              rintro e w9 ⟨rfl, rfl⟩
              go_wp2_with fail
              refine (HVC.out _).mono ?_
              rintro e w9 ⟨rfl, rfl⟩
              go_wp2_with fail
              go_roundg (gO - 1)
              case measure => have := HQ.out; omega
              case rel => exact ⟨i + 1, some cv, by omega, (by rw [← HSC.out]; rfl), by go_num, ⟨by have := HQ.out; omega⟩, ⟨by rw [HFT.out, HSPC.out]⟩, HBL, HBT⟩
    · obtain rfl : m = i := by omega
      have hbt := HBB.out
      rw [List.take_of_length_le (by rw [HMM.out]; exact Nat.le_refl _), HT.out] at hbt
      subst hbt
      clear him
      go_wp2_with fail
      (try rw [Exit.noGoto_ret])
      go_ret2
      exact ⟨rfl, below_then HB2.out HB2.out.size HBW.out⟩
set_option maxHeartbeats 1600000 in
set_option maxRecDepth 100000 in
theorem intrinsic_call (l : List (List UInt8)) (w : World) (A : Option Addr) (c : Nat) (hr : Kd.C Kd.string w A l.length (l.map strL)) :
    Calls Tryz.prog 20 #[.slice A l.length c] w (OutS (intrinsicO l) w) := by
  by_cases h0 : sysE l = 0
  · have S := sys_ok h0
    have HO := Aside0.mk (of_good h0 w A c hr)
    have hf := run_fix S
    have HE := Aside0.mk (fun (w1 : World) (A : Option Addr) (c : Nat) (hC : Kd.C kF w1 A l.length (sysF l)) (hc : l.length ≤ c) => fixed_any S w1 A c hC hc)
    generalize runV (visX (sysF l)) (valsB base3 l.length) [] = r at *
    obtain ⟨b, out⟩ := r
    by_cases hm : 1000 < (fixL (sysF l)).length
    · have HR := Aside0.mk (show intrinsicO l = (str0, 8) by unfold intrinsicO; rw [if_pos h0, if_pos hm])
      obtain ⟨n, hn⟩ : ∃ n, l.length = n := ⟨_, rfl⟩
      rw [hn] at HO S HE ⊢
      have hb : b = true := hf.1.trans (decide_eq_true hm)
      subst hb
      rw [HR.out]
      clear hr S h0 hn hf hm HR
      generalize sysF l = fs at *
      go_enter Tryz.func20, Tryz.ntmps20
      go_wp2_with fail
      go_step3
      go_wp2_with fail
      refine HO.out.mono ?_
      rintro e w1 ⟨A1, c1, hc1, rfl, hC, hb⟩
      have HC := Aside0.mk hC
      have HB := Aside0.mk hb
      have HCC := Aside0.mk hc1
      clear hC hb hc1
      go_wp2_with fail
      refine (HE.out _ _ _ HC.out HCC.out).mono ?_
      rintro e w2 ⟨v, rfl, hR, hb2⟩
      have HB2 := Aside0.mk (below_then HB.out HB.out.size hb2)
      clear hR hb2
      go_wp2_with fail
      (try rw [Exit.noGoto_ret])
      go_ret2
      exact ⟨rfl, HB2.out⟩
    · have hb : b = false := hf.1.trans (decide_eq_false hm)
      have ho : out = fixL (sysF l) := hf.2 hm
      subst hb
      subst ho
      rw [show intrinsicO l = (strV (topV (sysF l)), 0) by unfold intrinsicO; rw [if_pos h0, if_neg hm]]
      exact intrinsic_good S hm w A c HO HE
  · have HR := Aside0.mk (show intrinsicO l = (str0, sysE l) by unfold intrinsicO; rw [if_neg h0])
    have HO := Aside0.mk (of_bad h0 w A c hr)
    have hne : (sysE l != 0) = true := bne_iff_ne.2 h0
    rw [HR.out]
    clear h0 hr HR
    generalize sysE l = x at *
    go_enter Tryz.func20, Tryz.ntmps20
    go_wp2_with fail
    go_step3
    go_wp2_with fail
    refine HO.out.mono ?_
    rintro e w1 ⟨rfl, hb⟩
    have HB := Aside0.mk hb
    clear hb
    go_wp2_with fail
    (try rw [Exit.noGoto_ret])
    go_ret2
    exact ⟨rfl, HB.out⟩
end Go.Proofs.YtijaefmaceolbaaGreatDoor.Im

namespace Go.Proofs.YtijaefmaceolbaaGreatDoor.Im
open Go.RowKit Go.Proofs.YtijaefmaceolbaaGreatDoorW.PrintWords Go.Proofs.YtijaefmaceolbaaGreatDoorW.PrintLast Go.Proofs.YtijaefmaceolbaaGreatDoorW.PrintMore
attribute [local go_sem] max2_int min2_int max_two min_two max_three min_three max_four min_four
set_option linter.unusedVariables false
set_option linter.unusedSimpArgs false
mutual
def pomaderef01_fixed.l0 : Nat → List (SNd) → List ByteArray → Int → Option (List ByteArray)
  | 0, _, _, _ => none
  | k + 1, x0, x3, x4 => (pomaderef01_power.f k 3 (x0.length : Int)).bind fun t180 => (if x4 < t180 then (pomaderef01_fixed.j1 k x0 x3 x4 (decide ((x3.length : Int) ≤ 1000))) else (pomaderef01_fixed.j1 k x0 x3 x4 false))
def pomaderef01_fixed.j1 : Nat → List (SNd) → List ByteArray → Int → Bool → Option (List ByteArray)
  | 0, _, _, _, _ => none
  | k + 1, x0, x3, x4, x15 => if x15 = true then ((pomaderef01_written.f k x4 (x0.length : Int) 3).bind fun t181 => ((pomaderef01_values.f k x0 t181).bind fun t182 => (if t182.toList = t181.toList then (if x3.length < 8796093022208 then (pomaderef01_fixed.l0 k x0 (x3 ++ [t181]) (wrap64 (x4 + 1))) else (none)) else (pomaderef01_fixed.l0 k x0 x3 (wrap64 (x4 + 1)))))) else (some x3)
end
def pomaderef01_fixed.f (k : Nat) (l0 : List (SNd)) : Option (List ByteArray) := pomaderef01_fixed.l0 k l0 ([] : List ByteArray) 0
theorem pomaderef01_fixed.mono_l : ∀ k, (∀ y0 y1 y2, LeO (pomaderef01_fixed.l0 k y0 y1 y2) (pomaderef01_fixed.l0 (k + 1) y0 y1 y2)) ∧ (∀ y0 y1 y2 y3, LeO (pomaderef01_fixed.j1 k y0 y1 y2 y3) (pomaderef01_fixed.j1 (k + 1) y0 y1 y2 y3))
  | 0 => ⟨fun _ _ _ r h => by simp [pomaderef01_fixed.l0] at h, fun _ _ _ _ r h => by simp [pomaderef01_fixed.j1] at h⟩
  | k + 1 => by
    obtain ⟨ih0, ih1⟩ := pomaderef01_fixed.mono_l k
    refine ⟨?_, ?_⟩
    · intro y0 y1 y2
      unfold pomaderef01_fixed.l0
      repeat' first
      | (with_reducible exact ih0 _ _ _)
      | (with_reducible exact ih1 _ _ _ _)
      | (with_reducible exact pomaderef01_power.mono _ _ _)
      | (with_reducible exact pomaderef01_values.mono _ _ _)
      | (with_reducible exact pomaderef01_written.mono _ _ _ _)
      | (with_reducible exact LeO.refl _)
      | (with_reducible exact LeO.none _)
      | (with_reducible refine LeO.ite ?_ ?_)
      | (with_reducible refine LeO.bind ?_ (fun _ => ?_))
      | exact ih0 _ _ _
      | exact ih1 _ _ _ _
      | exact pomaderef01_power.mono _ _ _
      | exact pomaderef01_values.mono _ _ _
      | exact pomaderef01_written.mono _ _ _ _
      | exact LeO.none _
      | refine LeO.ite ?_ ?_
      | refine LeO.bind ?_ (fun _ => ?_)
    · intro y0 y1 y2 y3
      unfold pomaderef01_fixed.j1
      repeat' first
      | (with_reducible exact ih0 _ _ _)
      | (with_reducible exact ih1 _ _ _ _)
      | (with_reducible exact pomaderef01_power.mono _ _ _)
      | (with_reducible exact pomaderef01_values.mono _ _ _)
      | (with_reducible exact pomaderef01_written.mono _ _ _ _)
      | (with_reducible exact LeO.refl _)
      | (with_reducible exact LeO.none _)
      | (with_reducible refine LeO.ite ?_ ?_)
      | (with_reducible refine LeO.bind ?_ (fun _ => ?_))
      | exact ih0 _ _ _
      | exact ih1 _ _ _ _
      | exact pomaderef01_power.mono _ _ _
      | exact pomaderef01_values.mono _ _ _
      | exact pomaderef01_written.mono _ _ _ _
      | exact LeO.none _
      | refine LeO.ite ?_ ?_
      | refine LeO.bind ?_ (fun _ => ?_)
theorem pomaderef01_fixed.mono : ∀ a0 k, LeO (pomaderef01_fixed.f k a0) (pomaderef01_fixed.f (k + 1) a0) := by
  intro a0 k
  obtain ⟨ih0, ih1⟩ := pomaderef01_fixed.mono_l k
  unfold pomaderef01_fixed.f
  repeat' first
      | (with_reducible exact ih0 _ _ _)
      | (with_reducible exact ih1 _ _ _ _)
      | (with_reducible exact pomaderef01_power.mono _ _ _)
      | (with_reducible exact pomaderef01_values.mono _ _ _)
      | (with_reducible exact pomaderef01_written.mono _ _ _ _)
      | (with_reducible exact LeO.refl _)
      | (with_reducible exact LeO.none _)
      | (with_reducible refine LeO.ite ?_ ?_)
      | (with_reducible refine LeO.bind ?_ (fun _ => ?_))
      | exact ih0 _ _ _
      | exact ih1 _ _ _ _
      | exact pomaderef01_power.mono _ _ _
      | exact pomaderef01_values.mono _ _ _
      | exact pomaderef01_written.mono _ _ _ _
      | exact LeO.none _
      | refine LeO.ite ?_ ?_
      | refine LeO.bind ?_ (fun _ => ?_)
set_option maxHeartbeats 8000000 in
set_option maxRecDepth 100000 in
theorem pomaderef01_fixed.calls (k : Nat) (A0 : Option Addr) (c0 : Nat) (l0 : List (SNd)) (r : List ByteArray) (w : World) (hr0 : Kd.C kNd w A0 l0.length l0) (hc0 : l0.length ≤ c0) (h : pomaderef01_fixed.f k l0 = some r) :
    Calls Tryz.prog 38 #[.slice A0 l0.length c0] w fun e w' => ∃ v0_ : Value, e = .returned (v0_) ∧ Kd.R Kd.string 9 w' w.heap.size (fun _ => True) v0_ r ∧ Below w.heap.size w w' := by
  have HR0 := Aside0.mk hr0
  have HC0 := Aside0.mk hc0
  clear hr0 hc0
  have HB := Aside0.mk (Below.refl w.heap.size w)
  have H : (pomaderef01_fixed.l0 k l0 ([] : List ByteArray) 0) = some r := h
  clear h
  have H' := Aside0.mk H
  clear H
  go_enter Tryz.func38, Tryz.ntmps38
  go_wp2
  go_loopg [3, 4] k (fun kq v3 v4 w' => ∃ (x3_1 : List ByteArray) (x4_1 : Int), v4 = .int .i64 x4_1 ∧ Aside0 (pomaderef01_fixed.l0 kq l0 x3_1 x4_1 = some r) ∧ Aside0 (kq ≤ k) ∧ Aside0 (Kd.R Kd.string 9 w' w.heap.size (fun _ => True) v3 x3_1) ∧ Aside0 (Below w.heap.size w w'))
  case atStart => exact ⟨(([] : List ByteArray)), (0), (by first | rfl | (simp; done) | (simp [*]; done)), H', ⟨Nat.le_refl _⟩, ⟨by first | exact Kd.R_nil _ _ _ _ _ | exact Kd.N_nil _ _ _ _ _ | exact Kd.V_nil _ _ _ _ _ | exact Kd.Q_nil _ _ _ _ _ | exact Kd.S_nil _ _ _ _ _⟩, ⟨by repeat (first | (with_reducible first | exact HB.out | apply below_alloc | apply pw_below_drewN | apply below_drew1) | exact HB.out)⟩⟩
  case round =>
    clear H'
    obtain ⟨x3_1, x4_1, rfl, HA, HK1, HO_3, HB⟩ := hrel
    cases gk with
    | zero => exact absurd HA.out (by simp [pomaderef01_fixed.l0])
    | succ k1 =>
      have H := HA.out
      clear HA
      simp only [pomaderef01_fixed.l0] at H
      have HC2 := Aside0.mk H
      clear H
      go_upto_region 3 with (fail)
      go_cut [15] (fun v15 wc => ∃ (kq : Nat) (x15_1 : Bool), v15 = .bool x15_1 ∧ Aside0 (pomaderef01_fixed.j1 kq l0 x3_1 x4_1 x15_1 = some r) ∧ Aside0 (kq ≤ k1) ∧ Aside0 (Kd.R Kd.string 9 wc w.heap.size (fun _ => True) u3 x3_1) ∧ Aside0 (Below w.heap.size w wc))
      case first =>
        have H := HC2.out
        clear HC2
        replace H := Option.bind_eq_some_iff.mp H
        obtain ⟨t180, A30, H⟩ := H
        replace H : (if x4_1 < t180 then (pomaderef01_fixed.j1 k1 l0 x3_1 x4_1 (decide ((x3_1.length : Int) ≤ 1000))) else (pomaderef01_fixed.j1 k1 l0 x3_1 x4_1 false)) = some r := H
        have A3 := Aside0.mk A30
        clear A30
        by_cases c4 : x4_1 < t180
        · rw [if_pos c4] at H
          have c4b0 : decide (x4_1 < t180) = true := decide_eq_true c4
          clear c4
          (first | rw [c4b0] | (simp only [i64_w, i32_w]; rw [c4b0]) | skip)
          have H' := Aside0.mk H
          clear H
          go_wp2_with (first | ((with_reducible refine gate_callee (f := 67) rfl ?_); refine goesL_ (some 9) rfl rfl Tryz.func67 (by kernel_rfl) rfl #[.int .i64 3, .int .i64 (l0.length : Int)] rfl (by (try simp only [List.map_toArray, List.map_cons, List.map_nil]); first | done | rfl | (simp only [List.length_drop, List.length_take]; rfl)) ?_; (with_reducible refine (pomaderef01_power.calls k1 3 (l0.length : Int) t180 _ A3.out).mono ?_); rintro e w' ⟨rfl, ⟨nd, rfl⟩⟩; refine ⟨_, rfl, ?_⟩; obtain ⟨Ao5, co5, eo5⟩ := Kd.R_slice HO_3.out; subst eo5))
          go_meet
          case rel => exact ⟨_, (decide ((x3_1.length : Int) ≤ 1000)), (by first | rfl | (simp; done) | (simp [*]; done)), H', ⟨by have := HK1.out; first | omega | exact Nat.le_refl _⟩, ⟨by (with_reducible repeat (first | apply Kd.R_alloc | apply Kd.R_drewN | apply Kd.R_drew)); exact HO_3.out⟩, ⟨by repeat (first | (with_reducible first | exact HB.out | apply below_alloc | apply pw_below_drewN | apply below_drew1) | exact HB.out)⟩⟩
        · rw [if_neg c4] at H
          have c4b0 : decide (x4_1 < t180) = false := decide_eq_false c4
          clear c4
          (first | rw [c4b0] | (simp only [i64_w, i32_w]; rw [c4b0]) | skip)
          have H' := Aside0.mk H
          clear H
          go_wp2_with (first | ((with_reducible refine gate_callee (f := 67) rfl ?_); refine goesL_ (some 9) rfl rfl Tryz.func67 (by kernel_rfl) rfl #[.int .i64 3, .int .i64 (l0.length : Int)] rfl (by (try simp only [List.map_toArray, List.map_cons, List.map_nil]); first | done | rfl | (simp only [List.length_drop, List.length_take]; rfl)) ?_; (with_reducible refine (pomaderef01_power.calls k1 3 (l0.length : Int) t180 _ A3.out).mono ?_); rintro e w' ⟨rfl, ⟨nd, rfl⟩⟩; refine ⟨_, rfl, ?_⟩))
          go_meet
          case rel => exact ⟨_, (false), (by first | rfl | (simp; done) | (simp [*]; done)), H', ⟨by have := HK1.out; first | omega | exact Nat.le_refl _⟩, ⟨by (with_reducible repeat (first | apply Kd.R_alloc | apply Kd.R_drewN | apply Kd.R_drew)); exact HO_3.out⟩, ⟨by repeat (first | (with_reducible first | exact HB.out | apply below_alloc | apply pw_below_drewN | apply below_drew1) | exact HB.out)⟩⟩
      case rest =>
        clear HC2
        try clear p2
        try clear c3
        try clear c4
        try clear c4b0
        obtain ⟨kq, x15_1, rfl, HA, HJ1, HO_3, HB⟩ := hcut
        cases kq with
        | zero => exact absurd HA.out (by simp [pomaderef01_fixed.j1])
        | succ kj1 =>
          have H := HA.out
          clear HA
          simp only [pomaderef01_fixed.j1] at H
          by_cases c6 : x15_1 = true
          · subst c6
            have H1 : ((pomaderef01_written.f kj1 x4_1 (l0.length : Int) 3).bind fun t181 => ((pomaderef01_values.f kj1 l0 t181).bind fun t182 => (if t182.toList = t181.toList then (if x3_1.length < 8796093022208 then (pomaderef01_fixed.l0 kj1 l0 (x3_1 ++ [t181]) (wrap64 (x4_1 + 1))) else (none)) else (pomaderef01_fixed.l0 kj1 l0 x3_1 (wrap64 (x4_1 + 1)))))) = some r := by rw [if_pos rfl] at H; exact H
            clear H
            have H := H1
            clear H1
            replace H := Option.bind_eq_some_iff.mp H
            obtain ⟨t181, A70, H⟩ := H
            replace H : ((pomaderef01_values.f kj1 l0 t181).bind fun t182 => (if t182.toList = t181.toList then (if x3_1.length < 8796093022208 then (pomaderef01_fixed.l0 kj1 l0 (x3_1 ++ [t181]) (wrap64 (x4_1 + 1))) else (none)) else (pomaderef01_fixed.l0 kj1 l0 x3_1 (wrap64 (x4_1 + 1))))) = some r := H
            have A7 := Aside0.mk A70
            clear A70
            replace H := Option.bind_eq_some_iff.mp H
            obtain ⟨t182, A80, H⟩ := H
            replace H : (if t182.toList = t181.toList then (if x3_1.length < 8796093022208 then (pomaderef01_fixed.l0 kj1 l0 (x3_1 ++ [t181]) (wrap64 (x4_1 + 1))) else (none)) else (pomaderef01_fixed.l0 kj1 l0 x3_1 (wrap64 (x4_1 + 1)))) = some r := H
            have A8 := Aside0.mk A80
            clear A80
            by_cases c9 : t182.toList = t181.toList
            · rw [if_pos c9] at H
              have c9b0 : (t182.toList == t181.toList) = true := beq_iff_eq.mpr c9
              have c9b1 : (t182.toList != t181.toList) = false := bne_eq_false_iff_eq.mpr c9
              clear c9
              by_cases c10 : x3_1.length < 8796093022208
              · rw [if_pos c10] at H
                have LMc10 := Aside0.mk c10
                clear c10
                obtain ⟨y183, hy183⟩ : ∃ y_ : List ByteArray, y_ = (x3_1 ++ [t181]) := ⟨_, rfl⟩
                replace H : (pomaderef01_fixed.l0 kj1 l0 y183 (wrap64 (x4_1 + 1))) = some r := by first | (rw [hy183]; with_reducible exact H) | (have H2_ := (Option.bind_some _ _).symm.trans H; rw [hy183]; with_reducible exact H2_) | (have H2_ := (Option.bind_some _ _).symm.trans H; with_reducible exact H2_) | with_reducible exact H | (rw [hy183]; exact H) | exact H
                have Ny183 := Aside0.mk hy183
                clear hy183
                have H' := Aside0.mk H
                clear H
                go_wp2_with (first | ((with_reducible refine gate_callee (f := 68) rfl ?_); refine goesL_ (some 21) rfl rfl Tryz.func68 (by kernel_rfl) rfl #[.int .i64 x4_1, .int .i64 (l0.length : Int), .int .i64 3] rfl (by (try simp only [List.map_toArray, List.map_cons, List.map_nil]); first | done | rfl | (simp only [List.length_drop, List.length_take]; rfl)) ?_; (with_reducible refine (pomaderef01_written.calls kj1 x4_1 (l0.length : Int) 3 t181 _ A7.out).mono ?_); rintro e w11 ⟨rfl, hb⟩; refine ⟨_, rfl, ?_⟩; have n0_ := Aside0.mk (Kd.R_below (by (with_reducible repeat (first | apply Kd.R_alloc | apply Kd.R_drewN | apply Kd.R_drew)); exact HO_3.out) hb); have n1_ := Aside0.mk (below_step (by repeat (first | (with_reducible first | exact HB.out | apply below_alloc | apply pw_below_drewN | apply below_drew1) | exact HB.out)) hb); clear HO_3; clear HB; have HO_3 := n0_; have HB := n1_; clear n0_ n1_; (try clear hb); (try clear hb2); (try clear hk); (try clear hi)) | ((with_reducible refine gate_callee (f := 66) rfl ?_); refine goesL_ (some 24) rfl rfl Tryz.func66 (by kernel_rfl) rfl #[.slice A0 l0.length c0, .string t181] rfl (by (try simp only [List.map_toArray, List.map_cons, List.map_nil]); first | done | rfl | (simp only [List.length_drop, List.length_take]; rfl)) ?_; (with_reducible refine (pomaderef01_values.calls kj1 _ _ l0 t181 t182 _ ?side1 ?side2 A8.out).mono ?_); (case side1 => repeat (first | exact (Kd.C_below HR0.out HB.out) | (with_reducible refine Kd.C_alloc ?_ _) | (with_reducible refine Kd.C_drewN ?_ _) | (with_reducible refine Kd.C_drew ?_))); (case side2 => exact HC0.out); rintro e w12 ⟨rfl, hb⟩; refine ⟨_, rfl, ?_⟩; have n0_ := Aside0.mk (Kd.R_below (by (with_reducible repeat (first | apply Kd.R_alloc | apply Kd.R_drewN | apply Kd.R_drew)); exact HO_3.out) hb); have n1_ := Aside0.mk (below_step (by repeat (first | (with_reducible first | exact HB.out | apply below_alloc | apply pw_below_drewN | apply below_drew1) | exact HB.out)) hb); clear HO_3; clear HB; have HO_3 := n0_; have HB := n1_; clear n0_ n1_; (try clear hb); (try clear hb2); (try clear hk); (try clear hi)) | ((with_reducible refine gate_builtin (b := .append) (xs := #[.tmp 27, .tmp 29]) rfl ?_); (try (refine gate_guard (by rfl) ?_; dsimp only)); at_builtin; refine Kd.R_append Kd.string (w0 := w) w.heap.size rfl (.tmp 27) (.tmp 29) 22 9 (.string ⟨#[]⟩) 16 rfl Tryz.underlying22 info9 rfl (by decide) (by omega) u3 x3_1 t181 [.string t181] (fun _ => True) (fun _ => False) rfl rfl ?aP (fun _ hk => hk.elim) ?aF ?aO ?aB ?aS ?aL ?_; (case aP => exact rfl); (case aB => exact (by repeat (first | (with_reducible first | exact HB.out | apply below_alloc | apply pw_below_drewN | apply below_drew1) | exact HB.out))); (case aF => exact (fun _ _ => trivial)); (case aO => exact (by (with_reducible repeat (first | apply Kd.R_alloc | apply Kd.R_drewN | apply Kd.R_drew)); exact HO_3.out)); (case aS => exact (below_size (by repeat (first | (with_reducible first | exact HB.out | apply below_alloc | apply pw_below_drewN | apply below_drew1) | exact HB.out)))); (case aL => have := LMc10.out; omega); intro v184 w13 ho hb hg hat; rw [← Ny183.out] at ho; have n0_ := Aside0.mk (hb); have n1_ := Aside0.mk (ho); clear HB; clear HO_3; have HB := n0_; have HO185 := n1_; clear n0_ n1_; clear ho hb hg hat))
                go_roundg kj1
                case measure => have := HK1.out; have := HJ1.out; omega
                case rel => exact ⟨(y183), (wrap64 (x4_1 + 1)), (by first | rfl | (simp; done) | (simp [*]; done)), H', ⟨by have := HK1.out; have := HJ1.out; omega⟩, ⟨by (with_reducible repeat (first | apply Kd.R_alloc | apply Kd.R_drewN | apply Kd.R_drew)); exact HO185.out⟩, ⟨by repeat (first | (with_reducible first | exact HB.out | apply below_alloc | apply pw_below_drewN | apply below_drew1) | exact HB.out)⟩⟩
              · rw [if_neg c10] at H
                exact absurd H (by simp)
            · rw [if_neg c9] at H
              have c9b0 : (t182.toList == t181.toList) = false := beq_eq_false_iff_ne.mpr c9
              have c9b1 : (t182.toList != t181.toList) = true := bne_iff_ne.mpr c9
              have H' := Aside0.mk H
              clear H
              go_wp2_with (first | ((with_reducible refine gate_callee (f := 68) rfl ?_); refine goesL_ (some 21) rfl rfl Tryz.func68 (by kernel_rfl) rfl #[.int .i64 x4_1, .int .i64 (l0.length : Int), .int .i64 3] rfl (by (try simp only [List.map_toArray, List.map_cons, List.map_nil]); first | done | rfl | (simp only [List.length_drop, List.length_take]; rfl)) ?_; (with_reducible refine (pomaderef01_written.calls kj1 x4_1 (l0.length : Int) 3 t181 _ A7.out).mono ?_); rintro e w14 ⟨rfl, hb⟩; refine ⟨_, rfl, ?_⟩; have n0_ := Aside0.mk (Kd.R_below (by (with_reducible repeat (first | apply Kd.R_alloc | apply Kd.R_drewN | apply Kd.R_drew)); exact HO_3.out) hb); have n1_ := Aside0.mk (below_step (by repeat (first | (with_reducible first | exact HB.out | apply below_alloc | apply pw_below_drewN | apply below_drew1) | exact HB.out)) hb); clear HO_3; clear HB; have HO_3 := n0_; have HB := n1_; clear n0_ n1_; (try clear hb); (try clear hb2); (try clear hk); (try clear hi)) | ((with_reducible refine gate_callee (f := 66) rfl ?_); refine goesL_ (some 24) rfl rfl Tryz.func66 (by kernel_rfl) rfl #[.slice A0 l0.length c0, .string t181] rfl (by (try simp only [List.map_toArray, List.map_cons, List.map_nil]); first | done | rfl | (simp only [List.length_drop, List.length_take]; rfl)) ?_; (with_reducible refine (pomaderef01_values.calls kj1 _ _ l0 t181 t182 _ ?side1 ?side2 A8.out).mono ?_); (case side1 => repeat (first | exact (Kd.C_below HR0.out HB.out) | (with_reducible refine Kd.C_alloc ?_ _) | (with_reducible refine Kd.C_drewN ?_ _) | (with_reducible refine Kd.C_drew ?_))); (case side2 => exact HC0.out); rintro e w15 ⟨rfl, hb⟩; refine ⟨_, rfl, ?_⟩; have n0_ := Aside0.mk (Kd.R_below (by (with_reducible repeat (first | apply Kd.R_alloc | apply Kd.R_drewN | apply Kd.R_drew)); exact HO_3.out) hb); have n1_ := Aside0.mk (below_step (by repeat (first | (with_reducible first | exact HB.out | apply below_alloc | apply pw_below_drewN | apply below_drew1) | exact HB.out)) hb); clear HO_3; clear HB; have HO_3 := n0_; have HB := n1_; clear n0_ n1_; (try clear hb); (try clear hb2); (try clear hk); (try clear hi)))
              go_roundg kj1
              case measure => have := HK1.out; have := HJ1.out; omega
              case rel => exact ⟨(x3_1), (wrap64 (x4_1 + 1)), (by first | rfl | (simp; done) | (simp [*]; done)), H', ⟨by have := HK1.out; have := HJ1.out; omega⟩, ⟨by (with_reducible repeat (first | apply Kd.R_alloc | apply Kd.R_drewN | apply Kd.R_drew)); exact HO_3.out⟩, ⟨by repeat (first | (with_reducible first | exact HB.out | apply below_alloc | apply pw_below_drewN | apply below_drew1) | exact HB.out)⟩⟩
          · replace c6 := Bool.eq_false_iff.mpr c6
            subst c6
            have H1 : (some x3_1) = some r := by rw [if_neg (show ¬ (false = true) by decide)] at H; exact H
            clear H
            have H := H1
            clear H1
            obtain rfl := Option.some.inj H
            go_wp2
            go_ret
            exact ⟨_, by first | rfl | (simp [errW_none, errW_some] <;> rfl) | (simp [*, errW_none, errW_some] <;> rfl), by (with_reducible repeat (first | apply Kd.R_alloc | apply Kd.R_drewN | apply Kd.R_drew)); exact HO_3.out, by repeat (first | (with_reducible first | exact HB.out | apply below_alloc | apply pw_below_drewN | apply below_drew1) | exact HB.out)⟩
end Go.Proofs.YtijaefmaceolbaaGreatDoor.Im

namespace Go.Proofs.YtijaefmaceolbaaGreatDoor.Im
open Go.RowKit Go.Proofs.YtijaefmaceolbaaGreatDoorW.PrintWords Go.Proofs.YtijaefmaceolbaaGreatDoorW.PrintLast Go.Proofs.YtijaefmaceolbaaGreatDoorW.PrintMore Go.Proofs.YtijaefmaceolbaaGreatDoor.Tr
set_option linter.unusedVariables false
set_option linter.unusedSimpArgs false
theorem rcom_l0 {v u : List T3} {n : Nat} (hn : n ≤ 10) (hv : v.length = n) (hu : u.length = n) : ∀ (d i : Nat), i + d = n → Gives (fun k => pomaderef01_Compatible.l0 k (strV v) (strV u) i) ((List.range' i d).all fun i => getV v i == none || (getV u i == none || getV v i == getV u i))
  | 0, i, h => by
    refine ⟨2, fun k hk => ?_⟩
    obtain ⟨m, rfl⟩ : ∃ m, k = m + 2 := ⟨k - 2, by omega⟩
    simp only [pomaderef01_Compatible.l0]
    rw [if_neg (by rw [strV_size]; omega)]
    simp [pomaderef01_Compatible.j1]
  | d + 1, i, h => by
    obtain ⟨k0, h0⟩ := rcom_l0 hn hv hu d (i + 1) (by omega)
    rw [List.range'_succ, List.all_cons]
    refine ⟨k0 + 2, fun k hk => ?_⟩
    obtain ⟨m, rfl⟩ : ∃ m, k = m + 2 := ⟨k - 2, by omega⟩
    have g0 := h0 m (by omega)
    simp only [pomaderef01_Compatible.l0]
    rw [if_pos (by rw [strV_size]; omega), decide_eq_true (show (i : Int) < ((strV u).size : Int) by rw [strV_size]; omega)]
    simp only [pomaderef01_Compatible.j1]
    rw [if_pos trivial, if_pos (by omega), if_pos (by rw [strV_size]; omega), if_pos (by rw [strV_size]; omega), bt_strV v i (by omega), bt_strV u i (by omega), com_key]
    cases hc : (getV v i == none || (getV u i == none || getV v i == getV u i))
    · rw [if_neg (by simp), Bool.false_and]
    · rw [if_pos rfl, Bool.true_and, wr_succ i (by omega)]
      exact g0
theorem rcom_any {v u : List T3} {n : Nat} (hn : n ≤ 10) (hv : v.length = n) (hu : u.length = n) (w : World) : Calls Tryz.prog 22 #[.string (strV v), .string (strV u)] w fun e w' => e = .returned (.bool (comB v u)) ∧ Below w.heap.size w w' := by
  obtain ⟨k, hk⟩ := rcom_l0 hn hv hu n 0 (by omega)
  have e : comB v u = (List.range' 0 n).all fun i => getV v i == none || (getV u i == none || getV v i == getV u i) := by
    unfold comB
    rw [hv, List.range_eq_range']
  rw [e]
  exact (pomaderef01_Compatible.calls k (strV v) (strV u) _ w (hk k (Nat.le_refl _))).mono fun e w' ⟨h1, h2⟩ => ⟨h1, h2.below⟩
end Go.Proofs.YtijaefmaceolbaaGreatDoor.Im

namespace Go.Proofs.YtijaefmaceolbaaGreatDoor.Im
open Go.RowKit Go.Proofs.YtijaefmaceolbaaGreatDoorW.PrintWords Go.Proofs.YtijaefmaceolbaaGreatDoorW.PrintLast Go.Proofs.YtijaefmaceolbaaGreatDoorW.PrintMore Go.Proofs.YtijaefmaceolbaaGreatDoor.Tr
set_option linter.unusedVariables false
set_option linter.unusedSimpArgs false
theorem fix_small {n : Nat} {fs : List Fm} (S : Tr.Sys n fs) (h : n ≤ 6) : (fixL fs).length ≤ 729 := by
  have h1 : (fixL fs).length ≤ (valsB base3 fs.length).length := List.length_filter_le _ _
  rw [vals_len (by decide), S.len] at h1
  have h2 : 3 ^ n ≤ 3 ^ 6 := Nat.pow_le_pow_right (by decide) h
  exact Nat.le_trans h1 h2
set_option maxHeartbeats 12800000 in
set_option maxRecDepth 100000 in
theorem intr_walk (n m : Nat) (st sl : ByteArray) (al : List (List T3)) (A : Option Addr) (c : Nat) (w : World) (LS : List ByteArray) (n6 : n ≤ 6) (m7 : m ≤ 729) (HMM : Aside0 (al.length = m))
    (HF : Aside0 (Calls Tryz.prog 6 #[.slice A n c] w fun e w' => e = .returned (.bool true) ∧ Below w.heap.size w w'))
    (HR : Aside0 (Kd.C Kd.string w A n LS))
    (HS : Aside0 (∀ w1, Kd.C Kd.string w1 A n LS → Calls Tryz.prog 9 #[.slice A n c] w1 fun e w' => e = .returned (.int .i64 0) ∧ Below w1.heap.size w1 w'))
    (HI : Aside0 (∀ w1, Kd.C Kd.string w1 A n LS → Calls Tryz.prog 20 #[.slice A n c] w1 (OutS (st, 0) w1)))
    (HX : Aside0 (∀ w1, Kd.C Kd.string w1 A n LS → Calls Tryz.prog 13 #[.slice A n c] w1 (OutT (al, 0) w1)))
    (HL : Aside0 (∀ w1, Kd.C Kd.string w1 A n LS → Calls Tryz.prog 8 #[.slice A n c] w1 (OutS (sl, 0) w1)))
    (HV : Aside0 (∀ w1, Kd.C Kd.string w1 A n LS → Calls Tryz.prog 11 #[.slice A n c, .string st] w1 (OutS (st, 0) w1)))
    (HE : Aside0 (∀ w1, Calls Tryz.prog 12 #[.string st, .string sl] w1 fun e w' => e = .returned (.bool true) ∧ Below w1.heap.size w1 w'))
    (HCB : Aside0 (∀ x ∈ al, ∀ w1, Calls Tryz.prog 22 #[.string st, .string (strV x)] w1 fun e w' => e = .returned (.bool true) ∧ Below w1.heap.size w1 w'))
    (HCC : Aside0 (∀ x ∈ al, ∀ y ∈ al, ∀ w1, Calls Tryz.prog 22 #[.string (strV x), .string (strV y)] w1 fun e w' => e = .returned (.bool (comB x y)) ∧ Below w1.heap.size w1 w'))
    (HEX : Aside0 (∀ x ∈ al, al.all (comB x) = true → ∀ w1, Calls Tryz.prog 12 #[.string st, .string (strV x)] w1 fun e w' => e = .returned (.bool true) ∧ Below w1.heap.size w1 w')) :
    Calls Tryz.prog 5 #[.slice A n c] w fun e w' => e = .returned (.bool true) ∧ Below w.heap.size w w' := by
  have n0 : (0 : Int) ≤ (n : Int) := by omega
  have z6 : decide (6 < (n : Int)) = false := decide_eq_false (by omega)
  have z6' : decide (6 < n) = false := decide_eq_false (by omega)
  have hself : (st.toList == st.toList) = true := by simp
  have hself2 : (st.toList != st.toList) = false := by simp
  go_enter Tryz.func5, Tryz.ntmps5
  go_wp2_with fail
  refine HF.out.mono ?_
  rintro e w1 ⟨rfl, hb1⟩
  have HB1 := Aside0.mk hb1
  have HR1 := Aside0.mk (Kd.C_below HR.out hb1)
  clear hb1
  go_wp2_with fail
  refine (HS.out _ HR1.out).mono ?_
  rintro e w2 ⟨rfl, hb2⟩
  have HB2 := Aside0.mk (below_then HB1.out HB1.out.size hb2)
  have HR2 := Aside0.mk (Kd.C_below HR1.out hb2)
  clear hb2 HB1 HR1
  go_wp2_with fail
  refine (HI.out _ HR2.out).mono ?_
  rintro e w3 ⟨rfl, hb3⟩
  have HB3 := Aside0.mk (below_then HB2.out HB2.out.size hb3)
  have HR3 := Aside0.mk (Kd.C_below HR2.out hb3)
  clear hb3 HB2 HR2
  go_wp2_with fail
  refine (HX.out _ HR3.out).mono ?_
  rintro e w4 ⟨v4, rfl, hv4, hb4⟩
  have HB4 := Aside0.mk (below_then HB3.out HB3.out.size hb4)
  have HR4 := Aside0.mk (Kd.C_below HR3.out hb4)
  obtain ⟨A4, c4, rfl, hl4, hC4⟩ := Kd.R_reads hv4
  rw [show ((al, (0 : Int)) : List (List T3) × Int).1 = al from rfl, List.length_map, HMM.out] at hC4 hl4
  rw [show ((al, (0 : Int)) : List (List T3) × Int).1 = al from rfl, List.length_map, HMM.out]
  have HP4 := Aside0.mk hC4
  clear hv4 hl4 hC4
  clear hb4 HB3 HR3
  go_wp2_with fail
  refine (HL.out _ HR4.out).mono ?_
  rintro e w5 ⟨rfl, hb5⟩
  have HB5 := Aside0.mk (below_then HB4.out HB4.out.size hb5)
  have HR5 := Aside0.mk (Kd.C_below HR4.out hb5)
  have HP5 := Aside0.mk (Kd.C_below HP4.out hb5)
  clear hb5 HB4 HR4
  go_wp2_with fail
  refine (HV.out _ HR5.out).mono ?_
  rintro e w6 ⟨rfl, hb6⟩
  have HB6 := Aside0.mk (below_then HB5.out HB5.out.size hb6)
  have HR6 := Aside0.mk (Kd.C_below HR5.out hb6)
  have HP6 := Aside0.mk (Kd.C_below HP5.out hb6)
  clear hb6 HB5 HR5
  go_wp2_with fail
  refine (HE.out _).mono ?_
  rintro e w7 ⟨rfl, hb7⟩
  have HB7 := Aside0.mk (below_then HB6.out HB6.out.size hb7)
  have HR7 := Aside0.mk (Kd.C_below HR6.out hb7)
  have HP7 := Aside0.mk (Kd.C_below HP6.out hb7)
  clear hb7 HB6 HR6
  clear HP4 HP5 HP6
  have HBR := Aside0.mk (Below.refl w7.heap.size w7)
  have HCX := Aside0.mk (show ∀ (W : World), Below w7.heap.size w7 W → ∀ i, i < m → ∃ ad, A4 = some ad ∧ W.cell? (ad.add i) = some (.string (strV (al.getD i []))) from fun W hW i hi => by
    obtain ⟨ad, e1, h1⟩ := Kd.at_string (Kd.C_below HP7.out hW) (i : Int) (by omega) (by omega)
    rw [Int.toNat_natCast] at h1
    have er : rdOf ByteArray.empty (al.map strV) (i : Int) = strV (al.getD i []) := by
      have hl : i < al.length := by rw [HMM.out]; exact hi
      simp [rdOf, hl]
    rw [er] at h1
    exact ⟨ad, e1, h1⟩)
  have HGM := Aside0.mk (show ∀ i, i < m → al.getD i [] ∈ al from fun i hi => by
    have hl : i < al.length := by rw [HMM.out]; exact hi
    rw [List.getD_eq_getElem?_getD, List.getElem?_eq_getElem hl]
    exact List.getElem_mem hl)
  go_wp2_with fail
  go_loopw [11] (fun v11 wr => ∃ i : Nat, i ≤ m ∧ v11 = .int .i64 (i : Int) ∧ Aside0 (Below w7.heap.size w7 wr)) (fun v11 _ => m - (intOf v11).toNat)
  case atStart => exact ⟨0, by omega, rfl, HBR⟩
  case round =>
    clear HBR
    obtain ⟨i, hi, rfl, HBW⟩ := hrel
    have i0 : (0 : Int) ≤ (i : Int) := by omega
    by_cases him : i < m
    · have him' : (i : Int) < (m : Int) := by omega
      obtain ⟨ad, rfl, cx⟩ := HCX.out _ HBW.out i him
      obtain ⟨x, hx⟩ : ∃ x, al.getD i [] = x := ⟨_, rfl⟩
      have hxm : x ∈ al := by rw [← hx]; exact HGM.out i him
      rw [hx] at cx
      have HCY := Aside0.mk (fun y hy => HCC.out x hxm y hy)
      have HCT := Aside0.mk (HCB.out x hxm)
      have HEY := Aside0.mk (HEX.out x hxm)
      have HCI := Aside0.mk (show ∀ W, Below w7.heap.size w7 W → W.cell? (ad.add i) = some (.string (strV x)) from fun W hW => by
        obtain ⟨_, e1, h1⟩ := HCX.out W hW i him
        cases e1
        rw [hx] at h1
        exact h1)
      clear hx hxm
      generalize strV x = sx at *
      go_wp2_with fail
      have HBI := Aside0.mk (Below.refl wr.heap.size wr)
      generalize wr = WI at *
      have H1 := Aside0.mk (show Value.bool true = .bool ((al.take 0).all (comB x)) from by simp)
      go_loopw [12, 13] (fun v12 v13 wr => ∃ k : Nat, k ≤ m ∧ v12 = .bool ((al.take k).all (comB x)) ∧ v13 = .int .i64 (k : Int) ∧ Aside0 (Below WI.heap.size WI wr)) (fun _ v13 _ => m - (intOf v13).toNat)
      case atStart => exact ⟨0, by omega, H1.out, rfl, HBI⟩
      case round =>
        clear HBI H1
        obtain ⟨k, hk, rfl, rfl, HBK⟩ := hrel
        have k0 : (0 : Int) ≤ (k : Int) := by omega
        have HBT := Aside0.mk (below_then HBW.out HBW.out.size HBK.out)
        by_cases hkm : k < m
        · have hkm' : (k : Int) < (m : Int) := by omega
          obtain ⟨_, e1, cy⟩ := HCX.out _ HBT.out k hkm
          cases e1
          have ci := HCI.out _ HBT.out
          obtain ⟨y, hy⟩ : ∃ y, al.getD k [] = y := ⟨_, rfl⟩
          have hym : y ∈ al := by rw [← hy]; exact HGM.out k hkm
          have HAT := Aside0.mk (all_take (p := comB x) (show k < al.length by rw [HMM.out]; exact hkm) hy)
          have HCZ := Aside0.mk (fun w1 => HCY.out y hym w1)
          rw [hy] at cy
          clear hy hym
          generalize (al.take k).all (comB x) = b at *
          cases b
          · clear HCZ
            go_upto_region 16 with fail
            go_quiet (fail)
            go_wp2_with fail
            go_roundw
            case rel => exact ⟨k + 1, by omega, by rw [HAT.out]; rfl, by go_num, ⟨pw_below_drewN HBK.out _⟩⟩
            case measure => simp [intOf]; omega
          · generalize strV y = sy at *
            generalize comB x y = cb at *
            have HCZ2 := Aside0.mk (HCZ.out wr.drew)
            have HSS := Aside0.mk (show ∀ w2, Below wr.drew.heap.size wr.drew w2 → w2.cell? (ad.add i) = some (.string sx) ∧ w2.cell? (ad.add k) = some (.string sy) from fun w2 h => ⟨pw_cell_below h ci, pw_cell_below h cy⟩)
            go_upto_region 16 with fail
            go_region_held3 (fun w' => w'.cell? (ad.add i) = some (.string sx) ∧ w'.cell? (ad.add k) = some (.string sy)) (first | go_keep | exact HSS.out _ hb2)
              (first | (with_reducible refine HCZ2.out.mono ?_; rintro e w8 ⟨rfl, hb2⟩))
            have HBJ := Aside0.mk (below_then (below_drew HBK.out) (below_drew HBK.out).size hb2)
            clear hb2
            go_wp2_with fail
            go_roundw
            case rel => exact ⟨k + 1, by omega, by rw [HAT.out]; rfl, by go_num, HBJ⟩
            case measure => simp [intOf]; omega
        · obtain rfl : m = k := by omega
          have hall : (al.take m).all (comB x) = al.all (comB x) := by rw [List.take_of_length_le (by rw [HMM.out]; exact Nat.le_refl _)]
          rw [hall]
          have ci := HCI.out _ HBT.out
          have HCD := Aside0.mk (fun (w8 : World) (h : Below wr.heap.size wr w8) => pw_cell_below h ci)
          clear hall hkm
          generalize al.all (comB x) = b at *
          cases b
          · clear HEY
            go_wp2_with fail
            refine (HCT.out _).mono ?_
            rintro e w8 ⟨rfl, hb8⟩
            have HB8 := Aside0.mk (below_then HBT.out HBT.out.size hb8)
            clear hb8
            go_wp2_with fail
            go_roundw
            case rel => exact ⟨i + 1, by omega, by go_num, HB8⟩
            case measure => simp [intOf]; omega
          · have HEZ := Aside0.mk (HEY.out rfl)
            clear HEY
            go_wp2_with fail
            refine (HCT.out _).mono ?_
            rintro e w8 ⟨rfl, hb8⟩
            have HB8 := Aside0.mk (below_then HBT.out HBT.out.size hb8)
            have ci8 := HCD.out _ hb8
            clear hb8
            go_wp2_with fail
            refine (HEZ.out _).mono ?_
            rintro e w9 ⟨rfl, hb9⟩
            have HB9 := Aside0.mk (below_then HB8.out HB8.out.size hb9)
            clear hb9
            go_wp2_with fail
            go_roundw
            case rel => exact ⟨i + 1, by omega, by go_num, HB9⟩
            case measure => simp [intOf]; omega
    · obtain rfl : m = i := by omega
      clear him
      go_wp2_with fail
      refine (alive_any _).mono ?_
      rintro e w9 ⟨rfl, hb9⟩
      have HB9 := Aside0.mk (below_then HB7.out HB7.out.size (below_then HBW.out HBW.out.size hb9))
      clear hb9
      go_wp2_with fail
      go_ret
      exact ⟨rfl, HB9.out⟩
set_option maxHeartbeats 6400000 in
set_option maxRecDepth 100000 in
theorem law_intrinsic (L : List (List UInt8)) (A : Option Addr) (c : Nat) (w : World) (hr : Kd.C Kd.string w A L.length (L.map strL)) (hc : L.length ≤ c) :
    Calls Tryz.prog 5 #[.slice A L.length c] w fun e w' => e = .returned (.bool true) ∧ Below w.heap.size w w' := by
  have hml : (L.map strL).length = L.length := List.length_map _
  have hfew := few_any (L.map strL) A c w (by rw [hml]; exact hr) (by rw [hml]; exact hc)
  rw [hml] at hfew
  have HF := Aside0.mk hfew
  have HR := Aside0.mk hr
  clear hfew
  cases hf : fewB (L.map strL)
  · rw [hf] at HF
    clear hf hr
    go_enter Tryz.func5, Tryz.ntmps5
    go_wp2_with fail
    refine HF.out.mono ?_
    rintro e w1 ⟨rfl, hb1⟩
    have HB1 := Aside0.mk hb1
    have HR1 := Aside0.mk (Kd.C_below HR.out hb1)
    clear hb1
    go_wp2_with fail
    refine (alive_any _).mono ?_
    rintro e w2 ⟨rfl, hb2⟩
    have HB2 := Aside0.mk (below_then HB1.out HB1.out.size hb2)
    have HR2 := Aside0.mk (Kd.C_below HR1.out hb2)
    clear hb2 HB1 HR1
    go_wp2_with fail
    go_ret
    exact ⟨rfl, HB2.out⟩
  · rw [hf] at HF
    clear hf hr
    by_cases h6 : L.length ≤ 6
    · have t1 : decide (6 < (L.length : Int)) = false := decide_eq_false (by omega)
      have t2 : decide (6 < L.length) = false := decide_eq_false (by omega)
      have HS := Aside0.mk (fun (w1 : World) (hC : Kd.C Kd.string w1 A L.length (L.map strL)) => rsystem_call L w1 A c hC)
      by_cases h0 : sysE L = 0
      · have S := sys_ok h0
        rw [h0] at HS
        have hsm := fix_small S h6
        have e1 : intrinsicO L = (strV (topV (sysF L)), 0) := by unfold intrinsicO; rw [if_pos h0, if_neg (by omega)]
        have e2 : fixedO L = (fixL (sysF L), 0) := by unfold fixedO; rw [if_pos h0, if_neg (by omega)]
        have e3 : leastO L = (strV (leastV (sysF L)), 0) := by unfold leastO; rw [if_pos h0]
        have ht := topV_int (sysF L)
        have htl : (topV (sysF L)).length = L.length := by rw [ht.1.len, S.len]
        have hll : (leastV (sysF L)).length = L.length := by rw [leastV_len, S.len]
        have e4 : valueO L (strV (topV (sysF L))) = (strV (topV (sysF L)), 0) := by
          unfold valueO
          rw [if_pos h0, if_pos (by rw [← htl]; exact valB3_strV _), vsOf_strV, show nextV (sysF L) (topV (sysF L)) = topV (sysF L) from ht.1]
        have hxl : ∀ x ∈ fixL (sysF L), x.length = L.length := fun x hx => by rw [(mem_fixL.1 hx).len, S.len]
        exact intr_walk L.length (fixL (sysF L)).length (strV (topV (sysF L))) (strV (leastV (sysF L))) (fixL (sysF L)) A c w (L.map strL) h6 hsm ⟨rfl⟩ HF HR HS
          ⟨fun w1 hC => e1 ▸ intrinsic_call L w1 A c hC⟩ ⟨fun w1 hC => e2 ▸ fixed_call L w1 A c hC⟩ ⟨fun w1 hC => e3 ▸ least_call L w1 A c hC⟩
          ⟨fun w1 hC => e4 ▸ value_call L _ w1 A c hC (by rw [strV_size]; omega)⟩
          ⟨fun w1 => extends_any S.n10 htl hll (leastV_le ht.1) w1⟩
          ⟨fun x hx w1 => (show Calls Tryz.prog _ _ w1 _ from (comB_iff.2 (ht.2 x (mem_fixL.1 hx)) : comB (topV (sysF L)) x = true) ▸ rcom_any S.n10 htl (hxl x hx) w1)⟩
          ⟨fun x hx y hy w1 => rcom_any S.n10 (hxl x hx) (hxl y hy) w1⟩
          ⟨fun x hx ha w1 => extends_any S.n10 htl (hxl x hx) (topV_top ((intB_iff (mem_fixL.1 hx)).1 ha)) w1⟩
      · have hne : (sysE L != 0) = true := bne_iff_ne.2 h0
        clear h0
        generalize sysE L = x at *
        go_enter Tryz.func5, Tryz.ntmps5
        go_wp2_with fail
        refine HF.out.mono ?_
        rintro e w1 ⟨rfl, hb1⟩
        have HB1 := Aside0.mk hb1
        have HR1 := Aside0.mk (Kd.C_below HR.out hb1)
        clear hb1
        go_wp2_with fail
        refine (HS.out _ HR1.out).mono ?_
        rintro e w2 ⟨rfl, hb2⟩
        have HB2 := Aside0.mk (below_then HB1.out HB1.out.size hb2)
        have HR2 := Aside0.mk (Kd.C_below HR1.out hb2)
        clear hb2 HB1 HR1
        go_wp2_with fail
        refine (alive_any _).mono ?_
        rintro e w3 ⟨rfl, hb3⟩
        have HB3 := Aside0.mk (below_then HB2.out HB2.out.size hb3)
        have HR3 := Aside0.mk (Kd.C_below HR2.out hb3)
        clear hb3 HB2 HR2
        go_wp2_with fail
        go_ret
        exact ⟨rfl, HB3.out⟩
    · have t1 : decide (6 < (L.length : Int)) = true := decide_eq_true (by omega)
      have t2 : decide (6 < L.length) = true := decide_eq_true (by omega)
      go_enter Tryz.func5, Tryz.ntmps5
      go_wp2_with fail
      refine HF.out.mono ?_
      rintro e w1 ⟨rfl, hb1⟩
      have HB1 := Aside0.mk hb1
      have HR1 := Aside0.mk (Kd.C_below HR.out hb1)
      clear hb1
      go_wp2_with fail
      refine (alive_any _).mono ?_
      rintro e w2 ⟨rfl, hb2⟩
      have HB2 := Aside0.mk (below_then HB1.out HB1.out.size hb2)
      have HR2 := Aside0.mk (Kd.C_below HR1.out hb2)
      clear hb2 HB1 HR1
      go_wp2_with fail
      go_ret
      exact ⟨rfl, HB2.out⟩
end Go.Proofs.YtijaefmaceolbaaGreatDoor.Im
namespace Go.Proofs.YtijaefmaceolbaaGreatDoor.Im
open Go.RowKit Go.Proofs.YtijaefmaceolbaaGreatDoorW.PrintWords Go.Proofs.YtijaefmaceolbaaGreatDoorW.PrintLast Go.Proofs.YtijaefmaceolbaaGreatDoorW.PrintMore Go.Proofs.YtijaefmaceolbaaGreatDoor.Tr
theorem law16_any (A : Option Addr) (c : Nat) (l : List ByteArray) (w : World) (hr : Kd.C Kd.string w A l.length l) (hc : l.length ≤ c) :
    Calls Tryz.prog 5 #[.slice A l.length c] w fun e w' => e = .returned (.bool true) ∧ Below w.heap.size w w' := by
  obtain ⟨L, rfl⟩ := strs_of l
  rw [List.length_map] at hr hc ⊢
  exact law_intrinsic L A c w hr hc
end Go.Proofs.YtijaefmaceolbaaGreatDoor.Im

