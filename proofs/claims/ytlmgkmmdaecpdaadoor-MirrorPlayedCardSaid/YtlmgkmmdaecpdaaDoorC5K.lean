/- Further parts of the same walk: contracts of the functions that the law reaches, each under the conditions that it states. -/
import Derived.Test.YtlmgkmmdaecpdaaDoorC5J
namespace Go.Proofs.YtlmgkmmdaecpdaaDoor.Im
open Go.RowKit Go.Proofs.YtlmgkmmdaecpdaaDoorW.PrintWords Go.Proofs.YtlmgkmmdaecpdaaDoorW.PrintLast Go.Proofs.YtlmgkmmdaecpdaaDoorW.PrintMore
attribute [local go_sem] max2_int min2_int max_two min_two max_three min_three max_four min_four
set_option linter.unusedVariables false
set_option linter.unusedSimpArgs false
def pomadelaw04_flipped.l0 : Nat → Int → ByteArray → List Int → Int → Option (ByteArray)
  | 0, _, _, _, _ => none
  | k + 1, x0, x1, x5, x6 => if x6 < (x1.size : Int) then (if 0 ≤ x6 then (if (bt x1 x6) = 120 then (if x0 = 0 then (none) else (if 0 ≤ (wrap64 ((wrap64 ((Int.tmod x6 x0) * x0)) + (wrap64 (Int.tdiv x6 x0)))) then (if (wrap64 ((wrap64 ((Int.tmod x6 x0) * x0)) + (wrap64 (Int.tdiv x6 x0)))) < (x5.length : Int) then (pomadelaw04_flipped.l0 k x0 x1 (x5.set ((wrap64 ((wrap64 ((Int.tmod x6 x0) * x0)) + (wrap64 (Int.tdiv x6 x0)))) : Int).toNat 111) (wrap64 (x6 + 1))) else (none)) else (none))) else (if (bt x1 x6) = 111 then (if x0 = 0 then (none) else (if 0 ≤ (wrap64 ((wrap64 ((Int.tmod x6 x0) * x0)) + (wrap64 (Int.tdiv x6 x0)))) then (if (wrap64 ((wrap64 ((Int.tmod x6 x0) * x0)) + (wrap64 (Int.tdiv x6 x0)))) < (x5.length : Int) then (pomadelaw04_flipped.l0 k x0 x1 (x5.set ((wrap64 ((wrap64 ((Int.tmod x6 x0) * x0)) + (wrap64 (Int.tdiv x6 x0)))) : Int).toNat 120) (wrap64 (x6 + 1))) else (none)) else (none))) else (if x0 = 0 then (none) else (if 0 ≤ (wrap64 ((wrap64 ((Int.tmod x6 x0) * x0)) + (wrap64 (Int.tdiv x6 x0)))) then (if (wrap64 ((wrap64 ((Int.tmod x6 x0) * x0)) + (wrap64 (Int.tdiv x6 x0)))) < (x5.length : Int) then (pomadelaw04_flipped.l0 k x0 x1 (x5.set ((wrap64 ((wrap64 ((Int.tmod x6 x0) * x0)) + (wrap64 (Int.tdiv x6 x0)))) : Int).toNat (bt x1 x6)) (wrap64 (x6 + 1))) else (none)) else (none))))) else (none)) else (some (strOfNums x5))
def pomadelaw04_flipped.f (k : Nat) (a0 : Int) (a1 : ByteArray) : Option (ByteArray) := if 0 ≤ (a1.size : Int) then (if ((a1.size : Int) : Int).toNat ≤ 281474976710656 then (pomadelaw04_flipped.l0 k a0 a1 (List.replicate ((a1.size : Int) : Int).toNat 0) 0) else (none)) else (none)
theorem pomadelaw04_flipped.mono_l : ∀ k, (∀ y0 y1 y2 y3, LeO (pomadelaw04_flipped.l0 k y0 y1 y2 y3) (pomadelaw04_flipped.l0 (k + 1) y0 y1 y2 y3))
  | 0 => fun _ _ _ _ r h => by simp [pomadelaw04_flipped.l0] at h
  | k + 1 => by
    have ih0 := pomadelaw04_flipped.mono_l k
    · intro y0 y1 y2 y3
      unfold pomadelaw04_flipped.l0
      repeat' first
      | (with_reducible exact ih0 _ _ _ _)
      | (with_reducible exact LeO.refl _)
      | (with_reducible exact LeO.none _)
      | (with_reducible refine LeO.ite ?_ ?_)
      | (with_reducible refine LeO.bind ?_ (fun _ => ?_))
      | exact ih0 _ _ _ _
      | exact LeO.none _
      | refine LeO.ite ?_ ?_
      | refine LeO.bind ?_ (fun _ => ?_)
theorem pomadelaw04_flipped.mono : ∀ a0 a1 k, LeO (pomadelaw04_flipped.f k a0 a1) (pomadelaw04_flipped.f (k + 1) a0 a1) := by
  intro a0 a1 k
  have ih0 := pomadelaw04_flipped.mono_l k
  unfold pomadelaw04_flipped.f
  repeat' first
      | (with_reducible exact ih0 _ _ _ _)
      | (with_reducible exact LeO.refl _)
      | (with_reducible exact LeO.none _)
      | (with_reducible refine LeO.ite ?_ ?_)
      | (with_reducible refine LeO.bind ?_ (fun _ => ?_))
      | exact ih0 _ _ _ _
      | exact LeO.none _
      | refine LeO.ite ?_ ?_
      | refine LeO.bind ?_ (fun _ => ?_)
def pomadelaw04_flipped.T10 : Bool × List (List Nat × List Nat) := (true, [([], []), ([], []), ([], []), ([1, 2], [1, 2]), ([], []), ([3, 4], [3, 4]), ([], []), ([], []), ([6, 7], [6, 7]), ([5, 8], [5, 8]), ([], []), ([0, 9, 0, 1, 2, 3, 4, 5, 6, 7, 8, 9, 10], [0, 9]), ([11, 10, 0, 1, 2, 3, 4, 5, 6, 7, 8, 9, 10], [10, 11])])
def pomadelaw04_flipped.B10 : List Nat := [0, 0, 0, 6, 0, 30, 0, 0, 192, 510, 0, 2047, 4095]
theorem pomadelaw04_flipped.tab10 : rtab .any (opsOf Tryd.f23 10) = pomadelaw04_flipped.T10 := by kernel_rfl
theorem pomadelaw04_flipped.bits10 : waitsOk pomadelaw04_flipped.T10.2 pomadelaw04_flipped.B10 = true := by kernel_rfl
set_option maxHeartbeats 8000000 in
set_option maxRecDepth 100000 in
theorem pomadelaw04_flipped.calls (k : Nat) (a0 : Int) (a1 : ByteArray) (r : ByteArray) (w : World) (h : pomadelaw04_flipped.f k a0 a1 = some r) :
    Calls Tryd.prog 23 #[.int .i64 a0, .string a1] w fun e w' => e = .returned (.string r) ∧ Below w.heap.size w w' := by
  have HB := Aside0.mk (Below.refl w.heap.size w)
  have H : (if 0 ≤ (a1.size : Int) then (if ((a1.size : Int) : Int).toNat ≤ 281474976710656 then (pomadelaw04_flipped.l0 k a0 a1 (List.replicate ((a1.size : Int) : Int).toNat 0) 0) else (none)) else (none)) = some r := h
  clear h
  by_cases c3 : 0 ≤ (a1.size : Int)
  · rw [if_pos c3] at H
    have c3b0 := eq_true c3
    have c3b1 : decide (0 ≤ (a1.size : Int)) = true := decide_eq_true c3
    clear c3
    by_cases c4 : ((a1.size : Int) : Int).toNat ≤ 281474976710656
    · rw [if_pos c4] at H
      have c4b0 := eq_true c4
      have c4b1 : decide (((a1.size : Int) : Int).toNat ≤ 281474976710656) = true := decide_eq_true c4
      clear c4
      obtain ⟨y234, hy234⟩ : ∃ y_ : List Int, y_ = (List.replicate ((a1.size : Int) : Int).toNat 0) := ⟨_, rfl⟩
      replace H : (pomadelaw04_flipped.l0 k a0 a1 y234 0) = some r := by first | (rw [hy234]; with_reducible exact H) | (have H2_ := (Option.bind_some _ _).symm.trans H; rw [hy234]; with_reducible exact H2_) | (have H2_ := (Option.bind_some _ _).symm.trans H; with_reducible exact H2_) | with_reducible exact H | (rw [hy234]; exact H) | exact H
      have Ny234 := Aside0.mk hy234
      clear hy234
      have H' := Aside0.mk H
      clear H
      go_enter Tryd.func23, Tryd.ntmps23
      go_wp2_with (first | ((with_reducible refine gate_dst (N := 10) rfl ?_); refine Kd.R_make (Kd.int .u8) _ 5 rfl (N := 10) rfl 60 _ _ rfl (a1.size : Int) rfl rfl Tryd.underlying60 (.int .u8 0) 1 info5 rfl (by decide) (by omega) 0 (ok := fun _ => True) (okp := fun _ => True) rfl (fun _ hk => hk) trivial (of_decide_eq_true (by first | (with_reducible assumption) | assumption)) (Nat.le_trans (Nat.mul_le_mul_right _ (of_decide_eq_true (by first | (with_reducible assumption) | assumption) : (a1.size : Int).toNat ≤ 281474976710656)) (by omega)) (Below.refl _ _) (Nat.le_refl _) ?_; intro v235 w5 ho6 hb hg_ hnew_; clear hg_ hnew_; (first | rw [← Ny234.out] at ho6 | (simp only [Int.reduceToNat] at ho6; rw [← Ny234.out] at ho6)); have n0_ := Aside0.mk (Kd.R_lower ho6 (below_size (by repeat (first | (with_reducible first | exact HB.out | apply below_alloc | apply pw_below_drewN | apply below_drew1) | exact HB.out)))); have n1_ := Aside0.mk (below_step (by repeat (first | (with_reducible first | exact HB.out | apply below_alloc | apply pw_below_drewN | apply below_drew1) | exact HB.out)) hb); clear HB; have HO236 := n0_; have HB := n1_; clear n0_ n1_; clear hb ho6))
      go_loopg [6] k (fun kq v6 w' => ∃ (x5_1 : List Int) (x6_1 : Int), v6 = .int .i64 x6_1 ∧ Aside0 (pomadelaw04_flipped.l0 kq a0 a1 x5_1 x6_1 = some r) ∧ Aside0 (kq ≤ k) ∧ Aside0 (Kd.R (Kd.int .u8) 5 w' w.heap.size (fun _ => True) v235 x5_1) ∧ Aside0 (Below w.heap.size w w'))
      case atStart => exact ⟨(y234), (0), (by first | rfl | (simp; done) | (simp [*]; done)), H', ⟨Nat.le_refl _⟩, ⟨by (with_reducible repeat (first | apply Kd.R_alloc | apply Kd.R_drewN | apply Kd.R_drew)); exact HO236.out⟩, ⟨by repeat (first | (with_reducible first | exact HB.out | apply below_alloc | apply pw_below_drewN | apply below_drew1) | exact HB.out)⟩⟩
      case round =>
        clear H'
        try clear c2
        try clear p2
        try clear c3
        try clear c3b0
        try clear c3b1
        try clear c4
        try clear c4b0
        try clear c4b1
        obtain ⟨x5_1, x6_1, rfl, HA, HK1, HO_5, HB⟩ := hrel
        cases gk with
        | zero => exact absurd HA.out (by simp [pomadelaw04_flipped.l0])
        | succ k1 =>
          have H := HA.out
          clear HA
          simp only [pomadelaw04_flipped.l0] at H
          by_cases c7 : x6_1 < (a1.size : Int)
          · rw [if_pos c7] at H
            have c7b0 : decide (x6_1 < (a1.size : Int)) = true := decide_eq_true c7
            clear c7
            by_cases c8 : 0 ≤ x6_1
            · rw [if_pos c8] at H
              have c8b0 : decide (0 ≤ x6_1) = true := decide_eq_true c8
              clear c8
              by_cases c10 : (bt a1 x6_1) = 120
              · rw [if_pos c10] at H
                have c10b0 : ((bt a1 x6_1) == 120) = true := beq_iff_eq.mpr c10
                have c10b1 : ((bt a1 x6_1) != 120) = false := bne_eq_false_iff_eq.mpr c10
                clear c10
                by_cases c11 : a0 = 0
                · rw [if_pos c11] at H
                  exact absurd H (by simp)
                · rw [if_neg c11] at H
                  have c11b0 : (a0 == 0) = false := beq_eq_false_iff_ne.mpr c11
                  have c11b1 : (a0 != 0) = true := bne_iff_ne.mpr c11
                  obtain ⟨ji12, hji12⟩ : ∃ j_ : Int, (wrap64 ((wrap64 ((Int.tmod x6_1 a0) * a0)) + (wrap64 (Int.tdiv x6_1 a0)))) = j_ := ⟨_, rfl⟩
                  replace H : (if 0 ≤ (ji12) then (if (ji12) < (x5_1.length : Int) then (pomadelaw04_flipped.l0 k1 a0 a1 (x5_1.set ((ji12) : Int).toNat 111) (wrap64 (x6_1 + 1))) else (none)) else (none)) = some r := by first | (rw [hji12] at H; exact H) | (simp only [hji12] at H ⊢; exact H)
                  have hji12w : (IntKind.i64.wrap ((wrap64 ((Int.tmod x6_1 a0) * a0)) + (wrap64 (Int.tdiv x6_1 a0)))) = ji12 := (i64_w _).trans hji12
                  by_cases c13 : 0 ≤ (ji12)
                  · rw [if_pos c13] at H
                    have c13b0 : decide (0 ≤ (ji12)) = true := decide_eq_true c13
                    clear c13
                    by_cases c14 : (ji12) < (x5_1.length : Int)
                    · rw [if_pos c14] at H
                      have c14b0 : decide ((ji12) < (x5_1.length : Int)) = true := decide_eq_true c14
                      clear c14
                      obtain ⟨y237, hy237⟩ : ∃ y_ : List Int, y_ = (x5_1.set ((ji12) : Int).toNat 111) := ⟨_, rfl⟩
                      replace H : (pomadelaw04_flipped.l0 k1 a0 a1 y237 (wrap64 (x6_1 + 1))) = some r := by first | (rw [hy237]; with_reducible exact H) | (have H2_ := (Option.bind_some _ _).symm.trans H; rw [hy237]; with_reducible exact H2_) | (have H2_ := (Option.bind_some _ _).symm.trans H; with_reducible exact H2_) | with_reducible exact H | (rw [hy237]; exact H) | exact H
                      have Ny237 := Aside0.mk hy237
                      clear hy237
                      have H' := Aside0.mk H
                      clear H
                      have p9 : 0 ≤ (x6_1 : Int) := of_decide_eq_true (by first | (with_reducible assumption) | assumption)
                      have q9 : x6_1 < (a1.size : Int) := of_decide_eq_true (by first | (with_reducible assumption) | assumption)
                      have hx9 := bt_at a1 x6_1
                      replace p9 := eq_true p9
                      replace q9 := eq_true q9
                      try go_wp2
                      have n0_ := Aside0.mk (Kd.R_drew HO_5.out)
                      have n1_ := Aside0.mk (below_drew1 HB.out)
                      clear HO_5
                      clear HB
                      have HO_5 := n0_
                      have HB := n1_
                      clear n0_ n1_
                      have p15 : 0 ≤ ((ji12) : Int) := of_decide_eq_true (by first | (with_reducible assumption) | assumption)
                      have q15 : ((ji12) : Int) < ((x5_1.length : Int) : Int) := of_decide_eq_true (by first | (with_reducible assumption) | assumption)
                      obtain ⟨go15, co15, eo15, gb15, gl15, cl15, HG15⟩ := Kd.R_form HO_5.out (by omega)
                      (first | cases eo15 | (injection eo15 with ea_ en_ ec_; (first | subst ea_ | (injection ea_ with ea_; subst ea_)); subst ec_; clear en_))
                      have GB15 := Aside0.mk gb15
                      have GG15 := Aside0.mk HG15
                      clear gb15 gl15 HG15
                      obtain ⟨hx15_0, hf15_0⟩ := Kd.R_celln 0 HO_5.out ((ji12) : Int) p15 q15
                      replace p15 := eq_true p15
                      replace q15 := eq_true q15
                      have HP17 := Kd.R_putn HO_5.out ((ji12) : Int) 111
                      rw [← Ny237.out] at HP17
                      have HQ17 := Aside0.mk HP17
                      clear HP17
                      refine start_ (n := 13) (S := fun w' => True) (ds := [12]) #[false, false, false, false, false, false, false, false, false, false, false, false, false] (by kernel_rfl) rfl rfl trivial (fun hHeld => ?_); refine with_tabW pomadelaw04_flipped.tab10 pomadelaw04_flipped.bits10 (fun HT_ HW_ => ?_)
                      generalize wr.drew = w16 at HO_5 HB GG15 HQ17 hf15_0 hx15_0 hHeld ⊢
                      refine pure_ (i := 0) (N := some 24) (v := ?_) (a' := ?_) #[true, false, false, false, false, false, false, false, false, false, false, false, false] rfl rfl (any_of HT_.out (by kernel_rfl)) (fun _ _ _ h => h) (Or.inl ⟨by rfl, ?_⟩) ?_ ?_
                      rotate_left
                      · intro w'
                        go_simp
                        with_reducible rfl
                      rotate_left
                      · simp only [Act.put, List.setIfInBounds_toArray, List.set_cons_zero, List.set_cons_succ, i64_w, i32_w]
                        rfl
                      refine pure_ (i := 1) (N := some 25) (v := ?_) (a' := ?_) #[true, true, false, false, false, false, false, false, false, false, false, false, false] rfl rfl (any_of HT_.out (by kernel_rfl)) (fun _ _ _ h => h) (Or.inl ⟨by rfl, ?_⟩) ?_ ?_
                      rotate_left
                      · intro w'
                        go_simp
                        with_reducible rfl
                      rotate_left
                      · simp only [Act.put, List.setIfInBounds_toArray, List.set_cons_zero, List.set_cons_succ, i64_w, i32_w]
                        rfl
                      refine pure_ (i := 2) (N := some 26) (v := ?_) (a' := ?_) #[true, true, true, false, false, false, false, false, false, false, false, false, false] rfl rfl (any_of HT_.out (by kernel_rfl)) (fun _ _ _ h => h) (Or.inl ⟨by rfl, ?_⟩) ?_ ?_
                      rotate_left
                      · intro w'
                        go_simp
                        with_reducible rfl
                      rotate_left
                      · simp only [Act.put, List.setIfInBounds_toArray, List.set_cons_zero, List.set_cons_succ, i64_w, i32_w]
                        rfl
                      refine pure_ (i := 3) (N := some 27) (v := ?_) (a' := ?_) #[true, true, true, true, false, false, false, false, false, false, false, false, false] rfl rfl (any_of HT_.out (by kernel_rfl)) (fun _ _ _ h => h) (Or.inl ⟨by rfl, ?_⟩) ?_ ?_
                      rotate_left
                      · intro w'
                        go_simp
                        with_reducible rfl
                      rotate_left
                      · simp only [Act.put, List.setIfInBounds_toArray, List.set_cons_zero, List.set_cons_succ, i64_w, i32_w]
                        rfl
                      refine pure_ (i := 4) (N := some 28) (v := ?_) (a' := ?_) #[true, true, true, true, true, false, false, false, false, false, false, false, false] rfl rfl (any_of HT_.out (by kernel_rfl)) (fun _ _ _ h => h) (Or.inl ⟨by rfl, ?_⟩) ?_ ?_
                      rotate_left
                      · intro w'
                        go_simp
                        with_reducible rfl
                      rotate_left
                      · simp only [Act.put, List.setIfInBounds_toArray, List.set_cons_zero, List.set_cons_succ, i64_w, i32_w]
                        rfl
                      refine pure_ (i := 5) (N := some 29) (v := ?_) (a' := ?_) #[true, true, true, true, true, true, false, false, false, false, false, false, false] rfl rfl (any_of HT_.out (by kernel_rfl)) (fun _ _ _ h => h) (Or.inl ⟨by rfl, ?_⟩) ?_ ?_
                      rotate_left
                      · intro w'
                        go_simp
                        with_reducible rfl
                      rotate_left
                      · simp only [Act.put, List.setIfInBounds_toArray, List.set_cons_zero, List.set_cons_succ, i64_w, i32_w]
                        rfl
                      refine pure_ (i := 6) (N := some 30) (v := ?_) (a' := ?_) #[true, true, true, true, true, true, true, false, false, false, false, false, false] rfl rfl (any_of HT_.out (by kernel_rfl)) (fun _ _ _ h => h) (Or.inl ⟨by rfl, ?_⟩) ?_ ?_
                      rotate_left
                      · intro w'
                        go_simp
                        with_reducible rfl
                      rotate_left
                      · simp only [Act.put, List.setIfInBounds_toArray, List.set_cons_zero, List.set_cons_succ, i64_w, i32_w]
                        rfl
                      refine pure_ (i := 7) (N := some 31) (v := ?_) (a' := ?_) #[true, true, true, true, true, true, true, true, false, false, false, false, false] rfl rfl (any_of HT_.out (by kernel_rfl)) (fun _ _ _ h => h) (Or.inl ⟨by rfl, ?_⟩) ?_ ?_
                      rotate_left
                      · intro w'
                        go_simp
                        with_reducible rfl
                      rotate_left
                      · simp only [Act.put, List.setIfInBounds_toArray, List.set_cons_zero, List.set_cons_succ, i64_w, i32_w]
                        rfl
                      refine pure_ (i := 8) (N := some 32) (v := ?_) (a' := ?_) #[true, true, true, true, true, true, true, true, true, false, false, false, false] rfl rfl (any_of HT_.out (by kernel_rfl)) (fun _ _ _ h => h) (Or.inl ⟨by rfl, ?_⟩) ?_ ?_
                      rotate_left
                      · intro w'
                        go_simp
                        with_reducible rfl
                      rotate_left
                      · simp only [Act.put, List.setIfInBounds_toArray, List.set_cons_zero, List.set_cons_succ, i64_w, i32_w]
                        rfl
                      refine pure_ (i := 9) (N := some 33) (v := ?_) (a' := ?_) #[true, true, true, true, true, true, true, true, true, true, false, false, false] rfl rfl (any_of HT_.out (by kernel_rfl)) (fun _ _ _ h => h) (Or.inl ⟨by rfl, ?_⟩) ?_ ?_
                      rotate_left
                      · intro w'
                        go_simp
                        with_reducible rfl
                      rotate_left
                      · simp only [Act.put, List.setIfInBounds_toArray, List.set_cons_zero, List.set_cons_succ, i64_w, i32_w]
                        rfl
                      refine pure_ (i := 10) (N := some 34) (v := ?_) (a' := ?_) #[true, true, true, true, true, true, true, true, true, true, true, false, false] rfl rfl (any_of HT_.out (by kernel_rfl)) (fun _ _ _ h => h) (Or.inl ⟨by rfl, ?_⟩) ?_ ?_
                      rotate_left
                      · intro w'
                        go_simp
                        with_reducible rfl
                      rotate_left
                      · simp only [Act.put, List.setIfInBounds_toArray, List.set_cons_zero, List.set_cons_succ, i64_w, i32_w]
                        rfl
                      refine pure_ (i := 11) (N := some 35) (v := ?_) (a' := ?_) #[true, true, true, true, true, true, true, true, true, true, true, true, false] rfl rfl (any_of HT_.out (by kernel_rfl)) (fun _ _ _ h => h) (Or.inl ⟨by rfl, ?_⟩) ?_ ?_
                      rotate_left
                      · intro w'
                        go_simp
                        with_reducible rfl
                      rotate_left
                      · simp only [Act.put, List.setIfInBounds_toArray, List.set_cons_zero, List.set_cons_succ, i64_w, i32_w]
                        rfl
                      refine last_ (i := 12) (N := none) #[true, true, true, true, true, true, true, true, true, true, true, true, true] rfl rfl (one_of HT_.out (by kernel_rfl)) (by decide) (fun K hK => ?_)
                      refine skip_ (w1 := ?_) (by rfl) rfl ?_ ?_
                      rotate_left
                      · go_simp
                        rfl
                      refine hK.out _ _ ?_
                      clear hK K
                      refine done_ (done_of HT_.out (by kernel_rfl)) ?_
                      try go_wp2
                      go_roundg k1
                      case measure => have := HK1.out; omega
                      case rel => exact ⟨(y237), (wrap64 (x6_1 + 1)), (by first | rfl | (simp; done) | (simp [*]; done)), H', ⟨by have := HK1.out; omega⟩, ⟨by (with_reducible repeat (first | apply Kd.R_alloc | apply Kd.R_drewN | apply Kd.R_drew)); exact HQ17.out⟩, ⟨by repeat (first | (with_reducible first | exact HB.out | apply below_alloc | apply pw_below_drewN | apply below_drew1 | refine below_set ?_ GB15.out) | exact HB.out)⟩⟩
                    · rw [if_neg c14] at H
                      exact absurd H (by simp)
                  · rw [if_neg c13] at H
                    exact absurd H (by simp)
              · rw [if_neg c10] at H
                have c10b0 : ((bt a1 x6_1) == 120) = false := beq_eq_false_iff_ne.mpr c10
                have c10b1 : ((bt a1 x6_1) != 120) = true := bne_iff_ne.mpr c10
                by_cases c18 : (bt a1 x6_1) = 111
                · rw [if_pos c18] at H
                  have c18b0 : ((bt a1 x6_1) == 111) = true := beq_iff_eq.mpr c18
                  have c18b1 : ((bt a1 x6_1) != 111) = false := bne_eq_false_iff_eq.mpr c18
                  clear c18
                  by_cases c19 : a0 = 0
                  · rw [if_pos c19] at H
                    exact absurd H (by simp)
                  · rw [if_neg c19] at H
                    have c19b0 : (a0 == 0) = false := beq_eq_false_iff_ne.mpr c19
                    have c19b1 : (a0 != 0) = true := bne_iff_ne.mpr c19
                    obtain ⟨ji20, hji20⟩ : ∃ j_ : Int, (wrap64 ((wrap64 ((Int.tmod x6_1 a0) * a0)) + (wrap64 (Int.tdiv x6_1 a0)))) = j_ := ⟨_, rfl⟩
                    replace H : (if 0 ≤ (ji20) then (if (ji20) < (x5_1.length : Int) then (pomadelaw04_flipped.l0 k1 a0 a1 (x5_1.set ((ji20) : Int).toNat 120) (wrap64 (x6_1 + 1))) else (none)) else (none)) = some r := by first | (rw [hji20] at H; exact H) | (simp only [hji20] at H ⊢; exact H)
                    have hji20w : (IntKind.i64.wrap ((wrap64 ((Int.tmod x6_1 a0) * a0)) + (wrap64 (Int.tdiv x6_1 a0)))) = ji20 := (i64_w _).trans hji20
                    by_cases c21 : 0 ≤ (ji20)
                    · rw [if_pos c21] at H
                      have c21b0 : decide (0 ≤ (ji20)) = true := decide_eq_true c21
                      clear c21
                      by_cases c22 : (ji20) < (x5_1.length : Int)
                      · rw [if_pos c22] at H
                        have c22b0 : decide ((ji20) < (x5_1.length : Int)) = true := decide_eq_true c22
                        clear c22
                        obtain ⟨y238, hy238⟩ : ∃ y_ : List Int, y_ = (x5_1.set ((ji20) : Int).toNat 120) := ⟨_, rfl⟩
                        replace H : (pomadelaw04_flipped.l0 k1 a0 a1 y238 (wrap64 (x6_1 + 1))) = some r := by first | (rw [hy238]; with_reducible exact H) | (have H2_ := (Option.bind_some _ _).symm.trans H; rw [hy238]; with_reducible exact H2_) | (have H2_ := (Option.bind_some _ _).symm.trans H; with_reducible exact H2_) | with_reducible exact H | (rw [hy238]; exact H) | exact H
                        have Ny238 := Aside0.mk hy238
                        clear hy238
                        have H' := Aside0.mk H
                        clear H
                        have p9 : 0 ≤ (x6_1 : Int) := of_decide_eq_true (by first | (with_reducible assumption) | assumption)
                        have q9 : x6_1 < (a1.size : Int) := of_decide_eq_true (by first | (with_reducible assumption) | assumption)
                        have hx9 := bt_at a1 x6_1
                        replace p9 := eq_true p9
                        replace q9 := eq_true q9
                        try go_wp2
                        have n0_ := Aside0.mk (Kd.R_drew HO_5.out)
                        have n1_ := Aside0.mk (below_drew1 HB.out)
                        clear HO_5
                        clear HB
                        have HO_5 := n0_
                        have HB := n1_
                        clear n0_ n1_
                        have p23 : 0 ≤ ((ji20) : Int) := of_decide_eq_true (by first | (with_reducible assumption) | assumption)
                        have q23 : ((ji20) : Int) < ((x5_1.length : Int) : Int) := of_decide_eq_true (by first | (with_reducible assumption) | assumption)
                        obtain ⟨go23, co23, eo23, gb23, gl23, cl23, HG23⟩ := Kd.R_form HO_5.out (by omega)
                        (first | cases eo23 | (injection eo23 with ea_ en_ ec_; (first | subst ea_ | (injection ea_ with ea_; subst ea_)); subst ec_; clear en_))
                        have GB23 := Aside0.mk gb23
                        have GG23 := Aside0.mk HG23
                        clear gb23 gl23 HG23
                        obtain ⟨hx23_0, hf23_0⟩ := Kd.R_celln 0 HO_5.out ((ji20) : Int) p23 q23
                        replace p23 := eq_true p23
                        replace q23 := eq_true q23
                        have HP25 := Kd.R_putn HO_5.out ((ji20) : Int) 120
                        rw [← Ny238.out] at HP25
                        have HQ25 := Aside0.mk HP25
                        clear HP25
                        refine start_ (n := 13) (S := fun w' => True) (ds := [12]) #[false, false, false, false, false, false, false, false, false, false, false, false, false] (by kernel_rfl) rfl rfl trivial (fun hHeld => ?_); refine with_tabW pomadelaw04_flipped.tab10 pomadelaw04_flipped.bits10 (fun HT_ HW_ => ?_)
                        generalize wr.drew = w24 at HO_5 HB GG23 HQ25 hf23_0 hx23_0 hHeld ⊢
                        refine pure_ (i := 0) (N := some 24) (v := ?_) (a' := ?_) #[true, false, false, false, false, false, false, false, false, false, false, false, false] rfl rfl (any_of HT_.out (by kernel_rfl)) (fun _ _ _ h => h) (Or.inl ⟨by rfl, ?_⟩) ?_ ?_
                        rotate_left
                        · intro w'
                          go_simp
                          with_reducible rfl
                        rotate_left
                        · simp only [Act.put, List.setIfInBounds_toArray, List.set_cons_zero, List.set_cons_succ, i64_w, i32_w]
                          rfl
                        refine pure_ (i := 1) (N := some 25) (v := ?_) (a' := ?_) #[true, true, false, false, false, false, false, false, false, false, false, false, false] rfl rfl (any_of HT_.out (by kernel_rfl)) (fun _ _ _ h => h) (Or.inl ⟨by rfl, ?_⟩) ?_ ?_
                        rotate_left
                        · intro w'
                          go_simp
                          with_reducible rfl
                        rotate_left
                        · simp only [Act.put, List.setIfInBounds_toArray, List.set_cons_zero, List.set_cons_succ, i64_w, i32_w]
                          rfl
                        refine pure_ (i := 2) (N := some 26) (v := ?_) (a' := ?_) #[true, true, true, false, false, false, false, false, false, false, false, false, false] rfl rfl (any_of HT_.out (by kernel_rfl)) (fun _ _ _ h => h) (Or.inl ⟨by rfl, ?_⟩) ?_ ?_
                        rotate_left
                        · intro w'
                          go_simp
                          with_reducible rfl
                        rotate_left
                        · simp only [Act.put, List.setIfInBounds_toArray, List.set_cons_zero, List.set_cons_succ, i64_w, i32_w]
                          rfl
                        refine pure_ (i := 3) (N := some 27) (v := ?_) (a' := ?_) #[true, true, true, true, false, false, false, false, false, false, false, false, false] rfl rfl (any_of HT_.out (by kernel_rfl)) (fun _ _ _ h => h) (Or.inl ⟨by rfl, ?_⟩) ?_ ?_
                        rotate_left
                        · intro w'
                          go_simp
                          with_reducible rfl
                        rotate_left
                        · simp only [Act.put, List.setIfInBounds_toArray, List.set_cons_zero, List.set_cons_succ, i64_w, i32_w]
                          rfl
                        refine pure_ (i := 4) (N := some 28) (v := ?_) (a' := ?_) #[true, true, true, true, true, false, false, false, false, false, false, false, false] rfl rfl (any_of HT_.out (by kernel_rfl)) (fun _ _ _ h => h) (Or.inl ⟨by rfl, ?_⟩) ?_ ?_
                        rotate_left
                        · intro w'
                          go_simp
                          with_reducible rfl
                        rotate_left
                        · simp only [Act.put, List.setIfInBounds_toArray, List.set_cons_zero, List.set_cons_succ, i64_w, i32_w]
                          rfl
                        refine pure_ (i := 5) (N := some 29) (v := ?_) (a' := ?_) #[true, true, true, true, true, true, false, false, false, false, false, false, false] rfl rfl (any_of HT_.out (by kernel_rfl)) (fun _ _ _ h => h) (Or.inl ⟨by rfl, ?_⟩) ?_ ?_
                        rotate_left
                        · intro w'
                          go_simp
                          with_reducible rfl
                        rotate_left
                        · simp only [Act.put, List.setIfInBounds_toArray, List.set_cons_zero, List.set_cons_succ, i64_w, i32_w]
                          rfl
                        refine pure_ (i := 6) (N := some 30) (v := ?_) (a' := ?_) #[true, true, true, true, true, true, true, false, false, false, false, false, false] rfl rfl (any_of HT_.out (by kernel_rfl)) (fun _ _ _ h => h) (Or.inl ⟨by rfl, ?_⟩) ?_ ?_
                        rotate_left
                        · intro w'
                          go_simp
                          with_reducible rfl
                        rotate_left
                        · simp only [Act.put, List.setIfInBounds_toArray, List.set_cons_zero, List.set_cons_succ, i64_w, i32_w]
                          rfl
                        refine pure_ (i := 7) (N := some 31) (v := ?_) (a' := ?_) #[true, true, true, true, true, true, true, true, false, false, false, false, false] rfl rfl (any_of HT_.out (by kernel_rfl)) (fun _ _ _ h => h) (Or.inl ⟨by rfl, ?_⟩) ?_ ?_
                        rotate_left
                        · intro w'
                          go_simp
                          with_reducible rfl
                        rotate_left
                        · simp only [Act.put, List.setIfInBounds_toArray, List.set_cons_zero, List.set_cons_succ, i64_w, i32_w]
                          rfl
                        refine pure_ (i := 8) (N := some 32) (v := ?_) (a' := ?_) #[true, true, true, true, true, true, true, true, true, false, false, false, false] rfl rfl (any_of HT_.out (by kernel_rfl)) (fun _ _ _ h => h) (Or.inl ⟨by rfl, ?_⟩) ?_ ?_
                        rotate_left
                        · intro w'
                          go_simp
                          with_reducible rfl
                        rotate_left
                        · simp only [Act.put, List.setIfInBounds_toArray, List.set_cons_zero, List.set_cons_succ, i64_w, i32_w]
                          rfl
                        refine pure_ (i := 9) (N := some 33) (v := ?_) (a' := ?_) #[true, true, true, true, true, true, true, true, true, true, false, false, false] rfl rfl (any_of HT_.out (by kernel_rfl)) (fun _ _ _ h => h) (Or.inl ⟨by rfl, ?_⟩) ?_ ?_
                        rotate_left
                        · intro w'
                          go_simp
                          with_reducible rfl
                        rotate_left
                        · simp only [Act.put, List.setIfInBounds_toArray, List.set_cons_zero, List.set_cons_succ, i64_w, i32_w]
                          rfl
                        refine pure_ (i := 10) (N := some 34) (v := ?_) (a' := ?_) #[true, true, true, true, true, true, true, true, true, true, true, false, false] rfl rfl (any_of HT_.out (by kernel_rfl)) (fun _ _ _ h => h) (Or.inl ⟨by rfl, ?_⟩) ?_ ?_
                        rotate_left
                        · intro w'
                          go_simp
                          with_reducible rfl
                        rotate_left
                        · simp only [Act.put, List.setIfInBounds_toArray, List.set_cons_zero, List.set_cons_succ, i64_w, i32_w]
                          rfl
                        refine pure_ (i := 11) (N := some 35) (v := ?_) (a' := ?_) #[true, true, true, true, true, true, true, true, true, true, true, true, false] rfl rfl (any_of HT_.out (by kernel_rfl)) (fun _ _ _ h => h) (Or.inl ⟨by rfl, ?_⟩) ?_ ?_
                        rotate_left
                        · intro w'
                          go_simp
                          with_reducible rfl
                        rotate_left
                        · simp only [Act.put, List.setIfInBounds_toArray, List.set_cons_zero, List.set_cons_succ, i64_w, i32_w]
                          rfl
                        refine last_ (i := 12) (N := none) #[true, true, true, true, true, true, true, true, true, true, true, true, true] rfl rfl (one_of HT_.out (by kernel_rfl)) (by decide) (fun K hK => ?_)
                        refine skip_ (w1 := ?_) (by rfl) rfl ?_ ?_
                        rotate_left
                        · go_simp
                          rfl
                        refine hK.out _ _ ?_
                        clear hK K
                        refine done_ (done_of HT_.out (by kernel_rfl)) ?_
                        try go_wp2
                        go_roundg k1
                        case measure => have := HK1.out; omega
                        case rel => exact ⟨(y238), (wrap64 (x6_1 + 1)), (by first | rfl | (simp; done) | (simp [*]; done)), H', ⟨by have := HK1.out; omega⟩, ⟨by (with_reducible repeat (first | apply Kd.R_alloc | apply Kd.R_drewN | apply Kd.R_drew)); exact HQ25.out⟩, ⟨by repeat (first | (with_reducible first | exact HB.out | apply below_alloc | apply pw_below_drewN | apply below_drew1 | refine below_set ?_ GB23.out) | exact HB.out)⟩⟩
                      · rw [if_neg c22] at H
                        exact absurd H (by simp)
                    · rw [if_neg c21] at H
                      exact absurd H (by simp)
                · rw [if_neg c18] at H
                  have c18b0 : ((bt a1 x6_1) == 111) = false := beq_eq_false_iff_ne.mpr c18
                  have c18b1 : ((bt a1 x6_1) != 111) = true := bne_iff_ne.mpr c18
                  by_cases c26 : a0 = 0
                  · rw [if_pos c26] at H
                    exact absurd H (by simp)
                  · rw [if_neg c26] at H
                    have c26b0 : (a0 == 0) = false := beq_eq_false_iff_ne.mpr c26
                    have c26b1 : (a0 != 0) = true := bne_iff_ne.mpr c26
                    obtain ⟨ji27, hji27⟩ : ∃ j_ : Int, (wrap64 ((wrap64 ((Int.tmod x6_1 a0) * a0)) + (wrap64 (Int.tdiv x6_1 a0)))) = j_ := ⟨_, rfl⟩
                    replace H : (if 0 ≤ (ji27) then (if (ji27) < (x5_1.length : Int) then (pomadelaw04_flipped.l0 k1 a0 a1 (x5_1.set ((ji27) : Int).toNat (bt a1 x6_1)) (wrap64 (x6_1 + 1))) else (none)) else (none)) = some r := by first | (rw [hji27] at H; exact H) | (simp only [hji27] at H ⊢; exact H)
                    have hji27w : (IntKind.i64.wrap ((wrap64 ((Int.tmod x6_1 a0) * a0)) + (wrap64 (Int.tdiv x6_1 a0)))) = ji27 := (i64_w _).trans hji27
                    by_cases c28 : 0 ≤ (ji27)
                    · rw [if_pos c28] at H
                      have c28b0 : decide (0 ≤ (ji27)) = true := decide_eq_true c28
                      clear c28
                      by_cases c29 : (ji27) < (x5_1.length : Int)
                      · rw [if_pos c29] at H
                        have c29b0 : decide ((ji27) < (x5_1.length : Int)) = true := decide_eq_true c29
                        clear c29
                        obtain ⟨y239, hy239⟩ : ∃ y_ : List Int, y_ = (x5_1.set ((ji27) : Int).toNat (bt a1 x6_1)) := ⟨_, rfl⟩
                        replace H : (pomadelaw04_flipped.l0 k1 a0 a1 y239 (wrap64 (x6_1 + 1))) = some r := by first | (rw [hy239]; with_reducible exact H) | (have H2_ := (Option.bind_some _ _).symm.trans H; rw [hy239]; with_reducible exact H2_) | (have H2_ := (Option.bind_some _ _).symm.trans H; with_reducible exact H2_) | with_reducible exact H | (rw [hy239]; exact H) | exact H
                        have Ny239 := Aside0.mk hy239
                        clear hy239
                        have H' := Aside0.mk H
                        clear H
                        have p9 : 0 ≤ (x6_1 : Int) := of_decide_eq_true (by first | (with_reducible assumption) | assumption)
                        have q9 : x6_1 < (a1.size : Int) := of_decide_eq_true (by first | (with_reducible assumption) | assumption)
                        have hx9 := bt_at a1 x6_1
                        replace p9 := eq_true p9
                        replace q9 := eq_true q9
                        try go_wp2
                        have n0_ := Aside0.mk (Kd.R_drew HO_5.out)
                        have n1_ := Aside0.mk (below_drew1 HB.out)
                        clear HO_5
                        clear HB
                        have HO_5 := n0_
                        have HB := n1_
                        clear n0_ n1_
                        have p30 : 0 ≤ ((ji27) : Int) := of_decide_eq_true (by first | (with_reducible assumption) | assumption)
                        have q30 : ((ji27) : Int) < ((x5_1.length : Int) : Int) := of_decide_eq_true (by first | (with_reducible assumption) | assumption)
                        obtain ⟨go30, co30, eo30, gb30, gl30, cl30, HG30⟩ := Kd.R_form HO_5.out (by omega)
                        (first | cases eo30 | (injection eo30 with ea_ en_ ec_; (first | subst ea_ | (injection ea_ with ea_; subst ea_)); subst ec_; clear en_))
                        have GB30 := Aside0.mk gb30
                        have GG30 := Aside0.mk HG30
                        clear gb30 gl30 HG30
                        obtain ⟨hx30_0, hf30_0⟩ := Kd.R_celln 0 HO_5.out ((ji27) : Int) p30 q30
                        replace p30 := eq_true p30
                        replace q30 := eq_true q30
                        have HP32 := Kd.R_putn HO_5.out ((ji27) : Int) (bt a1 x6_1)
                        rw [← Ny239.out] at HP32
                        have HQ32 := Aside0.mk HP32
                        clear HP32
                        refine start_ (n := 13) (S := fun w' => True) (ds := [12]) #[false, false, false, false, false, false, false, false, false, false, false, false, false] (by kernel_rfl) rfl rfl trivial (fun hHeld => ?_); refine with_tabW pomadelaw04_flipped.tab10 pomadelaw04_flipped.bits10 (fun HT_ HW_ => ?_)
                        generalize wr.drew = w31 at HO_5 HB GG30 HQ32 hf30_0 hx30_0 hHeld ⊢
                        refine pure_ (i := 0) (N := some 24) (v := ?_) (a' := ?_) #[true, false, false, false, false, false, false, false, false, false, false, false, false] rfl rfl (any_of HT_.out (by kernel_rfl)) (fun _ _ _ h => h) (Or.inl ⟨by rfl, ?_⟩) ?_ ?_
                        rotate_left
                        · intro w'
                          go_simp
                          with_reducible rfl
                        rotate_left
                        · simp only [Act.put, List.setIfInBounds_toArray, List.set_cons_zero, List.set_cons_succ, i64_w, i32_w]
                          rfl
                        refine pure_ (i := 1) (N := some 25) (v := ?_) (a' := ?_) #[true, true, false, false, false, false, false, false, false, false, false, false, false] rfl rfl (any_of HT_.out (by kernel_rfl)) (fun _ _ _ h => h) (Or.inl ⟨by rfl, ?_⟩) ?_ ?_
                        rotate_left
                        · intro w'
                          go_simp
                          with_reducible rfl
                        rotate_left
                        · simp only [Act.put, List.setIfInBounds_toArray, List.set_cons_zero, List.set_cons_succ, i64_w, i32_w]
                          rfl
                        refine pure_ (i := 2) (N := some 26) (v := ?_) (a' := ?_) #[true, true, true, false, false, false, false, false, false, false, false, false, false] rfl rfl (any_of HT_.out (by kernel_rfl)) (fun _ _ _ h => h) (Or.inl ⟨by rfl, ?_⟩) ?_ ?_
                        rotate_left
                        · intro w'
                          go_simp
                          with_reducible rfl
                        rotate_left
                        · simp only [Act.put, List.setIfInBounds_toArray, List.set_cons_zero, List.set_cons_succ, i64_w, i32_w]
                          rfl
                        refine pure_ (i := 3) (N := some 27) (v := ?_) (a' := ?_) #[true, true, true, true, false, false, false, false, false, false, false, false, false] rfl rfl (any_of HT_.out (by kernel_rfl)) (fun _ _ _ h => h) (Or.inl ⟨by rfl, ?_⟩) ?_ ?_
                        rotate_left
                        · intro w'
                          go_simp
                          with_reducible rfl
                        rotate_left
                        · simp only [Act.put, List.setIfInBounds_toArray, List.set_cons_zero, List.set_cons_succ, i64_w, i32_w]
                          rfl
                        refine pure_ (i := 4) (N := some 28) (v := ?_) (a' := ?_) #[true, true, true, true, true, false, false, false, false, false, false, false, false] rfl rfl (any_of HT_.out (by kernel_rfl)) (fun _ _ _ h => h) (Or.inl ⟨by rfl, ?_⟩) ?_ ?_
                        rotate_left
                        · intro w'
                          go_simp
                          with_reducible rfl
                        rotate_left
                        · simp only [Act.put, List.setIfInBounds_toArray, List.set_cons_zero, List.set_cons_succ, i64_w, i32_w]
                          rfl
                        refine pure_ (i := 5) (N := some 29) (v := ?_) (a' := ?_) #[true, true, true, true, true, true, false, false, false, false, false, false, false] rfl rfl (any_of HT_.out (by kernel_rfl)) (fun _ _ _ h => h) (Or.inl ⟨by rfl, ?_⟩) ?_ ?_
                        rotate_left
                        · intro w'
                          go_simp
                          with_reducible rfl
                        rotate_left
                        · simp only [Act.put, List.setIfInBounds_toArray, List.set_cons_zero, List.set_cons_succ, i64_w, i32_w]
                          rfl
                        refine pure_ (i := 6) (N := some 30) (v := ?_) (a' := ?_) #[true, true, true, true, true, true, true, false, false, false, false, false, false] rfl rfl (any_of HT_.out (by kernel_rfl)) (fun _ _ _ h => h) (Or.inl ⟨by rfl, ?_⟩) ?_ ?_
                        rotate_left
                        · intro w'
                          go_simp
                          with_reducible rfl
                        rotate_left
                        · simp only [Act.put, List.setIfInBounds_toArray, List.set_cons_zero, List.set_cons_succ, i64_w, i32_w]
                          rfl
                        refine pure_ (i := 7) (N := some 31) (v := ?_) (a' := ?_) #[true, true, true, true, true, true, true, true, false, false, false, false, false] rfl rfl (any_of HT_.out (by kernel_rfl)) (fun _ _ _ h => h) (Or.inl ⟨by rfl, ?_⟩) ?_ ?_
                        rotate_left
                        · intro w'
                          go_simp
                          with_reducible rfl
                        rotate_left
                        · simp only [Act.put, List.setIfInBounds_toArray, List.set_cons_zero, List.set_cons_succ, i64_w, i32_w]
                          rfl
                        refine pure_ (i := 8) (N := some 32) (v := ?_) (a' := ?_) #[true, true, true, true, true, true, true, true, true, false, false, false, false] rfl rfl (any_of HT_.out (by kernel_rfl)) (fun _ _ _ h => h) (Or.inl ⟨by rfl, ?_⟩) ?_ ?_
                        rotate_left
                        · intro w'
                          go_simp
                          with_reducible rfl
                        rotate_left
                        · simp only [Act.put, List.setIfInBounds_toArray, List.set_cons_zero, List.set_cons_succ, i64_w, i32_w]
                          rfl
                        refine pure_ (i := 9) (N := some 33) (v := ?_) (a' := ?_) #[true, true, true, true, true, true, true, true, true, true, false, false, false] rfl rfl (any_of HT_.out (by kernel_rfl)) (fun _ _ _ h => h) (Or.inl ⟨by rfl, ?_⟩) ?_ ?_
                        rotate_left
                        · intro w'
                          go_simp
                          with_reducible rfl
                        rotate_left
                        · simp only [Act.put, List.setIfInBounds_toArray, List.set_cons_zero, List.set_cons_succ, i64_w, i32_w]
                          rfl
                        refine pure_ (i := 10) (N := some 34) (v := ?_) (a' := ?_) #[true, true, true, true, true, true, true, true, true, true, true, false, false] rfl rfl (any_of HT_.out (by kernel_rfl)) (fun _ _ _ h => h) (Or.inl ⟨by rfl, ?_⟩) ?_ ?_
                        rotate_left
                        · intro w'
                          go_simp
                          with_reducible rfl
                        rotate_left
                        · simp only [Act.put, List.setIfInBounds_toArray, List.set_cons_zero, List.set_cons_succ, i64_w, i32_w]
                          rfl
                        refine pure_ (i := 11) (N := some 35) (v := ?_) (a' := ?_) #[true, true, true, true, true, true, true, true, true, true, true, true, false] rfl rfl (any_of HT_.out (by kernel_rfl)) (fun _ _ _ h => h) (Or.inl ⟨by rfl, ?_⟩) ?_ ?_
                        rotate_left
                        · intro w'
                          go_simp
                          with_reducible rfl
                        rotate_left
                        · simp only [Act.put, List.setIfInBounds_toArray, List.set_cons_zero, List.set_cons_succ, i64_w, i32_w]
                          rfl
                        refine last_ (i := 12) (N := none) #[true, true, true, true, true, true, true, true, true, true, true, true, true] rfl rfl (one_of HT_.out (by kernel_rfl)) (by decide) (fun K hK => ?_)
                        refine skip_ (w1 := ?_) (by rfl) rfl ?_ ?_
                        rotate_left
                        · go_simp
                          rfl
                        refine hK.out _ _ ?_
                        clear hK K
                        refine done_ (done_of HT_.out (by kernel_rfl)) ?_
                        try go_wp2
                        go_roundg k1
                        case measure => have := HK1.out; omega
                        case rel => exact ⟨(y239), (wrap64 (x6_1 + 1)), (by first | rfl | (simp; done) | (simp [*]; done)), H', ⟨by have := HK1.out; omega⟩, ⟨by (with_reducible repeat (first | apply Kd.R_alloc | apply Kd.R_drewN | apply Kd.R_drew)); exact HQ32.out⟩, ⟨by repeat (first | (with_reducible first | exact HB.out | apply below_alloc | apply pw_below_drewN | apply below_drew1 | refine below_set ?_ GB30.out) | exact HB.out)⟩⟩
                      · rw [if_neg c29] at H
                        exact absurd H (by simp)
                    · rw [if_neg c28] at H
                      exact absurd H (by simp)
            · rw [if_neg c8] at H
              exact absurd H (by simp)
          · rw [if_neg c7] at H
            have c7b0 : decide (x6_1 < (a1.size : Int)) = false := decide_eq_false c7
            clear c7
            obtain rfl := Option.some.inj H
            have hcv33 := own_string (P := Tryd.prog) Tryd.underlying60 Tryd.underlying5 Tryd.underlying9 (Kd.own_of_R HO_5.out)
            go_wp2
            go_ret
            exact ⟨by first | rfl | (simp [errW_none, errW_some] <;> rfl) | (simp [*, errW_none, errW_some] <;> rfl), by repeat (first | (with_reducible first | exact HB.out | apply below_alloc | apply pw_below_drewN | apply below_drew1) | exact HB.out)⟩
    · rw [if_neg c4] at H
      exact absurd H (by simp)
  · rw [if_neg c3] at H
    exact absurd H (by simp)
end Go.Proofs.YtlmgkmmdaecpdaaDoor.Im

namespace Go.Proofs.YtlmgkmmdaecpdaaDoor.Im
open Go.RowKit Go.Proofs.YtlmgkmmdaecpdaaDoorW.PrintWords Go.Proofs.YtlmgkmmdaecpdaaDoorW.PrintLast Go.Proofs.YtlmgkmmdaecpdaaDoorW.PrintMore Go.Proofs.YtlmgkmmdaecpdaaDoor.Mi
set_option linter.unusedVariables false
structure Env (w : World) (mL : Int) : Prop where
  st : Steps w
  mx : w.cell? ⟨1, 0, none⟩ = some (.int .i64 mL)
theorem Env.later {w w' : World} {mL : Int} (h : Env w mL) {B : Nat} (hb : Below B w w') (hB : B = w.heap.size) : Env w' mL := by
  subst hB
  exact ⟨h.st.later hb, (hb.cell (World.block_lt_of_cell? w _ h.mx)).trans h.mx⟩
theorem alive_env {w : World} {mL : Int} (h : Env w mL) : Calls Tryd.prog 17 #[] w fun e w' => e = .returned (.bool true) ∧ Below w.heap.size w w' := alive_any w h.st mL h.mx
def pX : ByteArray := ⟨#[120]⟩
def pO : ByteArray := ⟨#[111]⟩
theorem needs_env {w : World} {mL : Int} (h : Env w mL) (n : Int) (s ps : ByteArray) (hs : s.size ≤ 9223372036854775807) (a e : Int) (hr : needsR n s ps = (a, e)) :
    Calls Tryd.prog 20 #[.int .i64 n, .string s, .string ps] w fun x w' => x = .returned (.tuple #[.int .i64 a, .int .i64 e]) ∧ Below w.heap.size w w' := by
  refine (needs_call n s ps w h.st hs).mono ?_
  rintro x w' ⟨h1, h2⟩
  rw [hr] at h2
  exact ⟨h2, h1⟩
theorem pl_X : plB pX = true := by unfold plB pX; rw [ByteArray.toList_mk]; rfl
theorem pl_O : plB pO = true := by unfold plB pO; rw [ByteArray.toList_mk]; rfl
end Go.Proofs.YtlmgkmmdaecpdaaDoor.Im

namespace Go.Proofs.YtlmgkmmdaecpdaaDoor.Im
open Go.RowKit Go.Proofs.YtlmgkmmdaecpdaaDoorW.PrintWords Go.Proofs.YtlmgkmmdaecpdaaDoorW.PrintLast Go.Proofs.YtlmgkmmdaecpdaaDoorW.PrintMore Go.Proofs.YtlmgkmmdaecpdaaDoor.Mi
set_option linter.unusedVariables false
theorem needsR_cases {n : Nat} {s ps : ByteArray} (hs : boE n s xodB = 0) (hp : plB ps = true) : (∃ d : Nat, needO n (bsOf s) (bt ps 0) = some d ∧ needsR n s ps = ((d : Int), 0)) ∨ (needO n (bsOf s) (bt ps 0) = none ∧ needsR n s ps = (0, 10)) := by
  unfold needsR
  rw [if_pos hs, if_pos hp, Int.toNat_natCast]
  cases h : needO n (bsOf s) (bt ps 0) with
  | some d => exact .inl ⟨d, rfl, rfl⟩
  | none => exact .inr ⟨rfl, rfl⟩
end Go.Proofs.YtlmgkmmdaecpdaaDoor.Im

namespace Go.Proofs.YtlmgkmmdaecpdaaDoor.Im
open Go.RowKit Go.Proofs.YtlmgkmmdaecpdaaDoorW.PrintWords Go.Proofs.YtlmgkmmdaecpdaaDoorW.PrintLast Go.Proofs.YtlmgkmmdaecpdaaDoorW.PrintMore Go.Proofs.YtlmgkmmdaecpdaaDoor.Mi
set_option linter.unusedVariables false
set_option linter.unusedSimpArgs false
def dotB (j : Nat) : ByteArray := ⟨(List.replicate j 46).toArray⟩
theorem dot_snoc (j : Nat) : dotB j ++ ⟨#[46]⟩ = dotB (j + 1) := by
  apply ByteArray.ext
  rw [ByteArray.data_append]
  show (List.replicate j 46).toArray ++ [46].toArray = (List.replicate (j + 1) 46).toArray
  rw [List.append_toArray, ← List.replicate_succ']
theorem dot_size (j : Nat) : (dotB j).size = j := by simp [dotB, ByteArray.size]
theorem wins_env {w : World} {mL : Int} (h : Env w mL) (n : Int) (s : ByteArray) (hs : s.size ≤ 9223372036854775807) (v : ByteArray) (e : Int) (hr : winsR n s = (v, e)) :
    Calls Tryd.prog 18 #[.int .i64 n, .string s] w fun x w' => x = .returned (.tuple #[.string v, .int .i64 e]) ∧ Below w.heap.size w w' := by
  refine (wins_call n s w h.st hs).mono ?_
  rintro x w' ⟨h1, h2⟩
  rw [hr] at h2
  exact ⟨h2, h1⟩
theorem wins_dots (k : Nat) (hk : 1 ≤ k ∧ k ≤ 3) : winsR k (dotB (k * k)) = (⟨#[120]⟩, 0) := by
  obtain rfl | rfl | rfl : k = 1 ∨ k = 2 ∨ k = 3 := by omega
  · unfold winsR
    rw [if_pos (by decide), if_pos (by decide), if_pos (by decide), show gv ((1 : Nat) : Int).toNat (dotB (1 * 1)).data.toList = 120 from gv_one]
    rfl
  · unfold winsR
    rw [if_pos (by decide), if_pos (by decide), if_pos (by decide), show gv ((2 : Nat) : Int).toNat (dotB (2 * 2)).data.toList = 120 from al_gv]
    rfl
  · unfold winsR
    rw [if_pos (by decide), if_pos (by decide), if_pos (by decide), show gv ((3 : Nat) : Int).toNat (dotB (3 * 3)).data.toList = 120 from gv_three]
    rfl
theorem winsR_cases (n : Int) (s : ByteArray) : (∃ e, e ≠ 0 ∧ winsR n s = (⟨#[]⟩, e)) ∨ (boE n s xodB = 0 ∧ winsR n s = (strW (gv n.toNat s.data.toList), 0)) := by
  unfold winsR
  by_cases h : boE n s xodB = 0
  · rw [if_pos h]
    by_cases h1 : CntOk s.data.toList
    · rw [if_pos h1]
      by_cases h2 : s.data.toList.count 46 ≤ 9
      · rw [if_pos h2]; exact .inr ⟨h, rfl⟩
      · rw [if_neg h2]; exact .inl ⟨8, by decide, rfl⟩
    · rw [if_neg h1]; exact .inl ⟨9, by decide, rfl⟩
  · rw [if_neg h]; exact .inl ⟨_, h, rfl⟩
theorem board_bytes {n : Nat} {s : ByteArray} (h : boE n s xodB = 0) : 1 ≤ n ∧ s.data.toList.length = n * n ∧ ∀ b ∈ s.data.toList, b = 120 ∨ b = 111 ∨ b = 46 := by
  obtain ⟨h1, h2, h3, h4⟩ := (boE_iff (b := true)).1 h
  have hl : s.data.toList.length = s.size := Array.length_toList
  refine ⟨by omega, by rw [← Int.natCast_mul] at h3; omega, fun b hb => ?_⟩
  obtain ⟨a, ha, rfl⟩ := List.mem_iff_getElem.1 hb
  have e : (bsOf s).getD a 0 = ((s.data.toList[a]'ha).toNat : Int) := by
    unfold bsOf
    rw [List.getD, List.getElem?_map, List.getElem?_eq_getElem ha]
    rfl
  rcases h4 a (by omega) with k | k | ⟨_, k⟩
  · exact .inl (byte_eq.1 (e.symm.trans k))
  · exact .inr (.inl (byte_eq.1 (e.symm.trans k)))
  · exact .inr (.inr (byte_eq.1 (e.symm.trans k)))
def PlI (nb : UInt8) (g a0 f1 b0 g1 : Int) : Prop :=
  (a0 = 0 ∧ f1 = 0 ∧ g = 120) ∨ (f1 = 0 ∧ a0 ≠ 0 ∧ g1 = 10 ∧ g = 120) ∨ (f1 = 10 ∧ g1 = 10 ∧ g = 120) ∨ (f1 = 0 ∧ a0 ≠ 0 ∧ g1 = 0 ∧ b0 = 0 ∧ g = 111) ∨ (f1 = 10 ∧ g1 = 0 ∧ g = 111) ∨
  (f1 = 0 ∧ a0 ≠ 0 ∧ g1 = 0 ∧ b0 ≠ 0 ∧ (nb = 120 ∧ a0 = 1 ∧ g = 120 ∨ nb = 120 ∧ a0 ≠ 1 ∧ (g = 120 ∨ g = 111) ∨ nb = 111 ∧ b0 = 1 ∧ g = 111 ∨ nb = 111 ∧ b0 ≠ 1 ∧ (g = 120 ∨ g = 111)))
theorem played_all {m : Nat} {s : ByteArray} (hbo : boE m s xodB = 0) {a0 f1 b0 g1 : Int} (hx : needsR m s pX = (a0, f1)) (ho : needsR m s pO = (b0, g1)) : PlI (nxB s.data.toList) (gv m s.data.toList) a0 f1 b0 g1 := by
  obtain ⟨hm1, hml, hmb⟩ := board_bytes hbo
  have zx : needO m (bl s.data.toList) 120 = some 0 → gv m s.data.toList = 120 := fun h => gv_zero hm1 (.inl rfl) h
  have zo : needO m (bl s.data.toList) 111 = some 0 → gv m s.data.toList = 111 := fun h => gv_zero hm1 (.inr rfl) h
  have no : needO m (bl s.data.toList) 111 = none → gv m s.data.toList = 120 := fun h => gv_none (p := 120) (q := 111) hm1 (.inl ⟨rfl, rfl⟩) _ _ rfl hml hmb h
  have nx : needO m (bl s.data.toList) 120 = none → gv m s.data.toList = 111 := fun h => gv_none (p := 111) (q := 120) hm1 (.inr ⟨rfl, rfl⟩) _ _ rfl hml hmb h
  have ox : nxB s.data.toList = 120 → needO m (bl s.data.toList) 120 = some 1 → needO m (bl s.data.toList) 111 ≠ some 0 → gv m s.data.toList = 120 := fun h h1 h2 => gv_next (p := 120) (q := 111) hm1 (.inl ⟨rfl, rfl⟩) h h1 h2 hml
  have oo : nxB s.data.toList = 111 → needO m (bl s.data.toList) 111 = some 1 → needO m (bl s.data.toList) 120 ≠ some 0 → gv m s.data.toList = 111 := fun h h1 h2 => gv_next (p := 111) (q := 120) hm1 (.inr ⟨rfl, rfl⟩) h h1 h2 hml
  have gc := gv_cases m s.data.toList
  have nc := nxB_or s.data.toList
  have hsx := needsR_cases hbo pl_X
  have hso := needsR_cases hbo pl_O
  have e1 : needO m (bsOf s) (bt pX 0) = needO m (bl s.data.toList) 120 := rfl
  have e2 : needO m (bsOf s) (bt pO 0) = needO m (bl s.data.toList) 111 := rfl
  rw [e1, hx] at hsx
  rw [e2, ho] at hso
  clear e1 e2 hmb hml hbo hm1 hx ho
  generalize needO m (bl s.data.toList) 120 = ux at *
  generalize needO m (bl s.data.toList) 111 = uo at *
  generalize nxB s.data.toList = nb at *
  generalize gv m s.data.toList = g at *
  unfold PlI
  rcases hsx with ⟨d, rfl, hrx⟩ | ⟨rfl, hrx⟩
  · obtain ⟨rfl, rfl⟩ := Prod.mk.inj hrx
    by_cases hd0 : d = 0
    · subst hd0
      exact .inl ⟨rfl, rfl, zx rfl⟩
    · rcases hso with ⟨d', rfl, hro⟩ | ⟨rfl, hro⟩
      · obtain ⟨rfl, rfl⟩ := Prod.mk.inj hro
        by_cases hd0' : d' = 0
        · subst hd0'
          exact .inr (.inr (.inr (.inl ⟨rfl, by omega, rfl, rfl, zo rfl⟩)))
        · refine .inr (.inr (.inr (.inr (.inr ⟨rfl, by omega, rfl, by omega, ?_⟩))))
          rcases nc with rfl | rfl
          · by_cases h1 : d = 1
            · subst h1
              exact .inl ⟨rfl, rfl, ox rfl rfl (fun h => hd0' (Option.some.inj h))⟩
            · exact .inr (.inl ⟨rfl, by omega, gc⟩)
          · by_cases h1 : d' = 1
            · subst h1
              exact .inr (.inr (.inl ⟨rfl, rfl, oo rfl rfl (fun h => hd0 (Option.some.inj h))⟩))
            · exact .inr (.inr (.inr ⟨rfl, by omega, gc⟩))
      · obtain ⟨rfl, rfl⟩ := Prod.mk.inj hro
        exact .inr (.inl ⟨rfl, by omega, rfl, no rfl⟩)
  · obtain ⟨rfl, rfl⟩ := Prod.mk.inj hrx
    rcases hso with ⟨d', rfl, hro⟩ | ⟨rfl, hro⟩
    · obtain ⟨rfl, rfl⟩ := Prod.mk.inj hro
      exact .inr (.inr (.inr (.inr (.inl ⟨rfl, rfl, nx rfl⟩))))
    · obtain ⟨rfl, rfl⟩ := Prod.mk.inj hro
      exact .inr (.inr (.inl ⟨rfl, rfl, no rfl⟩))
set_option maxHeartbeats 12800000 in
set_option maxRecDepth 100000 in
theorem law_played (x : Int) (n : Int) (s : ByteArray) (w : World) (hst : Steps w) (mL : Int) (hm : w.cell? ⟨1, 0, none⟩ = some (.int .i64 mL)) (hx : (Lit.int .u8 x).wf = true) (hss : s.size ≤ 9223372036854775807) :
    Calls Tryd.prog 5 #[.int .u8 x, .int .i64 n, .string s] w fun e w' => e = .returned (.bool true) ∧ Below w.heap.size w w' := by
  have HE := Aside0.mk (Env.mk hst hm)
  clear hst hm
  obtain ⟨y, rfl, hy⟩ : ∃ y : Nat, x = (y : Nat) ∧ y ≤ 255 := by
    have : 0 ≤ x ∧ x ≤ 255 := by
      simp [Lit.wf, IntKind.min, IntKind.max, IntKind.signed, IntKind.bits] at hx
      omega
    exact ⟨x.toNat, by omega, by omega⟩
  clear hx
  obtain ⟨r, hr, hr3⟩ : ∃ r : Nat, (y : Int) % 3 = (r : Int) ∧ r < 3 := ⟨y % 3, by omega, by omega⟩
  obtain ⟨k, hk⟩ : ∃ k : Nat, k = r + 1 := ⟨_, rfl⟩
  have hkr : 1 + (r : Int) = (k : Int) := by omega
  have hk1 : 1 ≤ k ∧ k ≤ 3 := by omega
  obtain ⟨q, hq⟩ : ∃ q : Nat, k * k = q := ⟨_, rfl⟩
  have hq9 : q ≤ 9 := by rw [← hq]; exact Nat.mul_le_mul hk1.2 hk1.2
  have hkq : (k : Int) * (k : Int) = (q : Int) := by rw [← hq, Int.natCast_mul]
  have HW0 := Aside0.mk (fun (w1 : World) (h : Env w1 mL) => wins_env h k (dotB q) (by rw [dot_size]; omega) ⟨#[120]⟩ 0 (by subst hq; exact wins_dots k hk1))
  have k0 : 0 ≤ (r : Int) := by omega
  have k3 : (r : Int) ≤ 2 := by omega
  have k1 : 1 ≤ (k : Int) := by omega
  have k2 : (k : Int) ≤ 3 := by omega
  clear hk hq hk1 hr3
  go_enter Tryd.func5, Tryd.ntmps5
  go_wp2_with fail
  go_loopw [8, 9] (fun v8 v9 wr => ∃ j : Nat, j ≤ q ∧ v8 = .string (dotB j) ∧ v9 = .int .i64 (j : Int) ∧ Aside0 (Below w.heap.size w wr)) (fun _ v _ => q - (intOf v).toNat)
  case atStart => exact ⟨0, Nat.zero_le _, rfl, rfl, ⟨Below.refl _ _⟩⟩
  obtain ⟨j, hj, rfl, rfl, HB1⟩ := hrel
  have sn := dot_snoc j
  have sz : (dotB j).size + 1 ≤ 9223372036854775807 := by rw [dot_size]; omega
  by_cases hjq : j < q
  · have g1 : decide ((j : Int) < (q : Int)) = true := decide_eq_true (by omega)
    have g2 : decide (j < q) = true := decide_eq_true hjq
    go_wp2_with fail
    go_roundw
    case rel => exact ⟨j + 1, hjq, by rw [← sn], by go_num, HB1⟩
    case measure => simp [intOf]; omega
  · have g1 : decide ((j : Int) < (q : Int)) = false := decide_eq_false (by omega)
    have g2 : decide (j < q) = false := decide_eq_false hjq
    obtain rfl : q = j := by omega
    clear sn sz
    go_wp2_with fail
    refine (HW0.out wr (HE.out.later HB1.out rfl)).mono ?_
    rintro e w2 ⟨rfl, hb2⟩
    have HB2 := Aside0.mk (below_then HB1.out HB1.out.size hb2)
    clear hb2 HB1
    by_cases o1 : n < 1
    · have c1 : decide (n < 1) = true := decide_eq_true o1
      clear o1
      go_wp2_with fail
      go_wp2_with fail
      refine (alive_env (HE.out.later HB2.out rfl)).mono ?_
      rintro e w3 ⟨rfl, hb3⟩
      have HB3 := Aside0.mk (below_then HB2.out HB2.out.size hb3)
      clear hb3 HB2
      go_wp2_with fail
      go_ret
      exact ⟨rfl, HB3.out⟩
    have c1 : decide (n < 1) = false := decide_eq_false o1
    by_cases o2 : 4 < n
    · have c2 : decide (4 < n) = true := decide_eq_true o2
      go_wp2_with fail
      go_wp2_with fail
      refine (alive_env (HE.out.later HB2.out rfl)).mono ?_
      rintro e w3 ⟨rfl, hb3⟩
      have HB3 := Aside0.mk (below_then HB2.out HB2.out.size hb3)
      clear hb3 HB2
      go_wp2_with fail
      go_ret
      exact ⟨rfl, HB3.out⟩
    have c2 : decide (4 < n) = false := decide_eq_false o2
    by_cases o3 : 200 < s.size
    · have c3 : decide (200 < s.size) = true := decide_eq_true o3
      have c4 : decide (200 < (s.size : Int)) = true := decide_eq_true (by omega)
      clear o1 o2 o3
      go_wp2_with fail
      go_wp2_with fail
      refine (alive_env (HE.out.later HB2.out rfl)).mono ?_
      rintro e w3 ⟨rfl, hb3⟩
      have HB3 := Aside0.mk (below_then HB2.out HB2.out.size hb3)
      clear hb3 HB2
      go_wp2_with fail
      go_ret
      exact ⟨rfl, HB3.out⟩
    have c3 : decide (200 < s.size) = false := decide_eq_false o3
    have c4 : decide (200 < (s.size : Int)) = false := decide_eq_false (by omega)
    rcases winsR_cases n s with ⟨E, hE0, hE⟩ | ⟨hbo, hW⟩
    · have HW1 := Aside0.mk (fun (w1 : World) (h : Env w1 mL) => wins_env h n s hss _ _ hE)
      have q0 : (E == 0) = false := beq_eq_false_iff_ne.2 hE0
      clear o1 o2 o3 hE0 hE
      go_wp2_with fail
      refine (HW1.out w2 (HE.out.later HB2.out rfl)).mono ?_
      rintro e w3 ⟨rfl, hb3⟩
      have HB3 := Aside0.mk (below_then HB2.out HB2.out.size hb3)
      clear hb3 HB2
      go_wp2_with fail
      go_wp2_with fail
      refine (alive_env (HE.out.later HB3.out rfl)).mono ?_
      rintro e w4 ⟨rfl, hb4⟩
      have HB4 := Aside0.mk (below_then HB3.out HB3.out.size hb4)
      clear hb4 HB3
      go_wp2_with fail
      go_ret
      exact ⟨rfl, HB4.out⟩
    · obtain ⟨m, rfl⟩ : ∃ m : Nat, n = m := ⟨n.toNat, by omega⟩
      rw [Int.toNat_natCast] at hW
      have HM1 := Aside0.mk (fun (w1 : World) => (show Calls Tryd.prog _ #[.string s, .int .u8 120] w1 _ from many_any s 120 w1 (by omega)))
      have HM2 := Aside0.mk (fun (w1 : World) => (show Calls Tryd.prog _ #[.string s, .int .u8 111] w1 _ from many_any s 111 w1 (by omega)))
      obtain ⟨cx, hcx⟩ : ∃ c, s.data.toList.count 120 = c := ⟨_, rfl⟩
      obtain ⟨co, hco⟩ : ∃ c, s.data.toList.count 111 = c := ⟨_, rfl⟩
      have hnx : nxB s.data.toList = if co < cx then 111 else 120 := by unfold nxB; rw [hcx, hco]
      rw [hcx] at HM1
      rw [hco] at HM2
      have HW1 := Aside0.mk (fun (w1 : World) (h : Env w1 mL) => wins_env h m s hss _ _ hW)
      obtain ⟨⟨a0, f1⟩, hrx⟩ : ∃ r, needsR m s pX = r := ⟨_, rfl⟩
      obtain ⟨⟨b0, g1'⟩, hro⟩ : ∃ r, needsR m s pO = r := ⟨_, rfl⟩
      have HNx := Aside0.mk (fun (w1 : World) (h : Env w1 mL) => needs_env h m s pX hss _ _ hrx)
      have HNo := Aside0.mk (fun (w1 : World) (h : Env w1 mL) => needs_env h m s pO hss _ _ hro)
      have hpl := played_all hbo hrx hro
      rw [hnx] at hpl
      obtain ⟨g, hg⟩ : ∃ g, gv m s.data.toList = g := ⟨_, rfl⟩
      rw [hg] at hpl HW1
      have HPL := Aside0.mk hpl
      clear hpl hg hcx hco hnx hrx hro hW hbo o1 o2 o3
      go_wp2_with fail
      refine (HW1.out w2 (HE.out.later HB2.out rfl)).mono ?_
      rintro e w6 ⟨rfl, hb6⟩
      have HB6 := Aside0.mk (below_then HB2.out HB2.out.size hb6)
      clear hb6 HB2
      by_cases hc : co < cx
      · have d1 : decide ((co : Int) < (cx : Int)) = true := decide_eq_true (by omega)
        have d2 : decide (co < cx) = true := decide_eq_true (by omega)
        rw [if_pos hc] at HPL
        clear hc
        go_wp2_with fail
        refine (HM1.out w6).mono ?_
        rintro e w7 ⟨rfl, hb7⟩
        have HB7 := Aside0.mk (below_then HB6.out HB6.out.size hb7)
        clear hb7 HB6
        go_wp2_with fail
        refine (HM2.out w7).mono ?_
        rintro e w8 ⟨rfl, hb8⟩
        have HB8 := Aside0.mk (below_then HB7.out HB7.out.size hb8)
        clear hb8 HB7
        go_wp2_with fail
        refine (HNx.out w8 (HE.out.later HB8.out rfl)).mono ?_
        rintro e w9 ⟨rfl, hb9⟩
        have HB9 := Aside0.mk (below_then HB8.out HB8.out.size hb9)
        clear hb9 HB8
        go_wp2_with fail
        refine (HNo.out w9 (HE.out.later HB9.out rfl)).mono ?_
        rintro e w10 ⟨rfl, hb10⟩
        have HB10 := Aside0.mk (below_then HB9.out HB9.out.size hb10)
        clear hb10 HB9
        rcases HPL.out with ⟨rfl, rfl, rfl⟩ | ⟨rfl, zu, rfl, rfl⟩ | ⟨rfl, rfl, rfl⟩ | ⟨rfl, zu, rfl, rfl, rfl⟩ | ⟨rfl, rfl, rfl⟩ | ⟨rfl, zu, rfl, zv, ⟨h, rfl, rfl⟩ | ⟨h, zy, rfl | rfl⟩ | ⟨h, rfl, rfl⟩ | ⟨h, zy, rfl | rfl⟩⟩
        · skip
          rw [show strW 120 = ⟨#[120]⟩ from rfl]
          clear HPL
          go_wp2_with fail
          refine (alive_env (HE.out.later HB10.out rfl)).mono ?_
          rintro e w11 ⟨rfl, hb11⟩
          have HB11 := Aside0.mk (below_then HB10.out HB10.out.size hb11)
          clear hb11 HB10
          go_wp2_with fail
          go_ret
          exact ⟨rfl, HB11.out⟩
        · have u : (a0 == 0) = false := beq_eq_false_iff_ne.2 zu
          rw [show strW 120 = ⟨#[120]⟩ from rfl]
          clear HPL
          go_wp2_with fail
          refine (alive_env (HE.out.later HB10.out rfl)).mono ?_
          rintro e w11 ⟨rfl, hb11⟩
          have HB11 := Aside0.mk (below_then HB10.out HB10.out.size hb11)
          clear hb11 HB10
          go_wp2_with fail
          go_ret
          exact ⟨rfl, HB11.out⟩
        · skip
          rw [show strW 120 = ⟨#[120]⟩ from rfl]
          clear HPL
          go_wp2_with fail
          refine (alive_env (HE.out.later HB10.out rfl)).mono ?_
          rintro e w11 ⟨rfl, hb11⟩
          have HB11 := Aside0.mk (below_then HB10.out HB10.out.size hb11)
          clear hb11 HB10
          go_wp2_with fail
          go_ret
          exact ⟨rfl, HB11.out⟩
        · have u : (a0 == 0) = false := beq_eq_false_iff_ne.2 zu
          rw [show strW 111 = ⟨#[111]⟩ from rfl]
          clear HPL
          go_wp2_with fail
          refine (alive_env (HE.out.later HB10.out rfl)).mono ?_
          rintro e w11 ⟨rfl, hb11⟩
          have HB11 := Aside0.mk (below_then HB10.out HB10.out.size hb11)
          clear hb11 HB10
          go_wp2_with fail
          go_ret
          exact ⟨rfl, HB11.out⟩
        · by_cases hb0 : b0 = 0
          · subst hb0
            rw [show strW 111 = ⟨#[111]⟩ from rfl]
            clear HPL
            go_wp2_with fail
            go_wp2_with fail
            refine (alive_env (HE.out.later HB10.out rfl)).mono ?_
            rintro e w11 ⟨rfl, hb11⟩
            have HB11 := Aside0.mk (below_then HB10.out HB10.out.size hb11)
            clear hb11 HB10
            go_wp2_with fail
            go_ret
            exact ⟨rfl, HB11.out⟩
          · have v0 : (b0 == 0) = false := beq_eq_false_iff_ne.2 hb0
            rw [show strW 111 = ⟨#[111]⟩ from rfl]
            clear HPL
            go_wp2_with fail
            go_wp2_with fail
            refine (alive_env (HE.out.later HB10.out rfl)).mono ?_
            rintro e w11 ⟨rfl, hb11⟩
            have HB11 := Aside0.mk (below_then HB10.out HB10.out.size hb11)
            clear hb11 HB10
            go_wp2_with fail
            go_ret
            exact ⟨rfl, HB11.out⟩
        · exact absurd h (by decide)
        · exact absurd h (by decide)
        · exact absurd h (by decide)
        · have u : (a0 == 0) = false := beq_eq_false_iff_ne.2 zu
          clear h zv
          rw [show strW 111 = ⟨#[111]⟩ from rfl]
          clear HPL
          go_wp2_with fail
          refine (alive_env (HE.out.later HB10.out rfl)).mono ?_
          rintro e w11 ⟨rfl, hb11⟩
          have HB11 := Aside0.mk (below_then HB10.out HB10.out.size hb11)
          clear hb11 HB10
          go_wp2_with fail
          go_ret
          exact ⟨rfl, HB11.out⟩
        · have u : (a0 == 0) = false := beq_eq_false_iff_ne.2 zu
          have v : (b0 == 0) = false := beq_eq_false_iff_ne.2 zv
          have y : (b0 == 1) = false := beq_eq_false_iff_ne.2 zy
          clear h
          rw [show strW 120 = ⟨#[120]⟩ from rfl]
          clear HPL
          go_wp2_with fail
          refine (alive_env (HE.out.later HB10.out rfl)).mono ?_
          rintro e w11 ⟨rfl, hb11⟩
          have HB11 := Aside0.mk (below_then HB10.out HB10.out.size hb11)
          clear hb11 HB10
          go_wp2_with fail
          go_ret
          exact ⟨rfl, HB11.out⟩
        · have u : (a0 == 0) = false := beq_eq_false_iff_ne.2 zu
          have v : (b0 == 0) = false := beq_eq_false_iff_ne.2 zv
          have y : (b0 == 1) = false := beq_eq_false_iff_ne.2 zy
          clear h
          rw [show strW 111 = ⟨#[111]⟩ from rfl]
          clear HPL
          go_wp2_with fail
          refine (alive_env (HE.out.later HB10.out rfl)).mono ?_
          rintro e w11 ⟨rfl, hb11⟩
          have HB11 := Aside0.mk (below_then HB10.out HB10.out.size hb11)
          clear hb11 HB10
          go_wp2_with fail
          go_ret
          exact ⟨rfl, HB11.out⟩
      · have d1 : decide ((co : Int) < (cx : Int)) = false := decide_eq_false (by omega)
        have d2 : decide (co < cx) = false := decide_eq_false (by omega)
        rw [if_neg hc] at HPL
        clear hc
        go_wp2_with fail
        refine (HM1.out w6).mono ?_
        rintro e w7 ⟨rfl, hb7⟩
        have HB7 := Aside0.mk (below_then HB6.out HB6.out.size hb7)
        clear hb7 HB6
        go_wp2_with fail
        refine (HM2.out w7).mono ?_
        rintro e w8 ⟨rfl, hb8⟩
        have HB8 := Aside0.mk (below_then HB7.out HB7.out.size hb8)
        clear hb8 HB7
        go_wp2_with fail
        refine (HNx.out w8 (HE.out.later HB8.out rfl)).mono ?_
        rintro e w9 ⟨rfl, hb9⟩
        have HB9 := Aside0.mk (below_then HB8.out HB8.out.size hb9)
        clear hb9 HB8
        go_wp2_with fail
        refine (HNo.out w9 (HE.out.later HB9.out rfl)).mono ?_
        rintro e w10 ⟨rfl, hb10⟩
        have HB10 := Aside0.mk (below_then HB9.out HB9.out.size hb10)
        clear hb10 HB9
        rcases HPL.out with ⟨rfl, rfl, rfl⟩ | ⟨rfl, zu, rfl, rfl⟩ | ⟨rfl, rfl, rfl⟩ | ⟨rfl, zu, rfl, rfl, rfl⟩ | ⟨rfl, rfl, rfl⟩ | ⟨rfl, zu, rfl, zv, ⟨h, rfl, rfl⟩ | ⟨h, zy, rfl | rfl⟩ | ⟨h, rfl, rfl⟩ | ⟨h, zy, rfl | rfl⟩⟩
        · skip
          rw [show strW 120 = ⟨#[120]⟩ from rfl]
          clear HPL
          go_wp2_with fail
          refine (alive_env (HE.out.later HB10.out rfl)).mono ?_
          rintro e w11 ⟨rfl, hb11⟩
          have HB11 := Aside0.mk (below_then HB10.out HB10.out.size hb11)
          clear hb11 HB10
          go_wp2_with fail
          go_ret
          exact ⟨rfl, HB11.out⟩
        · have u : (a0 == 0) = false := beq_eq_false_iff_ne.2 zu
          rw [show strW 120 = ⟨#[120]⟩ from rfl]
          clear HPL
          go_wp2_with fail
          refine (alive_env (HE.out.later HB10.out rfl)).mono ?_
          rintro e w11 ⟨rfl, hb11⟩
          have HB11 := Aside0.mk (below_then HB10.out HB10.out.size hb11)
          clear hb11 HB10
          go_wp2_with fail
          go_ret
          exact ⟨rfl, HB11.out⟩
        · skip
          rw [show strW 120 = ⟨#[120]⟩ from rfl]
          clear HPL
          go_wp2_with fail
          refine (alive_env (HE.out.later HB10.out rfl)).mono ?_
          rintro e w11 ⟨rfl, hb11⟩
          have HB11 := Aside0.mk (below_then HB10.out HB10.out.size hb11)
          clear hb11 HB10
          go_wp2_with fail
          go_ret
          exact ⟨rfl, HB11.out⟩
        · have u : (a0 == 0) = false := beq_eq_false_iff_ne.2 zu
          rw [show strW 111 = ⟨#[111]⟩ from rfl]
          clear HPL
          go_wp2_with fail
          refine (alive_env (HE.out.later HB10.out rfl)).mono ?_
          rintro e w11 ⟨rfl, hb11⟩
          have HB11 := Aside0.mk (below_then HB10.out HB10.out.size hb11)
          clear hb11 HB10
          go_wp2_with fail
          go_ret
          exact ⟨rfl, HB11.out⟩
        · by_cases hb0 : b0 = 0
          · subst hb0
            rw [show strW 111 = ⟨#[111]⟩ from rfl]
            clear HPL
            go_wp2_with fail
            go_wp2_with fail
            refine (alive_env (HE.out.later HB10.out rfl)).mono ?_
            rintro e w11 ⟨rfl, hb11⟩
            have HB11 := Aside0.mk (below_then HB10.out HB10.out.size hb11)
            clear hb11 HB10
            go_wp2_with fail
            go_ret
            exact ⟨rfl, HB11.out⟩
          · have v0 : (b0 == 0) = false := beq_eq_false_iff_ne.2 hb0
            rw [show strW 111 = ⟨#[111]⟩ from rfl]
            clear HPL
            go_wp2_with fail
            go_wp2_with fail
            refine (alive_env (HE.out.later HB10.out rfl)).mono ?_
            rintro e w11 ⟨rfl, hb11⟩
            have HB11 := Aside0.mk (below_then HB10.out HB10.out.size hb11)
            clear hb11 HB10
            go_wp2_with fail
            go_ret
            exact ⟨rfl, HB11.out⟩
        · have v : (b0 == 0) = false := beq_eq_false_iff_ne.2 zv
          clear h zu
          rw [show strW 120 = ⟨#[120]⟩ from rfl]
          clear HPL
          go_wp2_with fail
          refine (alive_env (HE.out.later HB10.out rfl)).mono ?_
          rintro e w11 ⟨rfl, hb11⟩
          have HB11 := Aside0.mk (below_then HB10.out HB10.out.size hb11)
          clear hb11 HB10
          go_wp2_with fail
          go_ret
          exact ⟨rfl, HB11.out⟩
        · have u : (a0 == 0) = false := beq_eq_false_iff_ne.2 zu
          have v : (b0 == 0) = false := beq_eq_false_iff_ne.2 zv
          have y : (a0 == 1) = false := beq_eq_false_iff_ne.2 zy
          clear h
          rw [show strW 120 = ⟨#[120]⟩ from rfl]
          clear HPL
          go_wp2_with fail
          refine (alive_env (HE.out.later HB10.out rfl)).mono ?_
          rintro e w11 ⟨rfl, hb11⟩
          have HB11 := Aside0.mk (below_then HB10.out HB10.out.size hb11)
          clear hb11 HB10
          go_wp2_with fail
          go_ret
          exact ⟨rfl, HB11.out⟩
        · have u : (a0 == 0) = false := beq_eq_false_iff_ne.2 zu
          have v : (b0 == 0) = false := beq_eq_false_iff_ne.2 zv
          have y : (a0 == 1) = false := beq_eq_false_iff_ne.2 zy
          clear h
          rw [show strW 111 = ⟨#[111]⟩ from rfl]
          clear HPL
          go_wp2_with fail
          refine (alive_env (HE.out.later HB10.out rfl)).mono ?_
          rintro e w11 ⟨rfl, hb11⟩
          have HB11 := Aside0.mk (below_then HB10.out HB10.out.size hb11)
          clear hb11 HB10
          go_wp2_with fail
          go_ret
          exact ⟨rfl, HB11.out⟩
        · exact absurd h (by decide)
        · exact absurd h (by decide)
        · exact absurd h (by decide)
end Go.Proofs.YtlmgkmmdaecpdaaDoor.Im

