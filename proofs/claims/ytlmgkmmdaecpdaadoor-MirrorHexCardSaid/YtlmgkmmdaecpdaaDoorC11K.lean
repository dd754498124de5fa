/- Further parts of the same walk: contracts of the functions that the law reaches, each under the conditions that it states. -/
import Derived.Test.YtlmgkmmdaecpdaaDoorC11J
namespace Go.Proofs.YtlmgkmmdaecpdaaDoor.Im
open Go.RowKit Go.Proofs.YtlmgkmmdaecpdaaDoorW.PrintWords Go.Proofs.YtlmgkmmdaecpdaaDoorW.PrintLast Go.Proofs.YtlmgkmmdaecpdaaDoorW.PrintMore
attribute [local go_sem] max2_int min2_int max_two min_two max_three min_three max_four min_four
set_option linter.unusedVariables false
set_option linter.unusedSimpArgs false
def pomadelaw04_flipped.l0 : Nat → Int → ByteArray → List Int → Int → Option (ByteArray)
  | 0, _, _, _, _ => none
  | k + 1, x0, x1, x5, x6 => if x6 < (x1.size : Int) then (if 0 ≤ x6 then (if (bt x1 x6) = 120 then (if x0 = 0 then (none) else (if 0 ≤ (wrap64 ((wrap64 ((Int.tmod x6 x0) * x0)) + (wrap64 (Int.tdiv x6 x0)))) then (if (wrap64 ((wrap64 ((Int.tmod x6 x0) * x0)) + (wrap64 (Int.tdiv x6 x0)))) < (x5.length : Int) then (pomadelaw04_flipped.l0 k x0 x1 (x5.set ((wrap64 ((wrap64 ((Int.tmod x6 x0) * x0)) + (wrap64 (Int.tdiv x6 x0)))) : Int).toNat 111) (wrap64 (x6 + 1))) else (none)) else (none))) else (if (bt x1 x6) = 111 then (if x0 = 0 then (none) else (if 0 ≤ (wrap64 ((wrap64 ((Int.tmod x6 x0) * x0)) + (wrap64 (Int.tdiv x6 x0)))) then (if (wrap64 ((wrap64 ((Int.tmod x6 x0) * x0)) + (wrap64 (Int.tdiv x6 x0)))) < (x5.length : Int) then (pomadelaw04_flipped.l0 k x0 x1 (x5.set ((wrap64 ((wrap64 ((Int.tmod x6 x0) * x0)) + (wrap64 (Int.tdiv x6 x0)))) : Int).toNat 120) (wrap64 (x6 + 1))) else (none)) else (none))) else (if x0 = 0 then (none) else (if 0 ≤ (wrap64 ((wrap64 ((Int.tmod x6 x0) * x0)) + (wrap64 (Int.tdiv x6 x0)))) then (if (wrap64 ((wrap64 ((Int.tmod x6 x0) * x0)) + (wrap64 (Int.tdiv x6 x0)))) < (x5.length : Int) then (pomadelaw04_flipped.l0 k x0 x1 (x5.set ((wrap64 ((wrap64 ((Int.tmod x6 x0) * x0)) + (wrap64 (Int.tdiv x6 x0)))) : Int).toNat (bt x1 x6)) (wrap64 (x6 + 1))) else (none)) else (none))))) else (none)) else (some (strOfNums x5))
def pomadelaw04_flipped.f (k : Nat) (a0 : Int) (a1 : ByteArray) : Option (ByteArray) := if 0 ≤ (a1.size : Int) then (if ((a1.size : Int) : Int).toNat ≤ 281474976710656 then (pomadelaw04_flipped.l0 k a0 a1 (List.replicate ((a1.size : Int) : Int).toNat 0) 0) else (none)) else (none)
theorem pomadelaw04_flipped.mono_l : ∀ k, (∀ y0 y1 y2 y3, LeO (pomadelaw04_flipped.l0 k y0 y1 y2 y3) (pomadelaw04_flipped.l0 (k + 1) y0 y1 y2 y3))
  | 0 => fun _ _ _ _ r h => by simp [pomadelaw04_flipped.l0] at h
  | k + 1 => by
    have ih0 := pomadelaw04_flipped.mono_l k
    · intro y0 y1 y2 y3
      unfold pomadelaw04_flipped.l0
      repeat' first
      | (with_reducible exact ih0 _ _ _ _)
      | (with_reducible exact LeO.refl _)
      | (with_reducible exact LeO.none _)
      | (with_reducible refine LeO.ite ?_ ?_)
      | (with_reducible refine LeO.bind ?_ (fun _ => ?_))
      | exact ih0 _ _ _ _
      | exact LeO.none _
      | refine LeO.ite ?_ ?_
      | refine LeO.bind ?_ (fun _ => ?_)
theorem pomadelaw04_flipped.mono : ∀ a0 a1 k, LeO (pomadelaw04_flipped.f k a0 a1) (pomadelaw04_flipped.f (k + 1) a0 a1) := by
  intro a0 a1 k
  have ih0 := pomadelaw04_flipped.mono_l k
  unfold pomadelaw04_flipped.f
  repeat' first
      | (with_reducible exact ih0 _ _ _ _)
      | (with_reducible exact LeO.refl _)
      | (with_reducible exact LeO.none _)
      | (with_reducible refine LeO.ite ?_ ?_)
      | (with_reducible refine LeO.bind ?_ (fun _ => ?_))
      | exact ih0 _ _ _ _
      | exact LeO.none _
      | refine LeO.ite ?_ ?_
      | refine LeO.bind ?_ (fun _ => ?_)
def pomadelaw04_flipped.T10 : Bool × List (List Nat × List Nat) := (true, [([], []), ([], []), ([], []), ([1, 2], [1, 2]), ([], []), ([3, 4], [3, 4]), ([], []), ([], []), ([6, 7], [6, 7]), ([5, 8], [5, 8]), ([], []), ([0, 9, 0, 1, 2, 3, 4, 5, 6, 7, 8, 9, 10], [0, 9]), ([11, 10, 0, 1, 2, 3, 4, 5, 6, 7, 8, 9, 10], [10, 11])])
def pomadelaw04_flipped.B10 : List Nat := [0, 0, 0, 6, 0, 30, 0, 0, 192, 510, 0, 2047, 4095]
theorem pomadelaw04_flipped.tab10 : rtab .any (opsOf Tryd.f23 10) = pomadelaw04_flipped.T10 := by kernel_rfl
theorem pomadelaw04_flipped.bits10 : waitsOk pomadelaw04_flipped.T10.2 pomadelaw04_flipped.B10 = true := by kernel_rfl
set_option maxHeartbeats 8000000 in
set_option maxRecDepth 100000 in
theorem pomadelaw04_flipped.calls (k : Nat) (a0 : Int) (a1 : ByteArray) (r : ByteArray) (w : World) (h : pomadelaw04_flipped.f k a0 a1 = some r) :
    Calls Tryd.prog 23 #[.int .i64 a0, .string a1] w fun e w' => e = .returned (.string r) ∧ Below w.heap.size w w' := by
  have HB := Aside0.mk (Below.refl w.heap.size w)
  have H : (if 0 ≤ (a1.size : Int) then (if ((a1.size : Int) : Int).toNat ≤ 281474976710656 then (pomadelaw04_flipped.l0 k a0 a1 (List.replicate ((a1.size : Int) : Int).toNat 0) 0) else (none)) else (none)) = some r := h
  clear h
  by_cases c3 : 0 ≤ (a1.size : Int)
  · rw [if_pos c3] at H
    have c3b0 := eq_true c3
    have c3b1 : decide (0 ≤ (a1.size : Int)) = true := decide_eq_true c3
    clear c3
    by_cases c4 : ((a1.size : Int) : Int).toNat ≤ 281474976710656
    · rw [if_pos c4] at H
      have c4b0 := eq_true c4
      have c4b1 : decide (((a1.size : Int) : Int).toNat ≤ 281474976710656) = true := decide_eq_true c4
      clear c4
      obtain ⟨y234, hy234⟩ : ∃ y_ : List Int, y_ = (List.replicate ((a1.size : Int) : Int).toNat 0) := ⟨_, rfl⟩
      replace H : (pomadelaw04_flipped.l0 k a0 a1 y234 0) = some r := by first | (rw [hy234]; with_reducible exact H) | (have H2_ := (Option.bind_some _ _).symm.trans H; rw [hy234]; with_reducible exact H2_) | (have H2_ := (Option.bind_some _ _).symm.trans H; with_reducible exact H2_) | with_reducible exact H | (rw [hy234]; exact H) | exact H
      have Ny234 := Aside0.mk hy234
      clear hy234
      have H' := Aside0.mk H
      clear H
      go_enter Tryd.func23, Tryd.ntmps23
      go_wp2_with (first | ((with_reducible refine gate_dst (N := 10) rfl ?_); refine Kd.R_make (Kd.int .u8) _ 5 rfl (N := 10) rfl 60 _ _ rfl (a1.size : Int) rfl rfl Tryd.underlying60 (.int .u8 0) 1 info5 rfl (by decide) (by omega) 0 (ok := fun _ => True) (okp := fun _ => True) rfl (fun _ hk => hk) trivial (of_decide_eq_true (by first | (with_reducible assumption) | assumption)) (Nat.le_trans (Nat.mul_le_mul_right _ (of_decide_eq_true (by first | (with_reducible assumption) | assumption) : (a1.size : Int).toNat ≤ 281474976710656)) (by omega)) (Below.refl _ _) (Nat.le_refl _) ?_; intro v235 w5 ho6 hb hg_ hnew_; clear hg_ hnew_; (first | rw [← Ny234.out] at ho6 | (simp only [Int.reduceToNat] at ho6; rw [← Ny234.out] at ho6)); have n0_ := Aside0.mk (Kd.R_lower ho6 (below_size (by repeat (first | (with_reducible first | exact HB.out | apply below_alloc | apply pw_below_drewN | apply below_drew1) | exact HB.out)))); have n1_ := Aside0.mk (below_step (by repeat (first | (with_reducible first | exact HB.out | apply below_alloc | apply pw_below_drewN | apply below_drew1) | exact HB.out)) hb); clear HB; have HO236 := n0_; have HB := n1_; clear n0_ n1_; clear hb ho6))
      go_loopg [6] k (fun kq v6 w' => ∃ (x5_1 : List Int) (x6_1 : Int), v6 = .int .i64 x6_1 ∧ Aside0 (pomadelaw04_flipped.l0 kq a0 a1 x5_1 x6_1 = some r) ∧ Aside0 (kq ≤ k) ∧ Aside0 (Kd.R (Kd.int .u8) 5 w' w.heap.size (fun _ => True) v235 x5_1) ∧ Aside0 (Below w.heap.size w w'))
      case atStart => exact ⟨(y234), (0), (by first | rfl | (simp; done) | (simp [*]; done)), H', ⟨Nat.le_refl _⟩, ⟨by (with_reducible repeat (first | apply Kd.R_alloc | apply Kd.R_drewN | apply Kd.R_drew)); exact HO236.out⟩, ⟨by repeat (first | (with_reducible first | exact HB.out | apply below_alloc | apply pw_below_drewN | apply below_drew1) | exact HB.out)⟩⟩
      case round =>
        clear H'
        try clear c2
        try clear p2
        try clear c3
        try clear c3b0
        try clear c3b1
        try clear c4
        try clear c4b0
        try clear c4b1
        obtain ⟨x5_1, x6_1, rfl, HA, HK1, HO_5, HB⟩ := hrel
        cases gk with
        | zero => exact absurd HA.out (by simp [pomadelaw04_flipped.l0])
        | succ k1 =>
          have H := HA.out
          clear HA
          simp only [pomadelaw04_flipped.l0] at H
          by_cases c7 : x6_1 < (a1.size : Int)
          · rw [if_pos c7] at H
            have c7b0 : decide (x6_1 < (a1.size : Int)) = true := decide_eq_true c7
            clear c7
            by_cases c8 : 0 ≤ x6_1
            · rw [if_pos c8] at H
              have c8b0 : decide (0 ≤ x6_1) = true := decide_eq_true c8
              clear c8
              by_cases c10 : (bt a1 x6_1) = 120
              · rw [if_pos c10] at H
                have c10b0 : ((bt a1 x6_1) == 120) = true := beq_iff_eq.mpr c10
                have c10b1 : ((bt a1 x6_1) != 120) = false := bne_eq_false_iff_eq.mpr c10
                clear c10
                by_cases c11 : a0 = 0
                · rw [if_pos c11] at H
                  exact absurd H (by simp)
                · rw [if_neg c11] at H
                  have c11b0 : (a0 == 0) = false := beq_eq_false_iff_ne.mpr c11
                  have c11b1 : (a0 != 0) = true := bne_iff_ne.mpr c11
                  obtain ⟨ji12, hji12⟩ : ∃ j_ : Int, (wrap64 ((wrap64 ((Int.tmod x6_1 a0) * a0)) + (wrap64 (Int.tdiv x6_1 a0)))) = j_ := ⟨_, rfl⟩
                  replace H : (if 0 ≤ (ji12) then (if (ji12) < (x5_1.length : Int) then (pomadelaw04_flipped.l0 k1 a0 a1 (x5_1.set ((ji12) : Int).toNat 111) (wrap64 (x6_1 + 1))) else (none)) else (none)) = some r := by first | (rw [hji12] at H; exact H) | (simp only [hji12] at H ⊢; exact H)
                  have hji12w : (IntKind.i64.wrap ((wrap64 ((Int.tmod x6_1 a0) * a0)) + (wrap64 (Int.tdiv x6_1 a0)))) = ji12 := (i64_w _).trans hji12
                  by_cases c13 : 0 ≤ (ji12)
                  · rw [if_pos c13] at H
                    have c13b0 : decide (0 ≤ (ji12)) = true := decide_eq_true c13
                    clear c13
                    by_cases c14 : (ji12) < (x5_1.length : Int)
                    · rw [if_pos c14] at H
                      have c14b0 : decide ((ji12) < (x5_1.length : Int)) = true := decide_eq_true c14
                      clear c14
                      obtain ⟨y237, hy237⟩ : ∃ y_ : List Int, y_ = (x5_1.set ((ji12) : Int).toNat 111) := ⟨_, rfl⟩
                      replace H : (pomadelaw04_flipped.l0 k1 a0 a1 y237 (wrap64 (x6_1 + 1))) = some r := by first | (rw [hy237]; with_reducible exact H) | (have H2_ := (Option.bind_some _ _).symm.trans H; rw [hy237]; with_reducible exact H2_) | (have H2_ := (Option.bind_some _ _).symm.trans H; with_reducible exact H2_) | with_reducible exact H | (rw [hy237]; exact H) | exact H
                      have Ny237 := Aside0.mk hy237
                      clear hy237
                      have H' := Aside0.mk H
                      clear H
                      have p9 : 0 ≤ (x6_1 : Int) := of_decide_eq_true (by first | (with_reducible assumption) | assumption)
                      have q9 : x6_1 < (a1.size : Int) := of_decide_eq_true (by first | (with_reducible assumption) | assumption)
                      have hx9 := bt_at a1 x6_1
                      replace p9 := eq_true p9
                      replace q9 := eq_true q9
                      try go_wp2
                      have n0_ := Aside0.mk (Kd.R_drew HO_5.out)
                      have n1_ := Aside0.mk (below_drew1 HB.out)
                      clear HO_5
                      clear HB
                      have HO_5 := n0_
                      have HB := n1_
                      clear n0_ n1_
                      have p15 : 0 ≤ ((ji12) : Int) := of_decide_eq_true (by first | (with_reducible assumption) | assumption)
                      have q15 : ((ji12) : Int) < ((x5_1.length : Int) : Int) := of_decide_eq_true (by first | (with_reducible assumption) | assumption)
                      obtain ⟨go15, co15, eo15, gb15, gl15, cl15, HG15⟩ := Kd.R_form HO_5.out (by omega)
                      (first | cases eo15 | (injection eo15 with ea_ en_ ec_; (first | subst ea_ | (injection ea_ with ea_; subst ea_)); subst ec_; clear en_))
                      have GB15 := Aside0.mk gb15
                      have GG15 := Aside0.mk HG15
                      clear gb15 gl15 HG15
                      obtain ⟨hx15_0, hf15_0⟩ := Kd.R_celln 0 HO_5.out ((ji12) : Int) p15 q15
                      replace p15 := eq_true p15
                      replace q15 := eq_true q15
                      have HP17 := Kd.R_putn HO_5.out ((ji12) : Int) 111
                      rw [← Ny237.out] at HP17
                      have HQ17 := Aside0.mk HP17
                      clear HP17
                      refine start_ (n := 13) (S := fun w' => True) (ds := [12]) #[false, false, false, false, false, false, false, false, false, false, false, false, false] (by kernel_rfl) rfl rfl trivial (fun hHeld => ?_); refine with_tabW pomadelaw04_flipped.tab10 pomadelaw04_flipped.bits10 (fun HT_ HW_ => ?_)
                      generalize wr.drew = w16 at HO_5 HB GG15 HQ17 hf15_0 hx15_0 hHeld ⊢
                      refine pure_ (i := 0) (N := some 24) (v := ?_) (a' := ?_) #[true, false, false, false, false, false, false, false, false, false, false, false, false] rfl rfl (any_of HT_.out (by kernel_rfl)) (fun _ _ _ h => h) (Or.inl ⟨by rfl, ?_⟩) ?_ ?_
                      rotate_left
                      · intro w'
                        go_simp
                        with_reducible rfl
                      rotate_left
                      · simp only [Act.put, List.setIfInBounds_toArray, List.set_cons_zero, List.set_cons_succ, i64_w, i32_w]
                        rfl
                      refine pure_ (i := 1) (N := some 25) (v := ?_) (a' := ?_) #[true, true, false, false, false, false, false, false, false, false, false, false, false] rfl rfl (any_of HT_.out (by kernel_rfl)) (fun _ _ _ h => h) (Or.inl ⟨by rfl, ?_⟩) ?_ ?_
                      rotate_left
                      · intro w'
                        go_simp
                        with_reducible rfl
                      rotate_left
                      · simp only [Act.put, List.setIfInBounds_toArray, List.set_cons_zero, List.set_cons_succ, i64_w, i32_w]
                        rfl
                      refine pure_ (i := 2) (N := some 26) (v := ?_) (a' := ?_) #[true, true, true, false, false, false, false, false, false, false, false, false, false] rfl rfl (any_of HT_.out (by kernel_rfl)) (fun _ _ _ h => h) (Or.inl ⟨by rfl, ?_⟩) ?_ ?_
                      rotate_left
                      · intro w'
                        go_simp
                        with_reducible rfl
                      rotate_left
                      · simp only [Act.put, List.setIfInBounds_toArray, List.set_cons_zero, List.set_cons_succ, i64_w, i32_w]
                        rfl
                      refine pure_ (i := 3) (N := some 27) (v := ?_) (a' := ?_) #[true, true, true, true, false, false, false, false, false, false, false, false, false] rfl rfl (any_of HT_.out (by kernel_rfl)) (fun _ _ _ h => h) (Or.inl ⟨by rfl, ?_⟩) ?_ ?_
                      rotate_left
                      · intro w'
                        go_simp
                        with_reducible rfl
                      rotate_left
                      · simp only [Act.put, List.setIfInBounds_toArray, List.set_cons_zero, List.set_cons_succ, i64_w, i32_w]
                        rfl
                      refine pure_ (i := 4) (N := some 28) (v := ?_) (a' := ?_) #[true, true, true, true, true, false, false, false, false, false, false, false, false] rfl rfl (any_of HT_.out (by kernel_rfl)) (fun _ _ _ h => h) (Or.inl ⟨by rfl, ?_⟩) ?_ ?_
                      rotate_left
                      · intro w'
                        go_simp
                        with_reducible rfl
                      rotate_left
                      · simp only [Act.put, List.setIfInBounds_toArray, List.set_cons_zero, List.set_cons_succ, i64_w, i32_w]
                        rfl
                      refine pure_ (i := 5) (N := some 29) (v := ?_) (a' := ?_) #[true, true, true, true, true, true, false, false, false, false, false, false, false] rfl rfl (any_of HT_.out (by kernel_rfl)) (fun _ _ _ h => h) (Or.inl ⟨by rfl, ?_⟩) ?_ ?_
                      rotate_left
                      · intro w'
                        go_simp
                        with_reducible rfl
                      rotate_left
                      · simp only [Act.put, List.setIfInBounds_toArray, List.set_cons_zero, List.set_cons_succ, i64_w, i32_w]
                        rfl
                      refine pure_ (i := 6) (N := some 30) (v := ?_) (a' := ?_) #[true, true, true, true, true, true, true, false, false, false, false, false, false] rfl rfl (any_of HT_.out (by kernel_rfl)) (fun _ _ _ h => h) (Or.inl ⟨by rfl, ?_⟩) ?_ ?_
                      rotate_left
                      · intro w'
                        go_simp
                        with_reducible rfl
                      rotate_left
                      · simp only [Act.put, List.setIfInBounds_toArray, List.set_cons_zero, List.set_cons_succ, i64_w, i32_w]
                        rfl
                      refine pure_ (i := 7) (N := some 31) (v := ?_) (a' := ?_) #[true, true, true, true, true, true, true, true, false, false, false, false, false] rfl rfl (any_of HT_.out (by kernel_rfl)) (fun _ _ _ h => h) (Or.inl ⟨by rfl, ?_⟩) ?_ ?_
                      rotate_left
                      · intro w'
                        go_simp
                        with_reducible rfl
                      rotate_left
                      · simp only [Act.put, List.setIfInBounds_toArray, List.set_cons_zero, List.set_cons_succ, i64_w, i32_w]
                        rfl
                      refine pure_ (i := 8) (N := some 32) (v := ?_) (a' := ?_) #[true, true, true, true, true, true, true, true, true, false, false, false, false] rfl rfl (any_of HT_.out (by kernel_rfl)) (fun _ _ _ h => h) (Or.inl ⟨by rfl, ?_⟩) ?_ ?_
                      rotate_left
                      · intro w'
                        go_simp
                        with_reducible rfl
                      rotate_left
                      · simp only [Act.put, List.setIfInBounds_toArray, List.set_cons_zero, List.set_cons_succ, i64_w, i32_w]
                        rfl
                      refine pure_ (i := 9) (N := some 33) (v := ?_) (a' := ?_) #[true, true, true, true, true, true, true, true, true, true, false, false, false] rfl rfl (any_of HT_.out (by kernel_rfl)) (fun _ _ _ h => h) (Or.inl ⟨by rfl, ?_⟩) ?_ ?_
                      rotate_left
                      · intro w'
                        go_simp
                        with_reducible rfl
                      rotate_left
                      · simp only [Act.put, List.setIfInBounds_toArray, List.set_cons_zero, List.set_cons_succ, i64_w, i32_w]
                        rfl
                      refine pure_ (i := 10) (N := some 34) (v := ?_) (a' := ?_) #[true, true, true, true, true, true, true, true, true, true, true, false, false] rfl rfl (any_of HT_.out (by kernel_rfl)) (fun _ _ _ h => h) (Or.inl ⟨by rfl, ?_⟩) ?_ ?_
                      rotate_left
                      · intro w'
                        go_simp
                        with_reducible rfl
                      rotate_left
                      · simp only [Act.put, List.setIfInBounds_toArray, List.set_cons_zero, List.set_cons_succ, i64_w, i32_w]
                        rfl
                      refine pure_ (i := 11) (N := some 35) (v := ?_) (a' := ?_) #[true, true, true, true, true, true, true, true, true, true, true, true, false] rfl rfl (any_of HT_.out (by kernel_rfl)) (fun _ _ _ h => h) (Or.inl ⟨by rfl, ?_⟩) ?_ ?_
                      rotate_left
                      · intro w'
                        go_simp
                        with_reducible rfl
                      rotate_left
                      · simp only [Act.put, List.setIfInBounds_toArray, List.set_cons_zero, List.set_cons_succ, i64_w, i32_w]
                        rfl
                      refine last_ (i := 12) (N := none) #[true, true, true, true, true, true, true, true, true, true, true, true, true] rfl rfl (one_of HT_.out (by kernel_rfl)) (by decide) (fun K hK => ?_)
                      refine skip_ (w1 := ?_) (by rfl) rfl ?_ ?_
                      rotate_left
                      · go_simp
                        rfl
                      refine hK.out _ _ ?_
                      clear hK K
                      refine done_ (done_of HT_.out (by kernel_rfl)) ?_
                      try go_wp2
                      go_roundg k1
                      case measure => have := HK1.out; omega
                      case rel => exact ⟨(y237), (wrap64 (x6_1 + 1)), (by first | rfl | (simp; done) | (simp [*]; done)), H', ⟨by have := HK1.out; omega⟩, ⟨by (with_reducible repeat (first | apply Kd.R_alloc | apply Kd.R_drewN | apply Kd.R_drew)); exact HQ17.out⟩, ⟨by repeat (first | (with_reducible first | exact HB.out | apply below_alloc | apply pw_below_drewN | apply below_drew1 | refine below_set ?_ GB15.out) | exact HB.out)⟩⟩
                    · rw [if_neg c14] at H
                      exact absurd H (by simp)
                  · rw [if_neg c13] at H
                    exact absurd H (by simp)
              · rw [if_neg c10] at H
                have c10b0 : ((bt a1 x6_1) == 120) = false := beq_eq_false_iff_ne.mpr c10
                have c10b1 : ((bt a1 x6_1) != 120) = true := bne_iff_ne.mpr c10
                by_cases c18 : (bt a1 x6_1) = 111
                · rw [if_pos c18] at H
                  have c18b0 : ((bt a1 x6_1) == 111) = true := beq_iff_eq.mpr c18
                  have c18b1 : ((bt a1 x6_1) != 111) = false := bne_eq_false_iff_eq.mpr c18
                  clear c18
                  by_cases c19 : a0 = 0
                  · rw [if_pos c19] at H
                    exact absurd H (by simp)
                  · rw [if_neg c19] at H
                    have c19b0 : (a0 == 0) = false := beq_eq_false_iff_ne.mpr c19
                    have c19b1 : (a0 != 0) = true := bne_iff_ne.mpr c19
                    obtain ⟨ji20, hji20⟩ : ∃ j_ : Int, (wrap64 ((wrap64 ((Int.tmod x6_1 a0) * a0)) + (wrap64 (Int.tdiv x6_1 a0)))) = j_ := ⟨_, rfl⟩
                    replace H : (if 0 ≤ (ji20) then (if (ji20) < (x5_1.length : Int) then (pomadelaw04_flipped.l0 k1 a0 a1 (x5_1.set ((ji20) : Int).toNat 120) (wrap64 (x6_1 + 1))) else (none)) else (none)) = some r := by first | (rw [hji20] at H; exact H) | (simp only [hji20] at H ⊢; exact H)
                    have hji20w : (IntKind.i64.wrap ((wrap64 ((Int.tmod x6_1 a0) * a0)) + (wrap64 (Int.tdiv x6_1 a0)))) = ji20 := (i64_w _).trans hji20
                    by_cases c21 : 0 ≤ (ji20)
                    · rw [if_pos c21] at H
                      have c21b0 : decide (0 ≤ (ji20)) = true := decide_eq_true c21
                      clear c21
                      by_cases c22 : (ji20) < (x5_1.length : Int)
                      · rw [if_pos c22] at H
                        have c22b0 : decide ((ji20) < (x5_1.length : Int)) = true := decide_eq_true c22
                        clear c22
                        obtain ⟨y238, hy238⟩ : ∃ y_ : List Int, y_ = (x5_1.set ((ji20) : Int).toNat 120) := ⟨_, rfl⟩
                        replace H : (pomadelaw04_flipped.l0 k1 a0 a1 y238 (wrap64 (x6_1 + 1))) = some r := by first | (rw [hy238]; with_reducible exact H) | (have H2_ := (Option.bind_some _ _).symm.trans H; rw [hy238]; with_reducible exact H2_) | (have H2_ := (Option.bind_some _ _).symm.trans H; with_reducible exact H2_) | with_reducible exact H | (rw [hy238]; exact H) | exact H
                        have Ny238 := Aside0.mk hy238
                        clear hy238
                        have H' := Aside0.mk H
                        clear H
                        have p9 : 0 ≤ (x6_1 : Int) := of_decide_eq_true (by first | (with_reducible assumption) | assumption)
                        have q9 : x6_1 < (a1.size : Int) := of_decide_eq_true (by first | (with_reducible assumption) | assumption)
                        have hx9 := bt_at a1 x6_1
                        replace p9 := eq_true p9
                        replace q9 := eq_true q9
                        try go_wp2
                        have n0_ := Aside0.mk (Kd.R_drew HO_5.out)
                        have n1_ := Aside0.mk (below_drew1 HB.out)
                        clear HO_5
                        clear HB
                        have HO_5 := n0_
                        have HB := n1_
                        clear n0_ n1_
                        have p23 : 0 ≤ ((ji20) : Int) := of_decide_eq_true (by first | (with_reducible assumption) | assumption)
                        have q23 : ((ji20) : Int) < ((x5_1.length : Int) : Int) := of_decide_eq_true (by first | (with_reducible assumption) | assumption)
                        obtain ⟨go23, co23, eo23, gb23, gl23, cl23, HG23⟩ := Kd.R_form HO_5.out (by omega)
                        (first | cases eo23 | (injection eo23 with ea_ en_ ec_; (first | subst ea_ | (injection ea_ with ea_; subst ea_)); subst ec_; clear en_))
                        have GB23 := Aside0.mk gb23
                        have GG23 := Aside0.mk HG23
                        clear gb23 gl23 HG23
                        obtain ⟨hx23_0, hf23_0⟩ := Kd.R_celln 0 HO_5.out ((ji20) : Int) p23 q23
                        replace p23 := eq_true p23
                        replace q23 := eq_true q23
                        have HP25 := Kd.R_putn HO_5.out ((ji20) : Int) 120
                        rw [← Ny238.out] at HP25
                        have HQ25 := Aside0.mk HP25
                        clear HP25
                        refine start_ (n := 13) (S := fun w' => True) (ds := [12]) #[false, false, false, false, false, false, false, false, false, false, false, false, false] (by kernel_rfl) rfl rfl trivial (fun hHeld => ?_); refine with_tabW pomadelaw04_flipped.tab10 pomadelaw04_flipped.bits10 (fun HT_ HW_ => ?_)
                        generalize wr.drew = w24 at HO_5 HB GG23 HQ25 hf23_0 hx23_0 hHeld ⊢
                        refine pure_ (i := 0) (N := some 24) (v := ?_) (a' := ?_) #[true, false, false, false, false, false, false, false, false, false, false, false, false] rfl rfl (any_of HT_.out (by kernel_rfl)) (fun _ _ _ h => h) (Or.inl ⟨by rfl, ?_⟩) ?_ ?_
                        rotate_left
                        · intro w'
                          go_simp
                          with_reducible rfl
                        rotate_left
                        · simp only [Act.put, List.setIfInBounds_toArray, List.set_cons_zero, List.set_cons_succ, i64_w, i32_w]
                          rfl
                        refine pure_ (i := 1) (N := some 25) (v := ?_) (a' := ?_) #[true, true, false, false, false, false, false, false, false, false, false, false, false] rfl rfl (any_of HT_.out (by kernel_rfl)) (fun _ _ _ h => h) (Or.inl ⟨by rfl, ?_⟩) ?_ ?_
                        rotate_left
                        · intro w'
                          go_simp
                          with_reducible rfl
                        rotate_left
                        · simp only [Act.put, List.setIfInBounds_toArray, List.set_cons_zero, List.set_cons_succ, i64_w, i32_w]
                          rfl
                        refine pure_ (i := 2) (N := some 26) (v := ?_) (a' := ?_) #[true, true, true, false, false, false, false, false, false, false, false, false, false] rfl rfl (any_of HT_.out (by kernel_rfl)) (fun _ _ _ h => h) (Or.inl ⟨by rfl, ?_⟩) ?_ ?_
                        rotate_left
                        · intro w'
                          go_simp
                          with_reducible rfl
                        rotate_left
                        · simp only [Act.put, List.setIfInBounds_toArray, List.set_cons_zero, List.set_cons_succ, i64_w, i32_w]
                          rfl
                        refine pure_ (i := 3) (N := some 27) (v := ?_) (a' := ?_) #[true, true, true, true, false, false, false, false, false, false, false, false, false] rfl rfl (any_of HT_.out (by kernel_rfl)) (fun _ _ _ h => h) (Or.inl ⟨by rfl, ?_⟩) ?_ ?_
                        rotate_left
                        · intro w'
                          go_simp
                          with_reducible rfl
                        rotate_left
                        · simp only [Act.put, List.setIfInBounds_toArray, List.set_cons_zero, List.set_cons_succ, i64_w, i32_w]
                          rfl
                        refine pure_ (i := 4) (N := some 28) (v := ?_) (a' := ?_) #[true, true, true, true, true, false, false, false, false, false, false, false, false] rfl rfl (any_of HT_.out (by kernel_rfl)) (fun _ _ _ h => h) (Or.inl ⟨by rfl, ?_⟩) ?_ ?_
                        rotate_left
                        · intro w'
                          go_simp
                          with_reducible rfl
                        rotate_left
                        · simp only [Act.put, List.setIfInBounds_toArray, List.set_cons_zero, List.set_cons_succ, i64_w, i32_w]
                          rfl
                        refine pure_ (i := 5) (N := some 29) (v := ?_) (a' := ?_) #[true, true, true, true, true, true, false, false, false, false, false, false, false] rfl rfl (any_of HT_.out (by kernel_rfl)) (fun _ _ _ h => h) (Or.inl ⟨by rfl, ?_⟩) ?_ ?_
                        rotate_left
                        · intro w'
                          go_simp
                          with_reducible rfl
                        rotate_left
                        · simp only [Act.put, List.setIfInBounds_toArray, List.set_cons_zero, List.set_cons_succ, i64_w, i32_w]
                          rfl
                        refine pure_ (i := 6) (N := some 30) (v := ?_) (a' := ?_) #[true, true, true, true, true, true, true, false, false, false, false, false, false] rfl rfl (any_of HT_.out (by kernel_rfl)) (fun _ _ _ h => h) (Or.inl ⟨by rfl, ?_⟩) ?_ ?_
                        rotate_left
                        · intro w'
                          go_simp
                          with_reducible rfl
                        rotate_left
                        · simp only [Act.put, List.setIfInBounds_toArray, List.set_cons_zero, List.set_cons_succ, i64_w, i32_w]
                          rfl
                        refine pure_ (i := 7) (N := some 31) (v := ?_) (a' := ?_) #[true, true, true, true, true, true, true, true, false, false, false, false, false] rfl rfl (any_of HT_.out (by kernel_rfl)) (fun _ _ _ h => h) (Or.inl ⟨by rfl, ?_⟩) ?_ ?_
                        rotate_left
                        · intro w'
                          go_simp
                          with_reducible rfl
                        rotate_left
                        · simp only [Act.put, List.setIfInBounds_toArray, List.set_cons_zero, List.set_cons_succ, i64_w, i32_w]
                          rfl
                        refine pure_ (i := 8) (N := some 32) (v := ?_) (a' := ?_) #[true, true, true, true, true, true, true, true, true, false, false, false, false] rfl rfl (any_of HT_.out (by kernel_rfl)) (fun _ _ _ h => h) (Or.inl ⟨by rfl, ?_⟩) ?_ ?_
                        rotate_left
                        · intro w'
                          go_simp
                          with_reducible rfl
                        rotate_left
                        · simp only [Act.put, List.setIfInBounds_toArray, List.set_cons_zero, List.set_cons_succ, i64_w, i32_w]
                          rfl
                        refine pure_ (i := 9) (N := some 33) (v := ?_) (a' := ?_) #[true, true, true, true, true, true, true, true, true, true, false, false, false] rfl rfl (any_of HT_.out (by kernel_rfl)) (fun _ _ _ h => h) (Or.inl ⟨by rfl, ?_⟩) ?_ ?_
                        rotate_left
                        · intro w'
                          go_simp
                          with_reducible rfl
                        rotate_left
                        · simp only [Act.put, List.setIfInBounds_toArray, List.set_cons_zero, List.set_cons_succ, i64_w, i32_w]
                          rfl
                        refine pure_ (i := 10) (N := some 34) (v := ?_) (a' := ?_) #[true, true, true, true, true, true, true, true, true, true, true, false, false] rfl rfl (any_of HT_.out (by kernel_rfl)) (fun _ _ _ h => h) (Or.inl ⟨by rfl, ?_⟩) ?_ ?_
                        rotate_left
                        · intro w'
                          go_simp
                          with_reducible rfl
                        rotate_left
                        · simp only [Act.put, List.setIfInBounds_toArray, List.set_cons_zero, List.set_cons_succ, i64_w, i32_w]
                          rfl
                        refine pure_ (i := 11) (N := some 35) (v := ?_) (a' := ?_) #[true, true, true, true, true, true, true, true, true, true, true, true, false] rfl rfl (any_of HT_.out (by kernel_rfl)) (fun _ _ _ h => h) (Or.inl ⟨by rfl, ?_⟩) ?_ ?_
                        rotate_left
                        · intro w'
                          go_simp
                          with_reducible rfl
                        rotate_left
                        · simp only [Act.put, List.setIfInBounds_toArray, List.set_cons_zero, List.set_cons_succ, i64_w, i32_w]
                          rfl
                        refine last_ (i := 12) (N := none) #[true, true, true, true, true, true, true, true, true, true, true, true, true] rfl rfl (one_of HT_.out (by kernel_rfl)) (by decide) (fun K hK => ?_)
                        refine skip_ (w1 := ?_) (by rfl) rfl ?_ ?_
                        rotate_left
                        · go_simp
                          rfl
                        refine hK.out _ _ ?_
                        clear hK K
                        refine done_ (done_of HT_.out (by kernel_rfl)) ?_
                        try go_wp2
                        go_roundg k1
                        case measure => have := HK1.out; omega
                        case rel => exact ⟨(y238), (wrap64 (x6_1 + 1)), (by first | rfl | (simp; done) | (simp [*]; done)), H', ⟨by have := HK1.out; omega⟩, ⟨by (with_reducible repeat (first | apply Kd.R_alloc | apply Kd.R_drewN | apply Kd.R_drew)); exact HQ25.out⟩, ⟨by repeat (first | (with_reducible first | exact HB.out | apply below_alloc | apply pw_below_drewN | apply below_drew1 | refine below_set ?_ GB23.out) | exact HB.out)⟩⟩
                      · rw [if_neg c22] at H
                        exact absurd H (by simp)
                    · rw [if_neg c21] at H
                      exact absurd H (by simp)
                · rw [if_neg c18] at H
                  have c18b0 : ((bt a1 x6_1) == 111) = false := beq_eq_false_iff_ne.mpr c18
                  have c18b1 : ((bt a1 x6_1) != 111) = true := bne_iff_ne.mpr c18
                  by_cases c26 : a0 = 0
                  · rw [if_pos c26] at H
                    exact absurd H (by simp)
                  · rw [if_neg c26] at H
                    have c26b0 : (a0 == 0) = false := beq_eq_false_iff_ne.mpr c26
                    have c26b1 : (a0 != 0) = true := bne_iff_ne.mpr c26
                    obtain ⟨ji27, hji27⟩ : ∃ j_ : Int, (wrap64 ((wrap64 ((Int.tmod x6_1 a0) * a0)) + (wrap64 (Int.tdiv x6_1 a0)))) = j_ := ⟨_, rfl⟩
                    replace H : (if 0 ≤ (ji27) then (if (ji27) < (x5_1.length : Int) then (pomadelaw04_flipped.l0 k1 a0 a1 (x5_1.set ((ji27) : Int).toNat (bt a1 x6_1)) (wrap64 (x6_1 + 1))) else (none)) else (none)) = some r := by first | (rw [hji27] at H; exact H) | (simp only [hji27] at H ⊢; exact H)
                    have hji27w : (IntKind.i64.wrap ((wrap64 ((Int.tmod x6_1 a0) * a0)) + (wrap64 (Int.tdiv x6_1 a0)))) = ji27 := (i64_w _).trans hji27
                    by_cases c28 : 0 ≤ (ji27)
                    · rw [if_pos c28] at H
                      have c28b0 : decide (0 ≤ (ji27)) = true := decide_eq_true c28
                      clear c28
                      by_cases c29 : (ji27) < (x5_1.length : Int)
                      · rw [if_pos c29] at H
                        have c29b0 : decide ((ji27) < (x5_1.length : Int)) = true := decide_eq_true c29
                        clear c29
                        obtain ⟨y239, hy239⟩ : ∃ y_ : List Int, y_ = (x5_1.set ((ji27) : Int).toNat (bt a1 x6_1)) := ⟨_, rfl⟩
                        replace H : (pomadelaw04_flipped.l0 k1 a0 a1 y239 (wrap64 (x6_1 + 1))) = some r := by first | (rw [hy239]; with_reducible exact H) | (have H2_ := (Option.bind_some _ _).symm.trans H; rw [hy239]; with_reducible exact H2_) | (have H2_ := (Option.bind_some _ _).symm.trans H; with_reducible exact H2_) | with_reducible exact H | (rw [hy239]; exact H) | exact H
                        have Ny239 := Aside0.mk hy239
                        clear hy239
                        have H' := Aside0.mk H
                        clear H
                        have p9 : 0 ≤ (x6_1 : Int) := of_decide_eq_true (by first | (with_reducible assumption) | assumption)
                        have q9 : x6_1 < (a1.size : Int) := of_decide_eq_true (by first | (with_reducible assumption) | assumption)
                        have hx9 := bt_at a1 x6_1
                        replace p9 := eq_true p9
                        replace q9 := eq_true q9
                        try go_wp2
                        have n0_ := Aside0.mk (Kd.R_drew HO_5.out)
                        have n1_ := Aside0.mk (below_drew1 HB.out)
                        clear HO_5
                        clear HB
                        have HO_5 := n0_
                        have HB := n1_
                        clear n0_ n1_
                        have p30 : 0 ≤ ((ji27) : Int) := of_decide_eq_true (by first | (with_reducible assumption) | assumption)
                        have q30 : ((ji27) : Int) < ((x5_1.length : Int) : Int) := of_decide_eq_true (by first | (with_reducible assumption) | assumption)
                        obtain ⟨go30, co30, eo30, gb30, gl30, cl30, HG30⟩ := Kd.R_form HO_5.out (by omega)
                        (first | cases eo30 | (injection eo30 with ea_ en_ ec_; (first | subst ea_ | (injection ea_ with ea_; subst ea_)); subst ec_; clear en_))
                        have GB30 := Aside0.mk gb30
                        have GG30 := Aside0.mk HG30
                        clear gb30 gl30 HG30
                        obtain ⟨hx30_0, hf30_0⟩ := Kd.R_celln 0 HO_5.out ((ji27) : Int) p30 q30
                        replace p30 := eq_true p30
                        replace q30 := eq_true q30
                        have HP32 := Kd.R_putn HO_5.out ((ji27) : Int) (bt a1 x6_1)
                        rw [← Ny239.out] at HP32
                        have HQ32 := Aside0.mk HP32
                        clear HP32
                        refine start_ (n := 13) (S := fun w' => True) (ds := [12]) #[false, false, false, false, false, false, false, false, false, false, false, false, false] (by kernel_rfl) rfl rfl trivial (fun hHeld => ?_); refine with_tabW pomadelaw04_flipped.tab10 pomadelaw04_flipped.bits10 (fun HT_ HW_ => ?_)
                        generalize wr.drew = w31 at HO_5 HB GG30 HQ32 hf30_0 hx30_0 hHeld ⊢
                        refine pure_ (i := 0) (N := some 24) (v := ?_) (a' := ?_) #[true, false, false, false, false, false, false, false, false, false, false, false, false] rfl rfl (any_of HT_.out (by kernel_rfl)) (fun _ _ _ h => h) (Or.inl ⟨by rfl, ?_⟩) ?_ ?_
                        rotate_left
                        · intro w'
                          go_simp
                          with_reducible rfl
                        rotate_left
                        · simp only [Act.put, List.setIfInBounds_toArray, List.set_cons_zero, List.set_cons_succ, i64_w, i32_w]
                          rfl
                        refine pure_ (i := 1) (N := some 25) (v := ?_) (a' := ?_) #[true, true, false, false, false, false, false, false, false, false, false, false, false] rfl rfl (any_of HT_.out (by kernel_rfl)) (fun _ _ _ h => h) (Or.inl ⟨by rfl, ?_⟩) ?_ ?_
                        rotate_left
                        · intro w'
                          go_simp
                          with_reducible rfl
                        rotate_left
                        · simp only [Act.put, List.setIfInBounds_toArray, List.set_cons_zero, List.set_cons_succ, i64_w, i32_w]
                          rfl
                        refine pure_ (i := 2) (N := some 26) (v := ?_) (a' := ?_) #[true, true, true, false, false, false, false, false, false, false, false, false, false] rfl rfl (any_of HT_.out (by kernel_rfl)) (fun _ _ _ h => h) (Or.inl ⟨by rfl, ?_⟩) ?_ ?_
                        rotate_left
                        · intro w'
                          go_simp
                          with_reducible rfl
                        rotate_left
                        · simp only [Act.put, List.setIfInBounds_toArray, List.set_cons_zero, List.set_cons_succ, i64_w, i32_w]
                          rfl
                        refine pure_ (i := 3) (N := some 27) (v := ?_) (a' := ?_) #[true, true, true, true, false, false, false, false, false, false, false, false, false] rfl rfl (any_of HT_.out (by kernel_rfl)) (fun _ _ _ h => h) (Or.inl ⟨by rfl, ?_⟩) ?_ ?_
                        rotate_left
                        · intro w'
                          go_simp
                          with_reducible rfl
                        rotate_left
                        · simp only [Act.put, List.setIfInBounds_toArray, List.set_cons_zero, List.set_cons_succ, i64_w, i32_w]
                          rfl
                        refine pure_ (i := 4) (N := some 28) (v := ?_) (a' := ?_) #[true, true, true, true, true, false, false, false, false, false, false, false, false] rfl rfl (any_of HT_.out (by kernel_rfl)) (fun _ _ _ h => h) (Or.inl ⟨by rfl, ?_⟩) ?_ ?_
                        rotate_left
                        · intro w'
                          go_simp
                          with_reducible rfl
                        rotate_left
                        · simp only [Act.put, List.setIfInBounds_toArray, List.set_cons_zero, List.set_cons_succ, i64_w, i32_w]
                          rfl
                        refine pure_ (i := 5) (N := some 29) (v := ?_) (a' := ?_) #[true, true, true, true, true, true, false, false, false, false, false, false, false] rfl rfl (any_of HT_.out (by kernel_rfl)) (fun _ _ _ h => h) (Or.inl ⟨by rfl, ?_⟩) ?_ ?_
                        rotate_left
                        · intro w'
                          go_simp
                          with_reducible rfl
                        rotate_left
                        · simp only [Act.put, List.setIfInBounds_toArray, List.set_cons_zero, List.set_cons_succ, i64_w, i32_w]
                          rfl
                        refine pure_ (i := 6) (N := some 30) (v := ?_) (a' := ?_) #[true, true, true, true, true, true, true, false, false, false, false, false, false] rfl rfl (any_of HT_.out (by kernel_rfl)) (fun _ _ _ h => h) (Or.inl ⟨by rfl, ?_⟩) ?_ ?_
                        rotate_left
                        · intro w'
                          go_simp
                          with_reducible rfl
                        rotate_left
                        · simp only [Act.put, List.setIfInBounds_toArray, List.set_cons_zero, List.set_cons_succ, i64_w, i32_w]
                          rfl
                        refine pure_ (i := 7) (N := some 31) (v := ?_) (a' := ?_) #[true, true, true, true, true, true, true, true, false, false, false, false, false] rfl rfl (any_of HT_.out (by kernel_rfl)) (fun _ _ _ h => h) (Or.inl ⟨by rfl, ?_⟩) ?_ ?_
                        rotate_left
                        · intro w'
                          go_simp
                          with_reducible rfl
                        rotate_left
                        · simp only [Act.put, List.setIfInBounds_toArray, List.set_cons_zero, List.set_cons_succ, i64_w, i32_w]
                          rfl
                        refine pure_ (i := 8) (N := some 32) (v := ?_) (a' := ?_) #[true, true, true, true, true, true, true, true, true, false, false, false, false] rfl rfl (any_of HT_.out (by kernel_rfl)) (fun _ _ _ h => h) (Or.inl ⟨by rfl, ?_⟩) ?_ ?_
                        rotate_left
                        · intro w'
                          go_simp
                          with_reducible rfl
                        rotate_left
                        · simp only [Act.put, List.setIfInBounds_toArray, List.set_cons_zero, List.set_cons_succ, i64_w, i32_w]
                          rfl
                        refine pure_ (i := 9) (N := some 33) (v := ?_) (a' := ?_) #[true, true, true, true, true, true, true, true, true, true, false, false, false] rfl rfl (any_of HT_.out (by kernel_rfl)) (fun _ _ _ h => h) (Or.inl ⟨by rfl, ?_⟩) ?_ ?_
                        rotate_left
                        · intro w'
                          go_simp
                          with_reducible rfl
                        rotate_left
                        · simp only [Act.put, List.setIfInBounds_toArray, List.set_cons_zero, List.set_cons_succ, i64_w, i32_w]
                          rfl
                        refine pure_ (i := 10) (N := some 34) (v := ?_) (a' := ?_) #[true, true, true, true, true, true, true, true, true, true, true, false, false] rfl rfl (any_of HT_.out (by kernel_rfl)) (fun _ _ _ h => h) (Or.inl ⟨by rfl, ?_⟩) ?_ ?_
                        rotate_left
                        · intro w'
                          go_simp
                          with_reducible rfl
                        rotate_left
                        · simp only [Act.put, List.setIfInBounds_toArray, List.set_cons_zero, List.set_cons_succ, i64_w, i32_w]
                          rfl
                        refine pure_ (i := 11) (N := some 35) (v := ?_) (a' := ?_) #[true, true, true, true, true, true, true, true, true, true, true, true, false] rfl rfl (any_of HT_.out (by kernel_rfl)) (fun _ _ _ h => h) (Or.inl ⟨by rfl, ?_⟩) ?_ ?_
                        rotate_left
                        · intro w'
                          go_simp
                          with_reducible rfl
                        rotate_left
                        · simp only [Act.put, List.setIfInBounds_toArray, List.set_cons_zero, List.set_cons_succ, i64_w, i32_w]
                          rfl
                        refine last_ (i := 12) (N := none) #[true, true, true, true, true, true, true, true, true, true, true, true, true] rfl rfl (one_of HT_.out (by kernel_rfl)) (by decide) (fun K hK => ?_)
                        refine skip_ (w1 := ?_) (by rfl) rfl ?_ ?_
                        rotate_left
                        · go_simp
                          rfl
                        refine hK.out _ _ ?_
                        clear hK K
                        refine done_ (done_of HT_.out (by kernel_rfl)) ?_
                        try go_wp2
                        go_roundg k1
                        case measure => have := HK1.out; omega
                        case rel => exact ⟨(y239), (wrap64 (x6_1 + 1)), (by first | rfl | (simp; done) | (simp [*]; done)), H', ⟨by have := HK1.out; omega⟩, ⟨by (with_reducible repeat (first | apply Kd.R_alloc | apply Kd.R_drewN | apply Kd.R_drew)); exact HQ32.out⟩, ⟨by repeat (first | (with_reducible first | exact HB.out | apply below_alloc | apply pw_below_drewN | apply below_drew1 | refine below_set ?_ GB30.out) | exact HB.out)⟩⟩
                      · rw [if_neg c29] at H
                        exact absurd H (by simp)
                    · rw [if_neg c28] at H
                      exact absurd H (by simp)
            · rw [if_neg c8] at H
              exact absurd H (by simp)
          · rw [if_neg c7] at H
            have c7b0 : decide (x6_1 < (a1.size : Int)) = false := decide_eq_false c7
            clear c7
            obtain rfl := Option.some.inj H
            have hcv33 := own_string (P := Tryd.prog) Tryd.underlying60 Tryd.underlying5 Tryd.underlying9 (Kd.own_of_R HO_5.out)
            go_wp2
            go_ret
            exact ⟨by first | rfl | (simp [errW_none, errW_some] <;> rfl) | (simp [*, errW_none, errW_some] <;> rfl), by repeat (first | (with_reducible first | exact HB.out | apply below_alloc | apply pw_below_drewN | apply below_drew1) | exact HB.out)⟩
    · rw [if_neg c4] at H
      exact absurd H (by simp)
  · rw [if_neg c3] at H
    exact absurd H (by simp)
end Go.Proofs.YtlmgkmmdaecpdaaDoor.Im

namespace Go.Proofs.YtlmgkmmdaecpdaaDoor.Im
open Go.RowKit Go.Proofs.YtlmgkmmdaecpdaaDoorW.PrintWords Go.Proofs.YtlmgkmmdaecpdaaDoorW.PrintLast Go.Proofs.YtlmgkmmdaecpdaaDoorW.PrintMore Go.Proofs.YtlmgkmmdaecpdaaDoor.Mi
set_option linter.unusedVariables false
def swI (c : Int) : Int := if c = 120 then 111 else if c = 111 then 120 else c
theorem swI_swI (c : Int) : swI (swI c) = c := by
  unfold swI
  by_cases h : c = 120
  · subst h; rfl
  · by_cases k : c = 111
    · subst k; rfl
    · rw [if_neg h, if_neg k, if_neg h, if_neg k]
def Flip (n : Nat) (bs bt : List Int) : Prop := ∀ a, a < n * n → bt.getD (flp n a) 0 = swI (bs.getD a 0)
theorem Flip.symm {n : Nat} {bs bt : List Int} (hn : 0 < n) (h : Flip n bs bt) : Flip n bt bs := fun a ha => by
  have := h (flp n a) (flp_lt hn ha)
  rw [flp_flp hn ha] at this
  rw [this, swI_swI]
end Go.Proofs.YtlmgkmmdaecpdaaDoor.Im

namespace Go.Proofs.YtlmgkmmdaecpdaaDoor.Im
open Go.RowKit Go.Proofs.YtlmgkmmdaecpdaaDoorW.PrintWords Go.Proofs.YtlmgkmmdaecpdaaDoorW.PrintLast Go.Proofs.YtlmgkmmdaecpdaaDoorW.PrintMore Go.Proofs.YtlmgkmmdaecpdaaDoor.Mi
set_option linter.unusedVariables false
structure Env (w : World) (mL : Int) : Prop where
  st : Steps w
  mx : w.cell? ⟨1, 0, none⟩ = some (.int .i64 mL)
theorem Env.later {w w' : World} {mL : Int} (h : Env w mL) {B : Nat} (hb : Below B w w') (hB : B = w.heap.size) : Env w' mL := by
  subst hB
  exact ⟨h.st.later hb, (hb.cell (World.block_lt_of_cell? w _ h.mx)).trans h.mx⟩
theorem alive_env {w : World} {mL : Int} (h : Env w mL) : Calls Tryd.prog 17 #[] w fun e w' => e = .returned (.bool true) ∧ Below w.heap.size w w' := alive_any w h.st mL h.mx
theorem winner_env {w : World} {mL : Int} (h : Env w mL) (n : Int) (s : ByteArray) (hs : s.size ≤ 9223372036854775807) (hE : boE n s xoB = 0) (p : Int) (hp : winB n.toNat (bsOf s) = p) :
    Calls Tryd.prog 24 #[.int .i64 n, .string s] w fun x w' => ∃ G A c, x = .returned (.tuple #[.string (strP p), .slice (some A) G.length c, .int .i64 0]) ∧ brO n.toNat (bsOf s) p = some G ∧ Kd.R (Kd.int .i64) 3 w' w.heap.size (fun _ => True) (.slice (some A) G.length c) (ints G) ∧ Below w.heap.size w w' := by
  refine (winner_call n s w h.st hs).mono ?_
  rintro x w' ⟨h1, h2⟩
  rw [if_pos hE, hp] at h2
  obtain ⟨G, A, c, h3, h4, h5⟩ := h2
  exact ⟨G, A, c, h4, h3, h5, h1⟩
theorem winner_bad {w : World} {mL : Int} (h : Env w mL) (n : Int) (s : ByteArray) (hs : s.size ≤ 9223372036854775807) (E : Int) (hE : boE n s xoB = E) (h0 : E ≠ 0) :
    Calls Tryd.prog 24 #[.int .i64 n, .string s] w fun x w' => x = .returned (.tuple #[.string ⟨#[]⟩, .slice none 0 0, .int .i64 E]) ∧ Below w.heap.size w w' := by
  refine (winner_call n s w h.st hs).mono ?_
  rintro x w' ⟨h1, h2⟩
  rw [hE, if_neg h0] at h2
  exact ⟨h2, h1⟩
end Go.Proofs.YtlmgkmmdaecpdaaDoor.Im

namespace Go.Proofs.YtlmgkmmdaecpdaaDoor.Im
open Go.RowKit Go.Proofs.YtlmgkmmdaecpdaaDoorW.PrintWords Go.Proofs.YtlmgkmmdaecpdaaDoorW.PrintLast Go.Proofs.YtlmgkmmdaecpdaaDoorW.PrintMore
attribute [local go_sem] max2_int min2_int max_two min_two max_three min_three max_four min_four
set_option linter.unusedVariables false
set_option linter.unusedSimpArgs false
def slices_Index_int_int.l0 : Nat → List Int → Int → Int → Int → Option (Int)
  | 0, _, _, _, _ => none
  | k + 1, x0, x1, x7, x8 => if x8 < x7 then (if 0 ≤ x8 then (if x8 < (x0.length : Int) then (if x1 = (rd x0 x8) then (some x8) else (slices_Index_int_int.l0 k x0 x1 x7 (wrap64 (x8 + 1)))) else (none)) else (none)) else (some (-1))
def slices_Index_int_int.f (k : Nat) (l0 : List Int) (a1 : Int) : Option (Int) := slices_Index_int_int.l0 k l0 a1 (l0.length : Int) 0
theorem slices_Index_int_int.mono_l : ∀ k, (∀ y0 y1 y2 y3, LeO (slices_Index_int_int.l0 k y0 y1 y2 y3) (slices_Index_int_int.l0 (k + 1) y0 y1 y2 y3))
  | 0 => fun _ _ _ _ r h => by simp [slices_Index_int_int.l0] at h
  | k + 1 => by
    have ih0 := slices_Index_int_int.mono_l k
    · intro y0 y1 y2 y3
      unfold slices_Index_int_int.l0
      repeat' first
      | (with_reducible exact ih0 _ _ _ _)
      | (with_reducible exact LeO.refl _)
      | (with_reducible exact LeO.none _)
      | (with_reducible refine LeO.ite ?_ ?_)
      | (with_reducible refine LeO.bind ?_ (fun _ => ?_))
      | exact ih0 _ _ _ _
      | exact LeO.none _
      | refine LeO.ite ?_ ?_
      | refine LeO.bind ?_ (fun _ => ?_)
theorem slices_Index_int_int.mono : ∀ a0 a1 k, LeO (slices_Index_int_int.f k a0 a1) (slices_Index_int_int.f (k + 1) a0 a1) := by
  intro a0 a1 k
  have ih0 := slices_Index_int_int.mono_l k
  unfold slices_Index_int_int.f
  repeat' first
      | (with_reducible exact ih0 _ _ _ _)
      | (with_reducible exact LeO.refl _)
      | (with_reducible exact LeO.none _)
      | (with_reducible refine LeO.ite ?_ ?_)
      | (with_reducible refine LeO.bind ?_ (fun _ => ?_))
      | exact ih0 _ _ _ _
      | exact LeO.none _
      | refine LeO.ite ?_ ?_
      | refine LeO.bind ?_ (fun _ => ?_)
set_option maxHeartbeats 8000000 in
set_option maxRecDepth 100000 in
theorem slices_Index_int_int.calls (k : Nat) (A0 : Option Addr) (c0 : Nat) (l0 : List Int) (a1 : Int) (r : Int) (w : World) (hr0 : Kd.C (Kd.int .i64) w A0 l0.length l0) (hc0 : l0.length ≤ c0) (h : slices_Index_int_int.f k l0 a1 = some r) :
    Calls Tryd.prog 84 #[.slice A0 l0.length c0, .int .i64 a1] w fun e w' => e = .returned (.int .i64 r) ∧ Drawn0 w w' := by
  have HR0 := Aside0.mk hr0
  have HC0 := Aside0.mk hc0
  clear hr0 hc0
  have H : (slices_Index_int_int.l0 k l0 a1 (l0.length : Int) 0) = some r := h
  clear h
  have H' := Aside0.mk H
  clear H
  go_enter Tryd.func84, Tryd.ntmps84
  go_wp2
  go_loopg [8] k (fun kq v8 w' => ∃ (x8_1 : Int), v8 = .int .i64 x8_1 ∧ Aside0 (slices_Index_int_int.l0 kq l0 a1 (l0.length : Int) x8_1 = some r) ∧ Aside0 (kq ≤ k) ∧ Drawn0 w w')
  case atStart => exact ⟨(0), (by first | rfl | (simp; done) | (simp [*]; done)), H', ⟨Nat.le_refl _⟩, by repeat (first | exact Drawn0.refl _ | apply Drawn0.step)⟩
  case round =>
    clear H'
    try clear p2
    obtain ⟨x8_1, rfl, HA, HK1, ⟨m1, rfl⟩⟩ := hrel
    cases gk with
    | zero => exact absurd HA.out (by simp [slices_Index_int_int.l0])
    | succ k1 =>
      have H := HA.out
      clear HA
      simp only [slices_Index_int_int.l0] at H
      by_cases c3 : x8_1 < (l0.length : Int)
      · rw [if_pos c3] at H
        have c3b0 : decide (x8_1 < (l0.length : Int)) = true := decide_eq_true c3
        clear c3
        by_cases c4 : 0 ≤ x8_1
        · rw [if_pos c4] at H
          have c4b0 : decide (0 ≤ x8_1) = true := decide_eq_true c4
          clear c4
          by_cases c5 : x8_1 < (l0.length : Int)
          · rw [if_pos c5] at H
            have c5b0 : decide (x8_1 < (l0.length : Int)) = true := decide_eq_true c5
            clear c5
            by_cases c6 : a1 = (rd l0 x8_1)
            · rw [if_pos c6] at H
              have c6b0 : (a1 == (rd l0 x8_1)) = true := beq_iff_eq.mpr c6
              have c6b1 : (a1 != (rd l0 x8_1)) = false := bne_eq_false_iff_eq.mpr c6
              clear c6
              obtain rfl := Option.some.inj H
              have p234 : 0 ≤ (x8_1 : Int) := of_decide_eq_true (by first | (with_reducible assumption) | assumption)
              have q234 : x8_1 < (l0.length : Int) := of_decide_eq_true (by first | (with_reducible assumption) | assumption)
              obtain ⟨ad234, e234, hx234_0⟩ := Kd.at_int HR0.out x8_1 p234 q234
              cases e234
              replace p234 := eq_true p234
              replace q234 := eq_true q234
              go_wp2
              go_ret
              exact ⟨by first | rfl | (simp; done) | (simp [*]; done), by repeat (first | exact Drawn0.refl _ | apply Drawn0.step)⟩
            · rw [if_neg c6] at H
              have c6b0 : (a1 == (rd l0 x8_1)) = false := beq_eq_false_iff_ne.mpr c6
              have c6b1 : (a1 != (rd l0 x8_1)) = true := bne_iff_ne.mpr c6
              have H' := Aside0.mk H
              clear H
              have p234 : 0 ≤ (x8_1 : Int) := of_decide_eq_true (by first | (with_reducible assumption) | assumption)
              have q234 : x8_1 < (l0.length : Int) := of_decide_eq_true (by first | (with_reducible assumption) | assumption)
              obtain ⟨ad234, e234, hx234_0⟩ := Kd.at_int HR0.out x8_1 p234 q234
              cases e234
              replace p234 := eq_true p234
              replace q234 := eq_true q234
              go_wp2
              go_roundg k1
              case measure => have := HK1.out; omega
              case rel => exact ⟨(wrap64 (x8_1 + 1)), (by first | rfl | (simp; done) | (simp [*]; done)), H', ⟨by have := HK1.out; omega⟩, by repeat (first | exact Drawn0.refl _ | apply Drawn0.step)⟩
          · rw [if_neg c5] at H
            exact absurd H (by simp)
        · rw [if_neg c4] at H
          exact absurd H (by simp)
      · rw [if_neg c3] at H
        have c3b0 : decide (x8_1 < (l0.length : Int)) = false := decide_eq_false c3
        clear c3
        obtain rfl := Option.some.inj H
        go_wp2
        go_ret
        exact ⟨by first | rfl | (simp; done) | (simp [*]; done), by repeat (first | exact Drawn0.refl _ | apply Drawn0.step)⟩
def slices_Contains_int_int.f (k : Nat) (l0 : List Int) (a1 : Int) : Option (Bool) := (slices_Index_int_int.f k l0 a1).bind fun t235 => (some (decide (t235 ≥ 0)))
theorem slices_Contains_int_int.mono : ∀ a0 a1 k, LeO (slices_Contains_int_int.f k a0 a1) (slices_Contains_int_int.f (k + 1) a0 a1) := by
  intro a0 a1 k
  unfold slices_Contains_int_int.f
  repeat' first
      | (with_reducible exact slices_Index_int_int.mono _ _ _)
      | (with_reducible exact LeO.refl _)
      | (with_reducible exact LeO.none _)
      | (with_reducible refine LeO.ite ?_ ?_)
      | (with_reducible refine LeO.bind ?_ (fun _ => ?_))
      | exact slices_Index_int_int.mono _ _ _
      | exact LeO.none _
      | refine LeO.ite ?_ ?_
      | refine LeO.bind ?_ (fun _ => ?_)
set_option maxHeartbeats 8000000 in
set_option maxRecDepth 100000 in
theorem slices_Contains_int_int.calls (k : Nat) (A0 : Option Addr) (c0 : Nat) (l0 : List Int) (a1 : Int) (r : Bool) (w : World) (hr0 : Kd.C (Kd.int .i64) w A0 l0.length l0) (hc0 : l0.length ≤ c0) (h : slices_Contains_int_int.f k l0 a1 = some r) :
    Calls Tryd.prog 66 #[.slice A0 l0.length c0, .int .i64 a1] w fun e w' => e = .returned (.bool r) ∧ Drawn0 w w' := by
  have HR0 := Aside0.mk hr0
  have HC0 := Aside0.mk hc0
  clear hr0 hc0
  have H : ((slices_Index_int_int.f k l0 a1).bind fun t235 => (some (decide (t235 ≥ 0)))) = some r := h
  clear h
  replace H := Option.bind_eq_some_iff.mp H
  obtain ⟨t235, A30, H⟩ := H
  replace H : (some (decide (t235 ≥ 0))) = some r := H
  have A3 := Aside0.mk A30
  clear A30
  obtain rfl := Option.some.inj H
  go_enter Tryd.func66, Tryd.ntmps66
  go_wp2_with (first | ((with_reducible refine gate_callee (f := 84) rfl ?_); refine goesL_ (some 7) rfl rfl Tryd.func84 (by kernel_rfl) rfl #[.slice A0 l0.length c0, .int .i64 a1] rfl (by (try simp only [List.map_toArray, List.map_cons, List.map_nil]); first | done | rfl | (simp only [List.length_drop, List.length_take]; rfl)) ?_; (with_reducible refine (slices_Index_int_int.calls k _ _ l0 a1 t235 _ ?side1 ?side2 A3.out).mono ?_); (case side1 => repeat (first | exact HR0.out | (with_reducible refine Kd.C_alloc ?_ _) | (with_reducible refine Kd.C_drewN ?_ _) | (with_reducible refine Kd.C_drew ?_))); (case side2 => exact HC0.out); rintro e w' ⟨rfl, ⟨nd, rfl⟩⟩; refine ⟨_, rfl, ?_⟩))
  go_ret
  exact ⟨by first | rfl | (simp; done) | (simp [*]; done), by repeat (first | exact Drawn0.refl _ | apply Drawn0.step)⟩
def cmp_isNaN_int.f (a0 : Int) : Option (Bool) := some (a0 != a0)
set_option maxHeartbeats 8000000 in
set_option maxRecDepth 100000 in
theorem cmp_isNaN_int.calls (a0 : Int) (r : Bool) (w : World) (h : cmp_isNaN_int.f a0 = some r) :
    Calls Tryd.prog 121 #[.int .i64 a0] w fun e w' => e = .returned (.bool r) ∧ Drawn0 w w' := by
  have H : (some (a0 != a0)) = some r := h
  clear h
  obtain rfl := Option.some.inj H
  go_enter Tryd.func121, Tryd.ntmps121
  go_wp2
  go_ret
  exact ⟨by first | rfl | (simp; done) | (simp [*]; done), by repeat (first | exact Drawn0.refl _ | apply Drawn0.step)⟩
def cmp_Compare_int.f (a0 : Int) (a1 : Int) : Option (Int) := (cmp_isNaN_int.f a0).bind fun t235 => ((cmp_isNaN_int.f a1).bind fun t236 => (if t235 = true then (if t236 = true then (some 0) else (some (-1))) else (if t236 = true then (some 1) else (if a0 < a1 then (some (-1)) else (if a0 > a1 then (some 1) else (some 0))))))
set_option maxHeartbeats 8000000 in
set_option maxRecDepth 100000 in
theorem cmp_Compare_int.calls (a0 : Int) (a1 : Int) (r : Int) (w : World) (h : cmp_Compare_int.f a0 a1 = some r) :
    Calls Tryd.prog 99 #[.int .i64 a0, .int .i64 a1] w fun e w' => e = .returned (.int .i64 r) ∧ Drawn0 w w' := by
  have H : ((cmp_isNaN_int.f a0).bind fun t235 => ((cmp_isNaN_int.f a1).bind fun t236 => (if t235 = true then (if t236 = true then (some 0) else (some (-1))) else (if t236 = true then (some 1) else (if a0 < a1 then (some (-1)) else (if a0 > a1 then (some 1) else (some 0))))))) = some r := h
  clear h
  replace H := Option.bind_eq_some_iff.mp H
  obtain ⟨t235, A30, H⟩ := H
  replace H : ((cmp_isNaN_int.f a1).bind fun t236 => (if t235 = true then (if t236 = true then (some 0) else (some (-1))) else (if t236 = true then (some 1) else (if a0 < a1 then (some (-1)) else (if a0 > a1 then (some 1) else (some 0)))))) = some r := H
  have A3 := Aside0.mk A30
  clear A30
  replace H := Option.bind_eq_some_iff.mp H
  obtain ⟨t236, A40, H⟩ := H
  replace H : (if t235 = true then (if t236 = true then (some 0) else (some (-1))) else (if t236 = true then (some 1) else (if a0 < a1 then (some (-1)) else (if a0 > a1 then (some 1) else (some 0))))) = some r := H
  have A4 := Aside0.mk A40
  clear A40
  by_cases c5 : t235 = true
  · subst c5
    have H1 : (if t236 = true then (some 0) else (some (-1))) = some r := by rw [if_pos rfl] at H; exact H
    clear H
    have H := H1
    clear H1
    by_cases c6 : t236 = true
    · subst c6
      have H1 : (some 0) = some r := by rw [if_pos rfl] at H; exact H
      clear H
      have H := H1
      clear H1
      obtain rfl := Option.some.inj H
      go_enter Tryd.func99, Tryd.ntmps99
      go_wp2_with (first | ((with_reducible refine gate_callee (f := 121) rfl ?_); refine goesL_ (some 8) rfl rfl Tryd.func121 (by kernel_rfl) rfl #[.int .i64 a0] rfl (by (try simp only [List.map_toArray, List.map_cons, List.map_nil]); first | done | rfl | (simp only [List.length_drop, List.length_take]; rfl)) ?_; (with_reducible refine (cmp_isNaN_int.calls a0 true _ A3.out).mono ?_); rintro e w' ⟨rfl, ⟨nd, rfl⟩⟩; refine ⟨_, rfl, ?_⟩) | ((with_reducible refine gate_callee (f := 121) rfl ?_); refine goesL_ (some 10) rfl rfl Tryd.func121 (by kernel_rfl) rfl #[.int .i64 a1] rfl (by (try simp only [List.map_toArray, List.map_cons, List.map_nil]); first | done | rfl | (simp only [List.length_drop, List.length_take]; rfl)) ?_; (with_reducible refine (cmp_isNaN_int.calls a1 true _ A4.out).mono ?_); rintro e w' ⟨rfl, ⟨nd, rfl⟩⟩; refine ⟨_, rfl, ?_⟩))
      go_ret
      exact ⟨by first | rfl | (simp; done) | (simp [*]; done), by repeat (first | exact Drawn0.refl _ | apply Drawn0.step)⟩
    · replace c6 := Bool.eq_false_iff.mpr c6
      subst c6
      have H1 : (some (-1)) = some r := by rw [if_neg (show ¬ (false = true) by decide)] at H; exact H
      clear H
      have H := H1
      clear H1
      obtain rfl := Option.some.inj H
      go_enter Tryd.func99, Tryd.ntmps99
      go_wp2_with (first | ((with_reducible refine gate_callee (f := 121) rfl ?_); refine goesL_ (some 8) rfl rfl Tryd.func121 (by kernel_rfl) rfl #[.int .i64 a0] rfl (by (try simp only [List.map_toArray, List.map_cons, List.map_nil]); first | done | rfl | (simp only [List.length_drop, List.length_take]; rfl)) ?_; (with_reducible refine (cmp_isNaN_int.calls a0 true _ A3.out).mono ?_); rintro e w' ⟨rfl, ⟨nd, rfl⟩⟩; refine ⟨_, rfl, ?_⟩) | ((with_reducible refine gate_callee (f := 121) rfl ?_); refine goesL_ (some 10) rfl rfl Tryd.func121 (by kernel_rfl) rfl #[.int .i64 a1] rfl (by (try simp only [List.map_toArray, List.map_cons, List.map_nil]); first | done | rfl | (simp only [List.length_drop, List.length_take]; rfl)) ?_; (with_reducible refine (cmp_isNaN_int.calls a1 false _ A4.out).mono ?_); rintro e w' ⟨rfl, ⟨nd, rfl⟩⟩; refine ⟨_, rfl, ?_⟩))
      go_ret
      exact ⟨by first | rfl | (simp; done) | (simp [*]; done), by repeat (first | exact Drawn0.refl _ | apply Drawn0.step)⟩
  · replace c5 := Bool.eq_false_iff.mpr c5
    subst c5
    have H1 : (if t236 = true then (some 1) else (if a0 < a1 then (some (-1)) else (if a0 > a1 then (some 1) else (some 0)))) = some r := by rw [if_neg (show ¬ (false = true) by decide)] at H; exact H
    clear H
    have H := H1
    clear H1
    by_cases c7 : t236 = true
    · subst c7
      have H1 : (some 1) = some r := by rw [if_pos rfl] at H; exact H
      clear H
      have H := H1
      clear H1
      obtain rfl := Option.some.inj H
      go_enter Tryd.func99, Tryd.ntmps99
      go_wp2_with (first | ((with_reducible refine gate_callee (f := 121) rfl ?_); refine goesL_ (some 8) rfl rfl Tryd.func121 (by kernel_rfl) rfl #[.int .i64 a0] rfl (by (try simp only [List.map_toArray, List.map_cons, List.map_nil]); first | done | rfl | (simp only [List.length_drop, List.length_take]; rfl)) ?_; (with_reducible refine (cmp_isNaN_int.calls a0 false _ A3.out).mono ?_); rintro e w' ⟨rfl, ⟨nd, rfl⟩⟩; refine ⟨_, rfl, ?_⟩) | ((with_reducible refine gate_callee (f := 121) rfl ?_); refine goesL_ (some 10) rfl rfl Tryd.func121 (by kernel_rfl) rfl #[.int .i64 a1] rfl (by (try simp only [List.map_toArray, List.map_cons, List.map_nil]); first | done | rfl | (simp only [List.length_drop, List.length_take]; rfl)) ?_; (with_reducible refine (cmp_isNaN_int.calls a1 true _ A4.out).mono ?_); rintro e w' ⟨rfl, ⟨nd, rfl⟩⟩; refine ⟨_, rfl, ?_⟩))
      go_ret
      exact ⟨by first | rfl | (simp; done) | (simp [*]; done), by repeat (first | exact Drawn0.refl _ | apply Drawn0.step)⟩
    · replace c7 := Bool.eq_false_iff.mpr c7
      subst c7
      have H1 : (if a0 < a1 then (some (-1)) else (if a0 > a1 then (some 1) else (some 0))) = some r := by rw [if_neg (show ¬ (false = true) by decide)] at H; exact H
      clear H
      have H := H1
      clear H1
      by_cases c8 : a0 < a1
      · rw [if_pos c8] at H
        have c8b0 : decide (a0 < a1) = true := decide_eq_true c8
        clear c8
        obtain rfl := Option.some.inj H
        go_enter Tryd.func99, Tryd.ntmps99
        go_wp2_with (first | ((with_reducible refine gate_callee (f := 121) rfl ?_); refine goesL_ (some 8) rfl rfl Tryd.func121 (by kernel_rfl) rfl #[.int .i64 a0] rfl (by (try simp only [List.map_toArray, List.map_cons, List.map_nil]); first | done | rfl | (simp only [List.length_drop, List.length_take]; rfl)) ?_; (with_reducible refine (cmp_isNaN_int.calls a0 false _ A3.out).mono ?_); rintro e w' ⟨rfl, ⟨nd, rfl⟩⟩; refine ⟨_, rfl, ?_⟩) | ((with_reducible refine gate_callee (f := 121) rfl ?_); refine goesL_ (some 10) rfl rfl Tryd.func121 (by kernel_rfl) rfl #[.int .i64 a1] rfl (by (try simp only [List.map_toArray, List.map_cons, List.map_nil]); first | done | rfl | (simp only [List.length_drop, List.length_take]; rfl)) ?_; (with_reducible refine (cmp_isNaN_int.calls a1 false _ A4.out).mono ?_); rintro e w' ⟨rfl, ⟨nd, rfl⟩⟩; refine ⟨_, rfl, ?_⟩))
        go_ret
        exact ⟨by first | rfl | (simp; done) | (simp [*]; done), by repeat (first | exact Drawn0.refl _ | apply Drawn0.step)⟩
      · rw [if_neg c8] at H
        have c8b0 : decide (a0 < a1) = false := decide_eq_false c8
        clear c8
        by_cases c9 : a0 > a1
        · rw [if_pos c9] at H
          have c9b0 : decide (a1 < a0) = true := decide_eq_true c9
          clear c9
          obtain rfl := Option.some.inj H
          go_enter Tryd.func99, Tryd.ntmps99
          go_wp2_with (first | ((with_reducible refine gate_callee (f := 121) rfl ?_); refine goesL_ (some 8) rfl rfl Tryd.func121 (by kernel_rfl) rfl #[.int .i64 a0] rfl (by (try simp only [List.map_toArray, List.map_cons, List.map_nil]); first | done | rfl | (simp only [List.length_drop, List.length_take]; rfl)) ?_; (with_reducible refine (cmp_isNaN_int.calls a0 false _ A3.out).mono ?_); rintro e w' ⟨rfl, ⟨nd, rfl⟩⟩; refine ⟨_, rfl, ?_⟩) | ((with_reducible refine gate_callee (f := 121) rfl ?_); refine goesL_ (some 10) rfl rfl Tryd.func121 (by kernel_rfl) rfl #[.int .i64 a1] rfl (by (try simp only [List.map_toArray, List.map_cons, List.map_nil]); first | done | rfl | (simp only [List.length_drop, List.length_take]; rfl)) ?_; (with_reducible refine (cmp_isNaN_int.calls a1 false _ A4.out).mono ?_); rintro e w' ⟨rfl, ⟨nd, rfl⟩⟩; refine ⟨_, rfl, ?_⟩))
          go_ret
          exact ⟨by first | rfl | (simp; done) | (simp [*]; done), by repeat (first | exact Drawn0.refl _ | apply Drawn0.step)⟩
        · rw [if_neg c9] at H
          have c9b0 : decide (a1 < a0) = false := decide_eq_false c9
          clear c9
          obtain rfl := Option.some.inj H
          go_enter Tryd.func99, Tryd.ntmps99
          go_wp2_with (first | ((with_reducible refine gate_callee (f := 121) rfl ?_); refine goesL_ (some 8) rfl rfl Tryd.func121 (by kernel_rfl) rfl #[.int .i64 a0] rfl (by (try simp only [List.map_toArray, List.map_cons, List.map_nil]); first | done | rfl | (simp only [List.length_drop, List.length_take]; rfl)) ?_; (with_reducible refine (cmp_isNaN_int.calls a0 false _ A3.out).mono ?_); rintro e w' ⟨rfl, ⟨nd, rfl⟩⟩; refine ⟨_, rfl, ?_⟩) | ((with_reducible refine gate_callee (f := 121) rfl ?_); refine goesL_ (some 10) rfl rfl Tryd.func121 (by kernel_rfl) rfl #[.int .i64 a1] rfl (by (try simp only [List.map_toArray, List.map_cons, List.map_nil]); first | done | rfl | (simp only [List.length_drop, List.length_take]; rfl)) ?_; (with_reducible refine (cmp_isNaN_int.calls a1 false _ A4.out).mono ?_); rintro e w' ⟨rfl, ⟨nd, rfl⟩⟩; refine ⟨_, rfl, ?_⟩))
          go_ret
          exact ⟨by first | rfl | (simp; done) | (simp [*]; done), by repeat (first | exact Drawn0.refl _ | apply Drawn0.step)⟩
def slices_Compare_int_int.l0 : Nat → List Int → List Int → List Int → Int → Int → Option (Int)
  | 0, _, _, _, _, _ => none
  | k + 1, x0, x1, x9, x10, x11 => if x11 < x10 then (if 0 ≤ x11 then (if x11 < (x9.length : Int) then (if x11 ≥ (x1.length : Int) then (some 1) else (if x11 < (x1.length : Int) then ((cmp_Compare_int.f (rd x9 x11) (rd x1 x11)).bind fun t239 => (if t239 = 0 then (slices_Compare_int_int.l0 k x0 x1 x9 x10 (wrap64 (x11 + 1))) else (some t239))) else (none))) else (none)) else (none)) else (if (x0.length : Int) < (x1.length : Int) then (some (-1)) else (some 0))
def slices_Compare_int_int.f (k : Nat) (l0 : List Int) (l1 : List Int) : Option (Int) := slices_Compare_int_int.l0 k l0 l1 l0 (l0.length : Int) 0
theorem slices_Compare_int_int.mono_l : ∀ k, (∀ y0 y1 y2 y3 y4, LeO (slices_Compare_int_int.l0 k y0 y1 y2 y3 y4) (slices_Compare_int_int.l0 (k + 1) y0 y1 y2 y3 y4))
  | 0 => fun _ _ _ _ _ r h => by simp [slices_Compare_int_int.l0] at h
  | k + 1 => by
    have ih0 := slices_Compare_int_int.mono_l k
    · intro y0 y1 y2 y3 y4
      unfold slices_Compare_int_int.l0
      repeat' first
      | (with_reducible exact ih0 _ _ _ _ _)
      | (with_reducible exact LeO.refl _)
      | (with_reducible exact LeO.none _)
      | (with_reducible refine LeO.ite ?_ ?_)
      | (with_reducible refine LeO.bind ?_ (fun _ => ?_))
      | exact ih0 _ _ _ _ _
      | exact LeO.none _
      | refine LeO.ite ?_ ?_
      | refine LeO.bind ?_ (fun _ => ?_)
theorem slices_Compare_int_int.mono : ∀ a0 a1 k, LeO (slices_Compare_int_int.f k a0 a1) (slices_Compare_int_int.f (k + 1) a0 a1) := by
  intro a0 a1 k
  have ih0 := slices_Compare_int_int.mono_l k
  unfold slices_Compare_int_int.f
  repeat' first
      | (with_reducible exact ih0 _ _ _ _ _)
      | (with_reducible exact LeO.refl _)
      | (with_reducible exact LeO.none _)
      | (with_reducible refine LeO.ite ?_ ?_)
      | (with_reducible refine LeO.bind ?_ (fun _ => ?_))
      | exact ih0 _ _ _ _ _
      | exact LeO.none _
      | refine LeO.ite ?_ ?_
      | refine LeO.bind ?_ (fun _ => ?_)
set_option maxHeartbeats 8000000 in
set_option maxRecDepth 100000 in
theorem slices_Compare_int_int.calls (k : Nat) (A0 : Option Addr) (c0 : Nat) (l0 : List Int) (A1 : Option Addr) (c1 : Nat) (l1 : List Int) (r : Int) (w : World) (hr0 : Kd.C (Kd.int .i64) w A0 l0.length l0) (hc0 : l0.length ≤ c0) (hr1 : Kd.C (Kd.int .i64) w A1 l1.length l1) (hc1 : l1.length ≤ c1) (h : slices_Compare_int_int.f k l0 l1 = some r) :
    Calls Tryd.prog 86 #[.slice A0 l0.length c0, .slice A1 l1.length c1] w fun e w' => e = .returned (.int .i64 r) ∧ Drawn0 w w' := by
  have HR0 := Aside0.mk hr0
  have HC0 := Aside0.mk hc0
  clear hr0 hc0
  have HR1 := Aside0.mk hr1
  have HC1 := Aside0.mk hc1
  clear hr1 hc1
  have H : (slices_Compare_int_int.l0 k l0 l1 l0 (l0.length : Int) 0) = some r := h
  clear h
  have H' := Aside0.mk H
  clear H
  go_enter Tryd.func86, Tryd.ntmps86
  go_wp2
  go_loopg [11] k (fun kq v11 w' => ∃ (x11_1 : Int), v11 = .int .i64 x11_1 ∧ Aside0 (slices_Compare_int_int.l0 kq l0 l1 l0 (l0.length : Int) x11_1 = some r) ∧ Aside0 (kq ≤ k) ∧ Drawn0 w w')
  case atStart => exact ⟨(0), (by first | rfl | (simp; done) | (simp [*]; done)), H', ⟨Nat.le_refl _⟩, by repeat (first | exact Drawn0.refl _ | apply Drawn0.step)⟩
  case round =>
    clear H'
    try clear c1
    try clear p2
    obtain ⟨x11_1, rfl, HA, HK1, ⟨m1, rfl⟩⟩ := hrel
    cases gk with
    | zero => exact absurd HA.out (by simp [slices_Compare_int_int.l0])
    | succ k1 =>
      have H := HA.out
      clear HA
      simp only [slices_Compare_int_int.l0] at H
      by_cases c3 : x11_1 < (l0.length : Int)
      · rw [if_pos c3] at H
        have c3b0 : decide (x11_1 < (l0.length : Int)) = true := decide_eq_true c3
        clear c3
        by_cases c4 : 0 ≤ x11_1
        · rw [if_pos c4] at H
          have c4b0 : decide (0 ≤ x11_1) = true := decide_eq_true c4
          clear c4
          by_cases c5 : x11_1 < (l0.length : Int)
          · rw [if_pos c5] at H
            have c5b0 : decide (x11_1 < (l0.length : Int)) = true := decide_eq_true c5
            clear c5
            by_cases c6 : x11_1 ≥ (l1.length : Int)
            · rw [if_pos c6] at H
              have c6b0 : decide ((l1.length : Int) ≤ x11_1) = true := decide_eq_true c6
              clear c6
              obtain rfl := Option.some.inj H
              have p237 : 0 ≤ (x11_1 : Int) := of_decide_eq_true (by first | (with_reducible assumption) | assumption)
              have q237 : x11_1 < (l0.length : Int) := of_decide_eq_true (by first | (with_reducible assumption) | assumption)
              obtain ⟨ad237, e237, hx237_0⟩ := Kd.at_int HR0.out x11_1 p237 q237
              cases e237
              replace p237 := eq_true p237
              replace q237 := eq_true q237
              go_wp2
              go_ret
              exact ⟨by first | rfl | (simp; done) | (simp [*]; done), by repeat (first | exact Drawn0.refl _ | apply Drawn0.step)⟩
            · rw [if_neg c6] at H
              have c6b0 : decide ((l1.length : Int) ≤ x11_1) = false := decide_eq_false c6
              clear c6
              by_cases c7 : x11_1 < (l1.length : Int)
              · rw [if_pos c7] at H
                have c7b0 : decide (x11_1 < (l1.length : Int)) = true := decide_eq_true c7
                clear c7
                replace H := Option.bind_eq_some_iff.mp H
                obtain ⟨t239, A80, H⟩ := H
                replace H : (if t239 = 0 then (slices_Compare_int_int.l0 k1 l0 l1 l0 (l0.length : Int) (wrap64 (x11_1 + 1))) else (some t239)) = some r := H
                have A8 := Aside0.mk A80
                clear A80
                by_cases c9 : t239 = 0
                · rw [if_pos c9] at H
                  have c9b0 : (t239 == 0) = true := beq_iff_eq.mpr c9
                  have c9b1 : (t239 != 0) = false := bne_eq_false_iff_eq.mpr c9
                  clear c9
                  have H' := Aside0.mk H
                  clear H
                  have p237 : 0 ≤ (x11_1 : Int) := of_decide_eq_true (by first | (with_reducible assumption) | assumption)
                  have q237 : x11_1 < (l0.length : Int) := of_decide_eq_true (by first | (with_reducible assumption) | assumption)
                  obtain ⟨ad237, e237, hx237_0⟩ := Kd.at_int HR0.out x11_1 p237 q237
                  cases e237
                  replace p237 := eq_true p237
                  replace q237 := eq_true q237
                  have p238 : 0 ≤ (x11_1 : Int) := of_decide_eq_true (by first | (with_reducible assumption) | assumption)
                  have q238 : x11_1 < (l1.length : Int) := of_decide_eq_true (by first | (with_reducible assumption) | assumption)
                  obtain ⟨ad238, e238, hx238_0⟩ := Kd.at_int HR1.out x11_1 p238 q238
                  cases e238
                  replace p238 := eq_true p238
                  replace q238 := eq_true q238
                  go_wp2_with (first | ((with_reducible refine gate_callee (f := 99) rfl ?_); refine goesL_ (some 26) rfl rfl Tryd.func99 (by kernel_rfl) rfl #[.int .i64 (rd l0 x11_1), .int .i64 (rd l1 x11_1)] rfl (by (try simp only [List.map_toArray, List.map_cons, List.map_nil]); first | done | rfl | (simp only [List.length_drop, List.length_take]; rfl)) ?_; (with_reducible refine (cmp_Compare_int.calls (rd l0 x11_1) (rd l1 x11_1) t239 _ A8.out).mono ?_); rintro e w' ⟨rfl, ⟨nd, rfl⟩⟩; refine ⟨_, rfl, ?_⟩))
                  go_roundg k1
                  case measure => have := HK1.out; omega
                  case rel => exact ⟨(wrap64 (x11_1 + 1)), (by first | rfl | (simp; done) | (simp [*]; done)), H', ⟨by have := HK1.out; omega⟩, by repeat (first | exact Drawn0.refl _ | apply Drawn0.step)⟩
                · rw [if_neg c9] at H
                  have c9b0 : (t239 == 0) = false := beq_eq_false_iff_ne.mpr c9
                  have c9b1 : (t239 != 0) = true := bne_iff_ne.mpr c9
                  obtain rfl := Option.some.inj H
                  have p237 : 0 ≤ (x11_1 : Int) := of_decide_eq_true (by first | (with_reducible assumption) | assumption)
                  have q237 : x11_1 < (l0.length : Int) := of_decide_eq_true (by first | (with_reducible assumption) | assumption)
                  obtain ⟨ad237, e237, hx237_0⟩ := Kd.at_int HR0.out x11_1 p237 q237
                  cases e237
                  replace p237 := eq_true p237
                  replace q237 := eq_true q237
                  have p238 : 0 ≤ (x11_1 : Int) := of_decide_eq_true (by first | (with_reducible assumption) | assumption)
                  have q238 : x11_1 < (l1.length : Int) := of_decide_eq_true (by first | (with_reducible assumption) | assumption)
                  obtain ⟨ad238, e238, hx238_0⟩ := Kd.at_int HR1.out x11_1 p238 q238
                  cases e238
                  replace p238 := eq_true p238
                  replace q238 := eq_true q238
                  go_wp2_with (first | ((with_reducible refine gate_callee (f := 99) rfl ?_); refine goesL_ (some 26) rfl rfl Tryd.func99 (by kernel_rfl) rfl #[.int .i64 (rd l0 x11_1), .int .i64 (rd l1 x11_1)] rfl (by (try simp only [List.map_toArray, List.map_cons, List.map_nil]); first | done | rfl | (simp only [List.length_drop, List.length_take]; rfl)) ?_; (with_reducible refine (cmp_Compare_int.calls (rd l0 x11_1) (rd l1 x11_1) t239 _ A8.out).mono ?_); rintro e w' ⟨rfl, ⟨nd, rfl⟩⟩; refine ⟨_, rfl, ?_⟩))
                  go_ret
                  exact ⟨by first | rfl | (simp; done) | (simp [*]; done), by repeat (first | exact Drawn0.refl _ | apply Drawn0.step)⟩
              · rw [if_neg c7] at H
                exact absurd H (by simp)
          · rw [if_neg c5] at H
            exact absurd H (by simp)
        · rw [if_neg c4] at H
          exact absurd H (by simp)
      · rw [if_neg c3] at H
        have c3b0 : decide (x11_1 < (l0.length : Int)) = false := decide_eq_false c3
        clear c3
        by_cases c10 : (l0.length : Int) < (l1.length : Int)
        · rw [if_pos c10] at H
          have c10b0 : decide ((l0.length : Int) < (l1.length : Int)) = true := decide_eq_true c10
          have c10b1 : decide (l0.length < l1.length) = true := decide_eq_true (Int.ofNat_lt.mp c10)
          clear c10
          obtain rfl := Option.some.inj H
          go_wp2
          go_ret
          exact ⟨by first | rfl | (simp; done) | (simp [*]; done), by repeat (first | exact Drawn0.refl _ | apply Drawn0.step)⟩
        · rw [if_neg c10] at H
          have c10b0 : decide ((l0.length : Int) < (l1.length : Int)) = false := decide_eq_false c10
          have c10b1 : decide (l0.length < l1.length) = false := decide_eq_false (fun h => c10 (Int.ofNat_lt.mpr h))
          clear c10
          obtain rfl := Option.some.inj H
          go_wp2
          go_ret
          exact ⟨by first | rfl | (simp; done) | (simp [*]; done), by repeat (first | exact Drawn0.refl _ | apply Drawn0.step)⟩
end Go.Proofs.YtlmgkmmdaecpdaaDoor.Im

namespace Go.Proofs.YtlmgkmmdaecpdaaDoor.Im
open Go.RowKit Go.Proofs.YtlmgkmmdaecpdaaDoorW.PrintWords Go.Proofs.YtlmgkmmdaecpdaaDoorW.PrintLast Go.Proofs.YtlmgkmmdaecpdaaDoorW.PrintMore Go.Proofs.YtlmgkmmdaecpdaaDoor.Mi
set_option linter.unusedVariables false
theorem both_no {n : Nat} {bs : List Int} (hn : 0 < n) {P Q : List Nat} (hP : WyP n bs 120 P) (hp : beP n 120 (headN P)) (hQ : WyP n bs 111 Q) (hq : beP n 111 (headN Q)) : False := by
  refine bridge_both (n := n) hn (X := fun a => bs.getD a 0 = 120) (P := P) (Q := Q) ⟨⟨hP.ne, hP.chain, fun a ha => ⟨(hP.mem a ha).1, ?_⟩, enP_x.1 hP.fin⟩, beP_x.1 hp⟩ ⟨⟨hQ.ne, hQ.chain, fun a ha => ⟨(hQ.mem a ha).1, ?_⟩, enP_o.1 hQ.fin⟩, beP_o.1 hq⟩
  · exact (hP.mem a ha).2
  · have : bs.getD a 0 = 111 := (hQ.mem a ha).2
    show ¬ (bs.getD a 0 = 120)
    rw [this]
    decide
theorem winB_of {n : Nat} {bs : List Int} (hn : 0 < n) {p : Int} (hp : p = 120 ∨ p = 111) {P : List Nat} (hP : WyP n bs p P) (hb : beP n p (headN P)) : winB n bs = p := by
  unfold winB
  rcases hp with rfl | rfl
  · rw [if_pos (brO_ex hP hb)]
  · have : brO n bs 120 = none := brO_none fun Q hQ hq => both_no hn hQ hq hP hb
    rw [this, if_neg (by simp), if_pos (brO_ex hP hb)]
end Go.Proofs.YtlmgkmmdaecpdaaDoor.Im

namespace Go.Proofs.YtlmgkmmdaecpdaaDoor.Im
open Go.RowKit Go.Proofs.YtlmgkmmdaecpdaaDoorW.PrintWords Go.Proofs.YtlmgkmmdaecpdaaDoorW.PrintLast Go.Proofs.YtlmgkmmdaecpdaaDoorW.PrintMore Go.Proofs.YtlmgkmmdaecpdaaDoor.Mi
set_option linter.unusedVariables false
theorem index_l0 (xs : List Int) (x : Int) (hx : xs.length < 1000000) : ∀ (d i : Nat), i + d = xs.length → ∃ t : Int, Gives (fun k => slices_Index_int_int.l0 k xs x (xs.length : Int) i) t ∧ decide (t ≥ 0) = (xs.drop i).contains x
  | 0, i, h => ⟨-1, Gives.now fun k => by
      simp only [slices_Index_int_int.l0]
      rw [if_neg (by omega)], by
      rw [List.drop_of_length_le (by omega)]
      rfl⟩
  | d + 1, i, h => by
    have e1 : xs.drop i = xs[i]'(by omega) :: xs.drop (i + 1) := (List.drop_eq_getElem_cons (by omega))
    by_cases hq : x = xs[i]'(by omega)
    · refine ⟨(i : Int), Gives.now fun k => ?_, ?_⟩
      · simp only [slices_Index_int_int.l0]
        rw [if_pos (by omega), if_pos (by omega), if_pos (by omega), rd_get (by omega), if_pos hq]
      · rw [e1, List.contains_cons, ← hq, beq_self_eq_true, Bool.true_or]
        exact decide_eq_true (by omega)
    · obtain ⟨t, h1, h2⟩ := index_l0 xs x hx d (i + 1) (by omega)
      refine ⟨t, h1.step fun k hk => ?_, ?_⟩
      · simp only [slices_Index_int_int.l0]
        rw [if_pos (by omega), if_pos (by omega), if_pos (by omega), rd_get (by omega), if_neg hq, wr_succ i (by omega), hk]
      · rw [h2, e1, List.contains_cons, beq_eq_false_iff_ne.2 hq, Bool.false_or]
theorem contains_any (xs : List Int) (x : Int) (A : Option Addr) (c : Nat) (w : World) (hx : xs.length < 1000000) (hA : Kd.C (Kd.int .i64) w A xs.length xs) (hc : xs.length ≤ c) :
    Calls Tryd.prog 66 #[.slice A xs.length c, .int .i64 x] w fun e w' => e = .returned (.bool (xs.contains x)) ∧ Below w.heap.size w w' := by
  obtain ⟨t, h1, h2⟩ := index_l0 xs x hx xs.length 0 (by omega)
  obtain ⟨k0, hk0⟩ := h1.map (g := fun k => slices_Contains_int_int.f k xs x) (s := xs.contains x) fun k hk => by
    simp only [slices_Contains_int_int.f, slices_Index_int_int.f]
    have hk' : slices_Index_int_int.l0 k xs x (xs.length : Int) 0 = some t := hk
    rw [hk', Option.bind_some, h2]
    rfl
  exact (slices_Contains_int_int.calls k0 A c xs x _ w hA hc (hk0 k0 (Nat.le_refl _))).mono fun e w' ⟨h1, h2⟩ => ⟨h1, h2.below⟩
theorem contains_q (xs : List Int) (x : Int) (A : Option Addr) (c : Nat) (w : World) (hx : xs.length < 1000000) (hA : Kd.C (Kd.int .i64) w A xs.length xs) (hc : xs.length ≤ c) :
    Calls Tryd.prog 66 #[.slice A xs.length c, .int .i64 x] w fun e w' => e = .returned (.bool (xs.contains x)) ∧ ∃ m, w' = w.drewN m := by
  obtain ⟨t, h1, h2⟩ := index_l0 xs x hx xs.length 0 (by omega)
  obtain ⟨k0, hk0⟩ := h1.map (g := fun k => slices_Contains_int_int.f k xs x) (s := xs.contains x) fun k hk => by
    simp only [slices_Contains_int_int.f, slices_Index_int_int.f]
    have hk' : slices_Index_int_int.l0 k xs x (xs.length : Int) 0 = some t := hk
    rw [hk', Option.bind_some, h2]
    rfl
  exact (slices_Contains_int_int.calls k0 A c xs x _ w hA hc (hk0 k0 (Nat.le_refl _))).mono fun e w' ⟨h1, h2⟩ => ⟨h1, h2.out⟩
def okK (n : Nat) (bs P : List Int) (k : Nat) : Bool :=
  decide (0 ≤ rd P k) && decide (rd P k < ((n * n : Nat) : Int)) && !((P.take k).contains (rd P k)) && (bs.getD (rd P k).toNat 0 == bs.getD (rd P 0).toNat 0) && (decide (k = 0) || decide (NearN n (rd P ((k - 1 : Nat) : Int)).toNat (rd P k).toNat))
def okA (n : Nat) (bs P : List Int) (k : Nat) : Bool := (List.range k).all (okK n bs P)
theorem okA_succ (n : Nat) (bs P : List Int) (k : Nat) : okA n bs P (k + 1) = (okA n bs P k && okK n bs P k) := by
  unfold okA
  rw [List.range_succ, List.all_append]
  simp
theorem okA_false {n : Nat} {bs P : List Int} {k m : Nat} (h : okK n bs P k = false) (hk : k < m) : okA n bs P m = false := by
  cases hq : okA n bs P m with
  | false => rfl
  | true => rw [List.all_eq_true.1 hq k (List.mem_range.2 hk)] at h; cases h
def bgP (bs P : List Int) : Int := bs.getD (rd P 0).toNat 0
def bgE (n : Nat) (bs P : List Int) : Bool := decide (beP n (bgP bs P) (rd P 0).toNat) && decide (enP n (bgP bs P) (rd P ((P.length - 1 : Nat) : Int)).toNat)
def bgB (n : Nat) (bs P : List Int) : Bool := decide (0 < P.length) && decide (P.length ≤ n * n) && okA n bs P P.length && bgE n bs P
def bgR (n : Int) (s : ByteArray) (P : List Int) : ByteArray × Int := if boE n s xoB = 0 then (if bgB n.toNat (bsOf s) P then (strP (bgP (bsOf s) P), 0) else (⟨#[]⟩, 2)) else (⟨#[]⟩, boE n s xoB)
end Go.Proofs.YtlmgkmmdaecpdaaDoor.Im

namespace Go.Proofs.YtlmgkmmdaecpdaaDoor.Im
open Go.RowKit Go.Proofs.YtlmgkmmdaecpdaaDoorW.PrintWords Go.Proofs.YtlmgkmmdaecpdaaDoorW.PrintLast Go.Proofs.YtlmgkmmdaecpdaaDoorW.PrintMore Go.Proofs.YtlmgkmmdaecpdaaDoor.Mi
set_option linter.unusedVariables false
section
variable {m : Nat} {nb : Nat → Nat → Prop} {ok en : Nat → Prop}
theorem dist_nodup : ∀ {G : List Nat}, Wy m nb ok en G → Dist m nb ok en (headN G) G.length → G.Nodup
  | [], h, _ => absurd rfl h.ne
  | [p], _, _ => by simp
  | p :: q :: t, h, hd => by
    have ht := h.tail
    have hdt : Dist m nb ok en (headN (q :: t)) (q :: t).length := ⟨⟨q :: t, ht, rfl, cost_one _⟩, fun R hR hh => by
      have hp := h.mem p (by simp)
      have := hd.le (p :: R) (hR.cons hp.1 hp.2 (by rw [hh]; exact h.chain.1)) rfl
      rw [cost_one] at this ⊢
      have e : (p :: q :: t).length = (q :: t).length + 1 := rfl
      have e2 : (p :: R).length = R.length + 1 := rfl
      omega⟩
    refine List.nodup_cons.2 ⟨fun hm => ?_, dist_nodup ht hdt⟩
    obtain ⟨A, C, e⟩ := List.append_of_mem hm
    rw [e] at ht
    have := hd.le (p :: C) ht.suffix rfl
    rw [cost_one] at this
    have e2 := congrArg List.length e
    rw [List.length_append] at e2
    have e3 : (p :: q :: t).length = (q :: t).length + 1 := rfl
    omega
theorem chain_get : ∀ {Q : List Nat}, Chain nb Q ↔ ∀ i (h : i + 1 < Q.length), nb Q[i] Q[i + 1]
  | [] => ⟨fun _ i h => by simp at h, fun _ => trivial⟩
  | [p] => ⟨fun _ i h => by simp at h, fun _ => trivial⟩
  | p :: q :: t => by
    have ih := chain_get (Q := q :: t)
    constructor
    · rintro ⟨h1, h2⟩ i h
      match i, h with
      | 0, _ => exact h1
      | i + 1, h => exact ih.1 h2 i (by simpa using h)
    · intro h
      exact ⟨h 0 (by simp), ih.2 fun i hi => h (i + 1) (by simpa using hi)⟩
theorem lastN_get : ∀ {Q : List Nat} (h : 0 < Q.length), lastN Q = Q[Q.length - 1]
  | [p], _ => rfl
  | p :: q :: t, _ => by
    have ih := lastN_get (Q := q :: t) (by simp)
    show lastN (q :: t) = _
    rw [ih]
    rfl
theorem headN_get : ∀ {Q : List Nat} (h : 0 < Q.length), headN Q = Q[0]
  | p :: t, _ => rfl
theorem lexLe_at : ∀ {G Q : List Nat}, lexLe G Q → ∀ i (h : i < G.length) (k : i < Q.length), (∀ j (h : j < G.length) (k : j < Q.length), j < i → G[j] = Q[j]) → G[i] ≤ Q[i]
  | [], _, _, i, h, _, _ => by simp at h
  | a :: s, [], _, i, _, k, _ => by simp at k
  | a :: s, b :: t, hl, i, h, k, he => by
    match i, h, k with
    | 0, _, _ =>
      rcases hl with h1 | ⟨rfl, _⟩
      · exact Nat.le_of_lt h1
      · exact Nat.le_refl _
    | i + 1, h, k =>
      have e0 := he 0 (by simp) (by simp) (by omega)
      rcases hl with h1 | ⟨_, h1⟩
      · have : a = b := e0
        omega
      · exact lexLe_at h1 i (by simpa using h) (by simpa using k) fun j hj hk hji => he (j + 1) (by simpa using hj) (by simpa using hk) (by omega)
end
theorem rd_inq {Q : List Nat} {i : Nat} (h : i < Q.length) : rd (ints Q) (i : Int) = (Q[i] : Int) := by
  have hl : i < (ints Q).length := by unfold ints; rw [List.length_map]; exact h
  rw [rd_get hl]
  simp [ints]
theorem ints_len (Q : List Nat) : (ints Q).length = Q.length := by unfold ints; rw [List.length_map]
theorem rd_inq0 {Q : List Nat} (h : 0 < Q.length) : rd (ints Q) 0 = (headN Q : Int) := by
  rw [headN_get h]
  exact rd_inq h
theorem bg_of_way {n : Nat} {bs : List Int} {p : Int} {Q : List Nat} (hw : WyP n bs p Q) (hb : beP n p (headN Q)) (hd : Q.Nodup) : bgB n bs (ints Q) = true ∧ bgP bs (ints Q) = p := by
  have h0 : 0 < Q.length := by
    cases Q with
    | nil => exact absurd rfl hw.ne
    | cons a t => simp
  have hp : bgP bs (ints Q) = p := by
    unfold bgP
    rw [rd_inq0 h0, Int.toNat_natCast]
    exact (hw.mem _ (headN_mem hw.ne)).2
  have hok : ∀ k, k < Q.length → okK n bs (ints Q) k = true := fun k hk => by
    have hm := hw.mem _ (List.getElem_mem hk)
    unfold okK
    rw [rd_inq hk, rd_inq0 h0, Int.toNat_natCast, Int.toNat_natCast]
    have e1 : bs.getD Q[k] 0 = p := hm.2
    have e2 : bs.getD (headN Q) 0 = p := (hw.mem _ (headN_mem hw.ne)).2
    rw [e1, e2, decide_eq_true (by omega), decide_eq_true (by have := hm.1; omega), beq_self_eq_true]
    have e3 : ((ints Q).take k).contains ((Q[k] : Nat) : Int) = false := by
      cases hc : ((ints Q).take k).contains ((Q[k] : Nat) : Int) with
      | false => rfl
      | true =>
        have := List.contains_iff_mem.1 hc
        unfold ints at this
        rw [← List.map_take, List.mem_map] at this
        obtain ⟨q, hq, he⟩ := this
        obtain ⟨j, hj, hje⟩ := List.mem_take_iff_getElem.1 hq
        have e9 : Q[j]'(by omega) = Q[k] := by omega
        exact absurd e9 (List.pairwise_iff_getElem.1 hd j k (by omega) hk (by omega))
    rw [e3]
    rcases Nat.eq_zero_or_pos k with e | e
    · subst e; simp
    · have hnr := chain_get.1 hw.chain (k - 1) (by omega)
      have e4 : k - 1 + 1 = k := by omega
      simp only [e4] at hnr
      have e5 := rd_inq (Q := Q) (i := k - 1) (by omega)
      rw [e5, Int.toNat_natCast, decide_eq_true hnr]
      simp
  refine ⟨?_, hp⟩
  unfold bgB bgE
  rw [hp, ints_len, decide_eq_true h0, decide_eq_true (nodup_len _ Q hd fun x hx => (hw.mem x hx).1), show okA n bs (ints Q) Q.length = true from List.all_eq_true.2 fun k hk => hok k (List.mem_range.1 hk), rd_inq0 h0, rd_inq (by omega), Int.toNat_natCast, Int.toNat_natCast, decide_eq_true hb]
  have : enP n p (Q[Q.length - 1]'(by omega)) := by rw [← lastN_get h0]; exact hw.fin
  rw [decide_eq_true this]
  rfl
theorem way_of_bg {n : Nat} {bs P : List Int} (h : bgB n bs P = true) : ∃ Q : List Nat, P = ints Q ∧ WyP n bs (bgP bs P) Q ∧ beP n (bgP bs P) (headN Q) := by
  unfold bgB at h
  simp only [Bool.and_eq_true, decide_eq_true_eq] at h
  obtain ⟨⟨⟨h0, hle⟩, hok⟩, hE⟩ := h
  have hk : ∀ k, k < P.length → okK n bs P k = true := fun k hk => List.all_eq_true.1 hok k (List.mem_range.2 hk)
  have hnn : ∀ x ∈ P, 0 ≤ x := fun x hx => by
    obtain ⟨k, hkl, rfl⟩ := List.mem_iff_getElem.1 hx
    have := hk k hkl
    unfold okK at this
    simp only [Bool.and_eq_true, decide_eq_true_eq] at this
    rw [rd_get hkl] at this
    exact this.1.1.1.1
  have hP : P = ints (P.map Int.toNat) := by
    unfold ints
    rw [List.map_map]
    conv => lhs; rw [← List.map_id P]
    exact List.map_congr_left fun x hx => (Int.toNat_of_nonneg (hnn x hx)).symm
  obtain ⟨Q, hQ⟩ : ∃ Q, P.map Int.toNat = Q := ⟨_, rfl⟩
  rw [hQ] at hP
  subst hP
  rw [ints_len] at h0 hk hle
  have key : ∀ k (hkl : k < Q.length), Q[k] < n * n ∧ bs.getD Q[k] 0 = bgP bs (ints Q) ∧ (k = 0 ∨ ∃ (h : k - 1 < Q.length), NearN n (Q[k - 1]'h) Q[k]) := fun k hkl => by
    have h1 := hk k hkl
    unfold okK at h1
    simp only [Bool.and_eq_true, Bool.or_eq_true, decide_eq_true_eq, beq_iff_eq] at h1
    rw [rd_inq hkl, Int.toNat_natCast] at h1
    obtain ⟨⟨⟨⟨_, a2⟩, _⟩, a4⟩, a5⟩ := h1
    refine ⟨by omega, a4, ?_⟩
    rcases a5 with a5 | a5
    · exact .inl a5
    · refine .inr ⟨by omega, ?_⟩
      rw [rd_inq (by omega), Int.toNat_natCast] at a5
      exact a5
  unfold bgE at hE
  simp only [Bool.and_eq_true, decide_eq_true_eq] at hE
  rw [rd_inq0 h0, ints_len, rd_inq (by omega), Int.toNat_natCast, Int.toNat_natCast] at hE
  refine ⟨Q, rfl, ⟨fun e => by rw [e] at h0; simp at h0, chain_get.2 fun i hi => ?_, fun q hq => ?_, by rw [lastN_get h0]; exact hE.2⟩, hE.1⟩
  · rcases (key (i + 1) hi).2.2 with e | ⟨h1, h2⟩
    · omega
    · exact h2
  · obtain ⟨k, hkl, rfl⟩ := List.mem_iff_getElem.1 hq
    exact ⟨(key k hkl).1, (key k hkl).2.1⟩
theorem hex_plain {n : Nat} {bs : List Int} (hn : 0 < n) (hf : ∀ a, a < n * n → bs.getD a 0 = 120 ∨ bs.getD a 0 = 111) {G : List Nat} (hG : brO n bs (winB n bs) = some G) :
    bgB n bs (ints G) = true ∧ bgP bs (ints G) = winB n bs ∧ ∀ P, bgB n bs P = true → bgP bs P = winB n bs ∧ G.length ≤ P.length ∧ (G.length = P.length → ∀ i : Nat, i < G.length → (∀ j : Nat, j < i → rd P (j : Int) = rd (ints G) (j : Int)) → rd (ints G) (i : Int) ≤ rd P (i : Int)) := by
  have hF := brO_first hG
  obtain ⟨g1, g2⟩ := bg_of_way hF.way hF.start (dist_nodup hF.way hF.dist)
  refine ⟨g1, g2, fun P hP => ?_⟩
  obtain ⟨Q, rfl, hw, hb⟩ := way_of_bg hP
  have hpl : bgP bs (ints Q) = 120 ∨ bgP bs (ints Q) = 111 := by
    have := hw.mem _ (headN_mem hw.ne)
    rw [← this.2]
    exact hf _ this.1
  have hwin := winB_of hn hpl hw hb
  rw [← hwin] at hw hb
  obtain ⟨b1, b2⟩ := hF.best hw hb
  rw [ints_len]
  refine ⟨hwin.symm, b1, fun hl i hi he => ?_⟩
  rw [rd_inq hi, rd_inq (by omega)]
  have := lexLe_at (b2 hl) i hi (by omega) fun j hj hk hji => by
    have := he j hji
    rw [rd_inq hk, rd_inq hj] at this
    omega
  omega
end Go.Proofs.YtlmgkmmdaecpdaaDoor.Im

namespace Go.Proofs.YtlmgkmmdaecpdaaDoor.Im
open Go.RowKit Go.Proofs.YtlmgkmmdaecpdaaDoorW.PrintWords Go.Proofs.YtlmgkmmdaecpdaaDoorW.PrintLast Go.Proofs.YtlmgkmmdaecpdaaDoorW.PrintMore Go.Proofs.YtlmgkmmdaecpdaaDoor.Mi
set_option linter.unusedVariables false
set_option linter.unusedSimpArgs false
theorem wrap_m1 (M : Nat) {L : Nat} (hM : M ≤ 121) (h0 : 0 < L) (hle : L ≤ M) : IntKind.i64.wrap ((M : Int) - 1) = (M : Int) - 1 := by
  simp [IntKind.wrap, IntKind.bits, IntKind.signed]
  omega
theorem min2_le (k k' : IntKind) (x y : Int) (h : x ≤ y) : Builtin.min2 (.int k x) (.int k' y) = pure (.int k x) := by
  rw [min2_int, if_neg (by omega)]
theorem max2_le (k k' : IntKind) (x y : Int) (h : x ≤ y) : Builtin.max2 (.int k x) (.int k' y) = pure (.int k y) := by
  rw [max2_int]
  split
  · rfl
  · rw [show x = y by omega]
theorem wrap_sub1 {k j : Nat} (h : k = j + 1) (hk : k ≤ 121) : IntKind.i64.wrap ((k : Int) - 1) = (j : Int) ∧ wrap64 ((k : Int) - 1) = (j : Int) ∧ (k : Int) - 1 = (j : Int) := by
  have h2 : wrap64 ((k : Int) - 1) = (j : Int) := by unfold wrap64; omega
  exact ⟨by rw [IntWalk.i64_left]; exact h2, h2, by omega⟩
attribute [local go_sem] max2_le min2_le max_two min_two
set_option maxHeartbeats 6400000 in
set_option maxRecDepth 100000 in
theorem pbridge_good (n : Nat) (s : ByteArray) (P : List Int) (A : Option Addr) (c : Nat) (w : World) (hst : Steps w) (hs : s.size ≤ 9223372036854775807) (hE : boE n s xoB = 0) (hP : Kd.C (Kd.int .i64) w A P.length P) (hc : P.length ≤ c) (h0 : 0 < P.length) (hle : P.length ≤ n * n) :
    Calls Tryd.prog 34 #[.int .i64 n, .string s, .slice A P.length c] w fun e w' => e = .returned (.tuple #[.string (if bgB n (bsOf s) P then strP (bgP (bsOf s) P) else ⟨#[]⟩), .int .i64 (if bgB n (bsOf s) P then 0 else 2)]) ∧ Below w.heap.size w w' := by
  have HBo := Aside0.mk (boarded_any n s xoB w hs (by decide) (by decide))
  have HS := Aside0.mk hst
  have HE := Aside0.mk hE
  have HP := Aside0.mk hP
  have hok := boE_ok hE
  rw [Int.toNat_natCast] at hok
  obtain ⟨n1, n11, hsz⟩ := hok
  have n1' : 1 ≤ n := by omega
  have n11' : n ≤ 11 := by omega
  have hM : n * n ≤ 121 := Nat.mul_le_mul n11' n11'
  have HF := Aside0.mk (fun a (ha : a < n * n) => full_byte hE (a := a) (by omega))
  have hr1 := run_rune_x
  have hr2 := run_rune_o
  unfold xoB at HBo
  clear hst hE hs n1 n11 hP
  obtain ⟨bs, hbs⟩ : ∃ bs, bsOf s = bs := ⟨_, rfl⟩
  obtain ⟨L, hL⟩ : ∃ L, P.length = L := ⟨_, rfl⟩
  obtain ⟨ad, rfl⟩ : ∃ ad, A = some ad := by
    obtain ⟨ad, h, _⟩ := Kd.at_int HP.out 0 (by omega) (by omega)
    exact ⟨ad, h⟩
  obtain ⟨M, hMM⟩ : ∃ M, n * n = M := ⟨_, rfl⟩
  have HMM := Aside0.mk hMM
  have HL := Aside0.mk hL
  have HBS := Aside0.mk hbs
  rw [hbs, hL]
  rw [hL] at h0 hc hle
  rw [hMM] at hM hle
  clear hL hbs hMM hsz
  have l0 : ((L : Int) == 0) = false := beq_eq_false_iff_ne.2 (by omega)
  have l1 : decide ((M : Int) < (L : Int)) = false := decide_eq_false (by omega)
  have l2 : decide (M < L) = false := decide_eq_false (by omega)
  obtain ⟨rs, hrs⟩ : ∃ r, (if bgB n bs P then strP (bgP bs P) else ⟨#[]⟩) = r := ⟨_, rfl⟩
  obtain ⟨re, hre⟩ : ∃ r : Int, (if bgB n bs P then 0 else 2) = r := ⟨_, rfl⟩
  rw [hrs, hre]
  have HFal : Aside0 (∀ k, k < L → okK n bs P k = false → rs = ⟨#[]⟩ ∧ re = 2) := ⟨fun k hk h => by
    have : bgB n bs P = false := by
      unfold bgB
      rw [okA_false (m := P.length) h (by rw [HL.out]; exact hk)]
      simp
    rw [← hrs, ← hre, this]
    exact ⟨rfl, rfl⟩⟩
  have HEnd : Aside0 (okA n bs P L = true → (bgE n bs P = true → rs = strP (bgP bs P) ∧ re = 0) ∧ (bgE n bs P = false → rs = ⟨#[]⟩ ∧ re = 2)) := ⟨fun h => by
    have hb : bgB n bs P = bgE n bs P := by
      unfold bgB
      rw [HL.out, h, decide_eq_true h0, decide_eq_true (by rw [HMM.out]; exact hle)]
      simp
    rw [hb] at hrs hre
    exact ⟨fun h => by rw [h] at hrs hre; exact ⟨hrs.symm, hre.symm⟩, fun h => by rw [h] at hrs hre; exact ⟨hrs.symm, hre.symm⟩⟩⟩
  clear hrs hre
  go_enter Tryd.func34, Tryd.ntmps34
  go_wp2_with fail
  refine HBo.out.mono ?_
  rintro e w1 ⟨hb1, h1⟩
  rw [if_pos (show boE (n : Int) s ⟨#[120, 111]⟩ = 0 from HE.out), Int.toNat_natCast, HBS.out] at h1
  obtain ⟨g, gb, cb, rfl, hbr, _, _, _⟩ := h1
  have HBr := Aside0.mk hbr
  have HB1 := Aside0.mk hb1
  have hh1 : w1.cell? ⟨g, 1, none⟩ = some (.slice (some ⟨gb, 0, none⟩) M cb) := HMM.out ▸ hbr.hd.cell 1
  clear hb1 hbr HBo HE
  go_wp2_with fail
  go_loopw [43] (fun v43 wr => ∃ k : Nat, k ≤ L ∧ v43 = .int .i64 (k : Int) ∧ Aside0 (okA n bs P k = true) ∧ Aside0 (Below w1.heap.size w1 wr)) (fun v _ => L - (intOf v).toNat)
  case atStart => exact ⟨0, Nat.zero_le _, rfl, ⟨rfl⟩, ⟨Below.refl _ _⟩⟩
  case round =>
    obtain ⟨k, hk, rfl, HO, HBw⟩ := hrel
    have HBW := Aside0.mk (below_then HB1.out HB1.out.size HBw.out)
    have HPw := Aside0.mk (Kd.C_below HP.out HBW.out)
    have hh1r : wr.cell? ⟨g, 1, none⟩ = some (.slice (some ⟨gb, 0, none⟩) M cb) := (HBw.out.cell HBr.out.hd.lt).trans hh1
    by_cases hkL : k < L
    · have g1 : decide ((k : Int) < (L : Int)) = true := decide_eq_true (by omega)
      have g2 : decide (k < L) = true := decide_eq_true hkL
      have cP : ∀ i : Nat, i < L → wr.cell? (ad.add i) = some (.int .i64 (rd P (i : Int))) := fun i hi => by
        obtain ⟨ad', e, h⟩ := Kd.at_int HPw.out (i : Int) (by omega) (by rw [HL.out]; omega)
        cases e
        rw [Int.toNat_natCast] at h
        exact h
      have ck := cP k hkL
      have c0 := cP 0 h0
      have HcP := Aside0.mk cP
      clear cP
      obtain ⟨x, hx⟩ : ∃ x, rd P (k : Int) = x := ⟨_, rfl⟩
      obtain ⟨x0, hx0⟩ : ∃ x0, rd P ((0 : Nat) : Int) = x0 := ⟨_, rfl⟩
      rw [hx] at ck
      rw [hx0] at c0
      have HX := Aside0.mk hx
      have HX0 := Aside0.mk hx0
      clear hx hx0
      by_cases b1 : x < 0
      · have q1 : decide (x < 0) = true := decide_eq_true b1
        have hbad : okK n bs P k = false := by unfold okK; rw [HX.out, decide_eq_false (by omega)]; simp
        have HBD := Aside0.mk (HFal.out k hkL hbad)
        clear hbad b1
        go_wp2_with fail
        go_quiet (fail)
        go_wp2_with fail
        go_ret2
        exact ⟨by rw [HBD.out.1, HBD.out.2]; rfl, pw_below_drewN HBW.out nq⟩
      · have q1 : decide (x < 0) = false := decide_eq_false b1
        by_cases b2 : x < (M : Int)
        · have q2 : decide (x < (M : Int)) = true := decide_eq_true b2
          have q2' : decide ((M : Int) ≤ x) = false := decide_eq_false (by omega)
          obtain ⟨y, rfl⟩ : ∃ y : Nat, x = (y : Nat) := ⟨x.toNat, by omega⟩
          have hyM : y < M := by omega
          have q2n : decide (M ≤ y) = false := decide_eq_false (by omega)
          obtain ⟨p, hp, hpM⟩ : ∃ p : Nat, x0 = (p : Nat) ∧ p < M := by
            rcases Nat.eq_zero_or_pos k with e | e
            · subst e
              exact ⟨y, HX0.out.symm.trans HX.out, hyM⟩
            · have h1 := List.all_eq_true.1 HO.out 0 (List.mem_range.2 e)
              unfold okK at h1
              rw [HX0.out, HMM.out] at h1
              simp only [Bool.and_eq_true, decide_eq_true_eq] at h1
              exact ⟨x0.toNat, by omega, by omega⟩
          have hpn : x0.toNat = p := by omega
          have HPN := Aside0.mk hp
          obtain ⟨ct, hct⟩ : ∃ ct, (P.take k).contains (y : Int) = ct := ⟨_, rfl⟩
          have hlt : (P.take k).length = k := by rw [List.length_take, HL.out]; omega
          have hCt : ∀ q : Nat, Calls Tryd.prog 66 #[.slice (some ad) k c, .int .i64 (y : Nat)] (wr.drewN q) fun e w' => e = .returned (.bool ct) ∧ ∃ m, w' = (wr.drewN q).drewN m := fun q => by
            have h := contains_q (P.take k) y (some ad) c (wr.drewN q) (by rw [hlt]; omega) (Kd.C_below (Kd.C_take HPw.out (m := k) (by rw [HL.out]; omega)) (pw_below_drewN (Below.refl _ _) q)) (by rw [hlt]; omega)
            rw [hlt, hct] at h
            exact h
          have HCt := Aside0.mk hCt
          have HCT := Aside0.mk hct
          clear hCt hlt hct b1 b2
          have by_ : ∀ w2, Below wr.heap.size wr w2 → w2.cell? ⟨gb, y, none⟩ = some (.int .u8 (bs.getD y 0)) := fun w2 h => byte_at (Kd.C_below (Kd.C_below HBr.out.row HBw.out) h) y (by rw [HMM.out]; exact hyM)
          have bp_ : ∀ w2, Below wr.heap.size wr w2 → w2.cell? ⟨gb, x0.toNat, none⟩ = some (.int .u8 (bs.getD x0.toNat 0)) := fun w2 h => byte_at (Kd.C_below (Kd.C_below HBr.out.row HBw.out) h) x0.toNat (by rw [HMM.out, hpn]; exact hpM)
          have c0' : wr.cell? ad = some (.int .i64 x0) := c0
          have hby := by_ _ (Below.refl _ _)
          have hbp := bp_ _ (Below.refl _ _)
          cases ct
          · skip
            obtain ⟨vy, hvy⟩ : ∃ v, bs.getD y 0 = v := ⟨_, rfl⟩
            obtain ⟨vp, hvp⟩ : ∃ v, bs.getD x0.toNat 0 = v := ⟨_, rfl⟩
            rw [hvy] at hby
            rw [hvp] at hbp
            have HVY := Aside0.mk hvy
            have HVP := Aside0.mk hvp
            have u0 : (0 : Int) ≤ (k : Int) := by omega
            have u1 : (k : Int) ≤ (c : Int) := by omega
            have u2 : (k : Int) ≤ (L : Int) := by omega
            have u3 : (0 : Int) ≤ (y : Int) := by omega
            have u4 : (y : Int) < (M : Int) := by omega
            have u5 : (0 : Int) ≤ x0 := by omega
            have u6 : x0 < (M : Int) := by omega
            have u7 : x0 ≤ (M : Int) - 1 := by omega
            have u8 : IntKind.i64.wrap ((M : Int) - 1) = (M : Int) - 1 := wrap_m1 M hM h0 hle
            clear by_ bp_ hvy hvp hp hpn
            go_wp2_with fail
            go_quiet (first | exact Calls.quiet_of (HCt.out _))
            have HB8 := Aside0.mk (pw_below_drewN HBW.out nq)
            have HBw8 := Aside0.mk (pw_below_drewN HBw.out nq)
            have hb8 : Below wr.heap.size wr (wr.drewN nq) := pw_below_drewN (Below.refl _ _) nq
            generalize wr.drewN nq = w8 at *
            clear HCt u0 u1 u2 u3 u4 u5 u6 u7 u8 c0 c0' ck hby hbp
            have heq : (bs.getD (rd P (k : Int)).toNat 0 == bs.getD (rd P 0).toNat 0) = (vy == vp) := by
              rw [HX.out, show rd P 0 = x0 from HX0.out, Int.toNat_natCast, HVY.out, HVP.out]
            have hok1 : okK n bs P k = ((vy == vp) && (decide (k = 0) || decide (NearN n (rd P ((k - 1 : Nat) : Int)).toNat y))) := by
              unfold okK
              rw [heq, HX.out, HCT.out, HMM.out, decide_eq_true (by omega), decide_eq_true (by omega), Int.toNat_natCast]
              simp
            have HOK := Aside0.mk hok1
            clear hok1 heq
            rcases Bool.eq_false_or_eq_true (vy == vp) with v1 | v1
            · rw [v1, Bool.true_and] at HOK
              rcases Nat.eq_zero_or_pos k with hk0 | hk0
              · subst hk0
                have hgo : okK n bs P 0 = true := by rw [HOK.out]; simp
                have HGO := Aside0.mk hgo
                clear hgo
                go_wp2_with fail
                go_roundw
                case rel => exact ⟨0 + 1, hkL, by go_num, ⟨by rw [okA_succ, HO.out, HGO.out]; rfl⟩, HBw8⟩
                case measure => simp [intOf]; omega
              · obtain ⟨j, hj⟩ : ∃ j, k = j + 1 := ⟨k - 1, by omega⟩
                have hkb : k ≤ 121 := by omega
                obtain ⟨e1, e2, e3⟩ := wrap_sub1 hj hkb
                have hk0' : decide ((0 : Int) < (k : Int)) = true := decide_eq_true (by omega)
                have hk0n : decide (0 < k) = true := decide_eq_true hk0
                obtain ⟨z, hz, hzM⟩ : ∃ z : Nat, rd P (j : Int) = (z : Nat) ∧ z < M := by
                  have h1 := List.all_eq_true.1 HO.out j (List.mem_range.2 (by omega))
                  unfold okK at h1
                  rw [HMM.out] at h1
                  simp only [Bool.and_eq_true, decide_eq_true_eq] at h1
                  exact ⟨(rd P (j : Int)).toNat, by omega, by omega⟩
                have cj : w8.cell? (ad.add j) = some (.int .i64 (z : Nat)) := by
                  rw [← hz]
                  exact pw_cell_below hb8 (HcP.out j (by omega))
                have hkj : k - 1 = j := by omega
                rw [hkj, hz, Int.toNat_natCast, decide_eq_false (by omega : ¬ k = 0), Bool.false_or] at HOK
                have u0 : (0 : Int) ≤ (j : Int) := by omega
                have u1 : (j : Int) < (L : Int) := by omega
                have HKJ := Aside0.mk hj
                clear hz hj hkj
                have HNb := Aside0.mk (neighbours_any g n z (.slice (some ⟨gb, 0, none⟩) (n * n) cb) w8 n1' n11' (by rw [HMM.out]; exact hzM) (HS.out.later HB8.out) (HBr.out.hd.later HBw8.out))
                go_wp2_with fail
                refine HNb.out.mono ?_
                rintro e w9 ⟨v9, rfl, hR9, hb9⟩
                obtain ⟨A9, c9, rfl, hl9, hC9⟩ := Kd.R_reads hR9
                have hmem : (ints (nbL n z)).contains (y : Int) = decide (NearN n z y) := by
                  rw [Bool.eq_iff_iff, List.contains_iff_mem, decide_eq_true_eq]
                  unfold ints
                  rw [List.mem_map]
                  constructor
                  · rintro ⟨q, hq, he⟩
                    obtain rfl : q = y := by omega
                    exact (mem_nbL.1 hq).2
                  · intro h
                    exact ⟨y, mem_nbL.2 ⟨by rw [HMM.out]; exact hyM, h⟩, rfl⟩
                have hlen9 : (ints (nbL n z)).length < 1000000 := by
                  unfold ints nbL
                  rw [List.length_map]
                  have := List.length_filter_le (fun j => decide (NearN n z j)) (List.range (n * n))
                  rw [List.length_range, HMM.out] at this
                  rw [HMM.out]
                  omega
                have HCo := contains_any (ints (nbL n z)) (y : Int) A9 c9 w9 hlen9 hC9 hl9
                rw [hmem] at HCo
                have HCo := Aside0.mk HCo
                have HB9 := Aside0.mk (below_then HB8.out HB8.out.size hb9)
                have HBw9 := Aside0.mk (below_then HBw8.out HBw8.out.size hb9)
                clear hR9 hb9 hl9 hC9 hmem hlen9 HNb cj
                cases hnr : decide (NearN n z y)
                · rw [hnr] at HOK HCo
                  have HBD := Aside0.mk (HFal.out k hkL HOK.out)
                  clear hnr
                  go_wp2_with fail
                  refine HCo.out.mono ?_
                  rintro e w10 ⟨rfl, hb10⟩
                  have HB10 := Aside0.mk (below_then HB9.out HB9.out.size hb10)
                  clear hb10
                  go_wp2_with fail
                  go_ret2
                  exact ⟨by rw [HBD.out.1, HBD.out.2]; rfl, HB10.out⟩
                · rw [hnr] at HOK HCo
                  clear hnr
                  go_wp2_with fail
                  refine HCo.out.mono ?_
                  rintro e w10 ⟨rfl, hb10⟩
                  have HB10 := Aside0.mk (below_then HBw9.out HBw9.out.size hb10)
                  clear hb10
                  go_wp2_with fail
                  go_roundw
                  case rel => exact ⟨k + 1, hkL, by go_num, ⟨by rw [okA_succ, HO.out, HOK.out]; rfl⟩, HB10⟩
                  case measure => simp [intOf]; omega
            · have hbad : okK n bs P k = false := by rw [HOK.out, v1]; rfl
              have HBD := Aside0.mk (HFal.out k hkL hbad)
              clear hbad
              go_wp2_with fail
              go_ret2
              exact ⟨by rw [HBD.out.1, HBD.out.2]; rfl, HB8.out⟩
          · have hbad : okK n bs P k = false := by unfold okK; rw [HX.out, HCT.out]; simp
            have u0 : (0 : Int) ≤ (k : Int) := by omega
            have u1 : (k : Int) ≤ (c : Int) := by omega
            have u2 : (k : Int) ≤ (L : Int) := by omega
            clear by_ bp_ hp hpn hby hbp
            go_wp2_with fail
            go_quiet (first | exact Calls.quiet_of (HCt.out _))
            have HB8 := Aside0.mk (pw_below_drewN HBW.out nq)
            generalize wr.drewN nq = w8 at *
            have HBD := Aside0.mk (HFal.out k hkL hbad)
            clear hbad
            go_wp2_with fail
            go_ret2
            exact ⟨by rw [HBD.out.1, HBD.out.2]; rfl, HB8.out⟩
        · have q2 : decide (x < (M : Int)) = false := decide_eq_false b2
          have q2' : decide ((M : Int) ≤ x) = true := decide_eq_true (by omega)
          have hbad : okK n bs P k = false := by unfold okK; rw [HX.out, HMM.out, decide_eq_false b2]; simp
          have HBD := Aside0.mk (HFal.out k hkL hbad)
          clear hbad b1 b2
          go_wp2_with fail
          go_quiet (fail)
          go_wp2_with fail
          go_ret2
          exact ⟨by rw [HBD.out.1, HBD.out.2]; rfl, pw_below_drewN HBW.out nq⟩
    · have g1 : decide ((k : Int) < (L : Int)) = false := decide_eq_false (by omega)
      have g2 : decide (k < L) = false := decide_eq_false hkL
      obtain rfl : L = k := by omega
      obtain ⟨hE1, hE2⟩ := HEnd.out HO.out
      have rng : ∀ i, i < L → ∃ z : Nat, rd P (i : Int) = (z : Nat) ∧ z < M := fun i hi => by
        have h1 := List.all_eq_true.1 HO.out i (List.mem_range.2 hi)
        unfold okK at h1
        rw [HMM.out] at h1
        simp only [Bool.and_eq_true, decide_eq_true_eq] at h1
        exact ⟨(rd P (i : Int)).toNat, by omega, by omega⟩
      obtain ⟨p, hp, hpM⟩ := rng 0 h0
      obtain ⟨z, hz, hzM⟩ := rng (L - 1) (by omega)
      have cP : ∀ i : Nat, i < L → wr.cell? (ad.add i) = some (.int .i64 (rd P (i : Int))) := fun i hi => by
        obtain ⟨ad', e, h⟩ := Kd.at_int HPw.out (i : Int) (by omega) (by rw [HL.out]; omega)
        cases e
        rw [Int.toNat_natCast] at h
        exact h
      have c0 : wr.cell? ad = some (.int .i64 (p : Nat)) := hp ▸ cP 0 h0
      obtain ⟨vp, hvp⟩ : ∃ v, bs.getD p 0 = v := ⟨_, rfl⟩
      have cb0 : wr.cell? ⟨gb, p, none⟩ = some (.int .u8 vp) := hvp ▸ byte_at (Kd.C_below HBr.out.row HBw.out) p (by rw [HMM.out]; exact hpM)
      have hbgP : bgP bs P = vp := by
        unfold bgP
        rw [show rd P 0 = (p : Int) from hp, Int.toNat_natCast, hvp]
      have hbgE : bgE n bs P = (decide (endK n p vp = 0) && decide (endK n z vp = n - 1)) := by
        unfold bgE
        rw [hbgP, HL.out, show rd P 0 = (p : Int) from hp, show rd P ((L - 1 : Nat) : Int) = (z : Int) from hz, Int.toNat_natCast, Int.toNat_natCast]
        rfl
      rw [hbgE] at hE1 hE2
      rw [hbgP] at hE1
      have hpl : vp = 120 ∨ vp = 111 := by rw [← hvp, ← HBS.out]; exact HF.out p (by rw [HMM.out]; exact hpM)
      have HE1 := Aside0.mk hE1
      have HE2 := Aside0.mk hE2
      obtain ⟨l, hl⟩ : ∃ l, L = l + 1 := ⟨L - 1, by omega⟩
      obtain ⟨e1, e2, e3⟩ := wrap_sub1 hl (by omega)
      have hLl : L - 1 = l := by omega
      rw [hLl] at hz
      have HCZ := Aside0.mk (hz ▸ cP l (by omega))
      have u0 : (0 : Int) ≤ (p : Int) := by omega
      have u1 : (p : Int) < (M : Int) := by omega
      have u2 : (0 : Int) ≤ (l : Int) := by omega
      have u3 : (l : Int) < (L : Int) := by omega
      have u4 : (0 : Int) < (L : Int) := by omega
      clear hE1 hE2 rng cP hp hz hvp hbgP hbgE hl hLl
      go_wp2_with fail
      go_quiet (fail)
      have HBn := Aside0.mk (pw_below_drewN HBW.out nq)
      have HBwn := Aside0.mk (pw_below_drewN HBw.out nq)
      have HBrn := Aside0.mk (HBr.out.later HBwn.out)
      have c0n : (wr.drewN nq).cell? ad = some (.int .i64 (p : Nat)) := c0
      have HCZn := Aside0.mk (show (wr.drewN nq).cell? (ad.add l) = some (.int .i64 (z : Nat)) from HCZ.out)
      have HEa := Aside0.mk (ends_any g n p (.slice (some ⟨gb, 0, none⟩) (n * n) cb) vp (wr.drewN nq) n1' n11' (by rw [HMM.out]; exact hpM) HBrn.out.hd)
      generalize wr.drewN nq = w2 at *
      go_wp2_with fail
      refine HEa.out.mono ?_
      rintro e w3 ⟨rfl, hb3⟩
      have HB3 := Aside0.mk (below_then HBn.out HBn.out.size hb3)
      have cz : w3.cell? (ad.add l) = some (.int .i64 (z : Nat)) := pw_cell_below hb3 HCZn.out
      have HEb := Aside0.mk (ends_any g n z (.slice (some ⟨gb, 0, none⟩) (n * n) cb) vp w3 n1' n11' (by rw [HMM.out]; exact hzM) (HBrn.out.hd.later hb3))
      clear hb3 HEa
      go_wp2_with fail
      refine HEb.out.mono ?_
      rintro e w4 ⟨rfl, hb4⟩
      have HB4 := Aside0.mk (below_then HB3.out HB3.out.size hb4)
      clear hb4 HEb cz
      cases hd1 : decide (endK n p vp = 0)
      · rw [hd1] at HE2
        have HR := Aside0.mk (HE2.out rfl)
        clear hd1
        go_wp2_with fail
        go_ret2
        exact ⟨by rw [HR.out.1, HR.out.2]; rfl, HB4.out⟩
      · cases hd2 : decide (endK n z vp = n - 1)
        · rw [hd2] at HE2
          have HR := Aside0.mk (HE2.out (by simp))
          clear hd1 hd2
          go_wp2_with fail
          go_ret2
          exact ⟨by rw [HR.out.1, HR.out.2]; rfl, HB4.out⟩
        · rw [hd1, hd2] at HE1
          have HR := Aside0.mk (HE1.out rfl)
          clear hd1 hd2
          rcases hpl with rfl | rfl
          · go_wp2_with fail
            go_ret2
            exact ⟨by rw [HR.out.1, HR.out.2]; rfl, HB4.out⟩
          · go_wp2_with fail
            go_ret2
            exact ⟨by rw [HR.out.1, HR.out.2]; rfl, HB4.out⟩
end Go.Proofs.YtlmgkmmdaecpdaaDoor.Im

namespace Go.Proofs.YtlmgkmmdaecpdaaDoor.Im
open Go.RowKit Go.Proofs.YtlmgkmmdaecpdaaDoorW.PrintWords Go.Proofs.YtlmgkmmdaecpdaaDoorW.PrintLast Go.Proofs.YtlmgkmmdaecpdaaDoorW.PrintMore Go.Proofs.YtlmgkmmdaecpdaaDoor.Mi
set_option linter.unusedVariables false
set_option linter.unusedSimpArgs false
set_option maxHeartbeats 3200000 in
set_option maxRecDepth 100000 in
theorem pbridge_err (n : Int) (s : ByteArray) (A : Option Addr) (k c : Nat) (w : World) (hs : s.size ≤ 9223372036854775807) (E : Int) (hE : boE n s xoB = E) (h0 : E ≠ 0) :
    Calls Tryd.prog 34 #[.int .i64 n, .string s, .slice A k c] w fun e w' => e = .returned (.tuple #[.string ⟨#[]⟩, .int .i64 E]) ∧ Below w.heap.size w w' := by
  have HBo := Aside0.mk (boarded_any n s xoB w hs (by decide) (by decide))
  have HE := Aside0.mk hE
  have H0 := Aside0.mk h0
  have q0 : (E == 0) = false := beq_eq_false_iff_ne.2 h0
  unfold xoB at HBo
  clear hE h0 hs
  go_enter Tryd.func34, Tryd.ntmps34
  go_wp2_with fail
  refine HBo.out.mono ?_
  rintro e w1 ⟨hb1, h1⟩
  rw [show boE n s ⟨#[120, 111]⟩ = E from HE.out, if_neg H0.out] at h1
  subst h1
  have HB1 := Aside0.mk hb1
  clear hb1 HBo
  go_wp2_with fail
  go_ret2
  exact ⟨rfl, HB1.out⟩
set_option maxHeartbeats 3200000 in
set_option maxRecDepth 100000 in
theorem pbridge_long (n : Nat) (s : ByteArray) (A : Option Addr) (L c : Nat) (w : World) (hs : s.size ≤ 9223372036854775807) (hE : boE n s xoB = 0) (hL : L = 0 ∨ n * n < L) :
    Calls Tryd.prog 34 #[.int .i64 n, .string s, .slice A L c] w fun e w' => e = .returned (.tuple #[.string ⟨#[]⟩, .int .i64 2]) ∧ Below w.heap.size w w' := by
  have HBo := Aside0.mk (boarded_any n s xoB w hs (by decide) (by decide))
  have HE := Aside0.mk hE
  unfold xoB at HBo
  clear hE hs
  obtain ⟨M, hM⟩ : ∃ M, n * n = M := ⟨_, rfl⟩
  rw [hM] at hL
  have HM := Aside0.mk hM
  clear hM
  rcases hL with rfl | hL
  · go_enter Tryd.func34, Tryd.ntmps34
    go_wp2_with fail
    refine HBo.out.mono ?_
    rintro e w1 ⟨hb1, h1⟩
    rw [if_pos (show boE (n : Int) s ⟨#[120, 111]⟩ = 0 from HE.out)] at h1
    obtain ⟨g, gb, cb, rfl, hbr, _, _, _⟩ := h1
    have HB1 := Aside0.mk hb1
    clear hb1 HBo hbr
    go_wp2_with fail
    go_ret2
    exact ⟨rfl, HB1.out⟩
  · have l0 : ((L : Int) == 0) = false := beq_eq_false_iff_ne.2 (by omega)
    have l1 : decide ((M : Int) < (L : Int)) = true := decide_eq_true (by omega)
    have l2 : decide (M < L) = true := decide_eq_true hL
    clear hL
    go_enter Tryd.func34, Tryd.ntmps34
    go_wp2_with fail
    refine HBo.out.mono ?_
    rintro e w1 ⟨hb1, h1⟩
    rw [if_pos (show boE (n : Int) s ⟨#[120, 111]⟩ = 0 from HE.out), Int.toNat_natCast] at h1
    obtain ⟨g, gb, cb, rfl, hbr, _, _, _⟩ := h1
    have hh1 : w1.cell? ⟨g, 1, none⟩ = some (.slice (some ⟨gb, 0, none⟩) M cb) := HM.out ▸ hbr.hd.cell 1
    have HB1 := Aside0.mk hb1
    clear hb1 HBo hbr
    go_wp2_with fail
    go_ret2
    exact ⟨rfl, HB1.out⟩
theorem bridge_call (n : Int) (s : ByteArray) (P : List Int) (A : Option Addr) (c : Nat) (w : World) (hst : Steps w) (hs : s.size ≤ 9223372036854775807) (hP : Kd.C (Kd.int .i64) w A P.length P) (hc : P.length ≤ c) :
    Calls Tryd.prog 34 #[.int .i64 n, .string s, .slice A P.length c] w fun e w' => e = .returned (.tuple #[.string (bgR n s P).1, .int .i64 (bgR n s P).2]) ∧ Below w.heap.size w w' := by
  by_cases hE : boE n s xoB = 0
  · have hok := boE_ok hE
    obtain ⟨m, rfl⟩ : ∃ m : Nat, n = m := ⟨n.toNat, by omega⟩
    rw [Int.toNat_natCast] at hok
    by_cases hl : P.length = 0 ∨ m * m < P.length
    · have hb : bgB m (bsOf s) P = false := by
        unfold bgB
        rcases hl with h | h
        · rw [decide_eq_false (by omega)]; rfl
        · rw [decide_eq_false (by omega : ¬ P.length ≤ m * m), Bool.and_false]; rfl
      have e : bgR m s P = (⟨#[]⟩, 2) := by unfold bgR; rw [if_pos hE, Int.toNat_natCast, hb]; rfl
      rw [e]
      exact pbridge_long m s A P.length c w hs hE hl
    · have e1 : (bgR m s P).1 = (if bgB m (bsOf s) P then strP (bgP (bsOf s) P) else ⟨#[]⟩) := by
        unfold bgR
        rw [if_pos hE, Int.toNat_natCast]
        split <;> rfl
      have e2 : (bgR m s P).2 = (if bgB m (bsOf s) P then 0 else 2) := by
        unfold bgR
        rw [if_pos hE, Int.toNat_natCast]
        split <;> rfl
      rw [e1, e2]
      exact pbridge_good m s P A c w hst hs hE hP hc (by omega) (by omega)
  · have e : bgR n s P = (⟨#[]⟩, boE n s xoB) := by unfold bgR; rw [if_neg hE]
    rw [e]
    exact pbridge_err n s A P.length c w hs _ rfl hE
end Go.Proofs.YtlmgkmmdaecpdaaDoor.Im

namespace Go.Proofs.YtlmgkmmdaecpdaaDoor.Im
open Go.RowKit Go.Proofs.YtlmgkmmdaecpdaaDoorW.PrintWords Go.Proofs.YtlmgkmmdaecpdaaDoorW.PrintLast Go.Proofs.YtlmgkmmdaecpdaaDoorW.PrintMore Go.Proofs.YtlmgkmmdaecpdaaDoor.Mi
set_option linter.unusedVariables false
set_option linter.unusedSimpArgs false
set_option maxHeartbeats 6400000 in
set_option maxRecDepth 100000 in
theorem law_hex (n : Int) (s : ByteArray) (A : Option Addr) (c : Nat) (P : List Int) (w : World) (hst : Steps w) (mL : Int) (hm : w.cell? ⟨1, 0, none⟩ = some (.int .i64 mL)) (hss : s.size ≤ 9223372036854775807) (hP : Kd.C (Kd.int .i64) w A P.length P) (hc : P.length ≤ c) :
    Calls Tryd.prog 11 #[.int .i64 n, .string s, .slice A P.length c] w fun e w' => e = .returned (.bool true) ∧ Below w.heap.size w w' := by
  have HE := Aside0.mk (Env.mk hst hm)
  have HB0 := Aside0.mk (Below.refl w.heap.size w)
  have HP := Aside0.mk hP
  have HC := Aside0.mk hc
  clear hst hm hP
  obtain ⟨L, hL⟩ : ∃ L, P.length = L := ⟨_, rfl⟩
  have HL := Aside0.mk hL
  rw [hL] at hc ⊢
  clear hL
  by_cases h1 : 200 < s.size
  · have t1 : decide (200 < (s.size : Int)) = true := decide_eq_true (by omega)
    have t2 : decide (200 < s.size) = true := decide_eq_true h1
    clear h1
    go_enter Tryd.func11, Tryd.ntmps11
    go_wp2_with fail
    refine (alive_env (HE.out.later HB0.out rfl)).mono ?_
    rintro e w1 ⟨rfl, hb1⟩
    have HB1 := Aside0.mk (below_then HB0.out HB0.out.size hb1)
    clear hb1 HB0
    go_wp2_with fail
    go_ret
    exact ⟨rfl, HB1.out⟩
  have t1 : decide (200 < (s.size : Int)) = false := decide_eq_false (by omega)
  have t2 : decide (200 < s.size) = false := decide_eq_false h1
  by_cases h2 : 200 < L
  · have t3 : decide (200 < (L : Int)) = true := decide_eq_true (by omega)
    have t4 : decide (200 < L) = true := decide_eq_true h2
    clear h1 h2
    go_enter Tryd.func11, Tryd.ntmps11
    go_wp2_with fail
    refine (alive_env (HE.out.later HB0.out rfl)).mono ?_
    rintro e w1 ⟨rfl, hb1⟩
    have HB1 := Aside0.mk (below_then HB0.out HB0.out.size hb1)
    clear hb1 HB0
    go_wp2_with fail
    go_ret
    exact ⟨rfl, HB1.out⟩
  have t3 : decide (200 < (L : Int)) = false := decide_eq_false (by omega)
  have t4 : decide (200 < L) = false := decide_eq_false h2
  have HBd := Aside0.mk (fun (w1 : World) => board_any n s false w1 (by omega))
  obtain ⟨E, hE⟩ : ∃ E, boE n s (csB false) = E := ⟨_, rfl⟩
  rw [hE] at HBd
  have hL200 : L ≤ 200 := by omega
  by_cases h0 : E = 0
  · subst h0
    have hE' : boE n s xoB = 0 := hE
    have hok := boE_ok hE'
    obtain ⟨m, rfl⟩ : ∃ m : Nat, n = m := ⟨n.toNat, by omega⟩
    rw [Int.toNat_natCast] at hok
    have hf : ∀ a, a < m * m → (bsOf s).getD a 0 = 120 ∨ (bsOf s).getD a 0 = 111 := fun a ha => full_byte hE' (by omega)
    have hn : 0 < m := by omega
    have HX := Aside0.mk (fun (G : List Nat) (hG : brO m (bsOf s) (winB m (bsOf s)) = some G) => hex_plain hn hf hG)
    have hw : winB m (bsOf s) = 120 ∨ winB m (bsOf s) = 111 := by
      rcases full_one hn hf with ⟨_, _, h⟩ | ⟨_, _, h⟩
      · exact .inl h
      · exact .inr h
    obtain ⟨p, hp⟩ : ∃ p, winB m (bsOf s) = p := ⟨_, rfl⟩
    have HW := Aside0.mk (fun (w1 : World) (h : Env w1 mL) => winner_env h m s hss hE' p hp)
    have HBr := Aside0.mk (fun (Q : List Int) (A : Option Addr) (c : Nat) (w1 : World) (h : Env w1 mL) (hQ : Kd.C (Kd.int .i64) w1 A Q.length Q) (hc : Q.length ≤ c) => bridge_call m s Q A c w1 h.st hss hQ hc)
    have HR := Aside0.mk (fun (Q : List Int) => (show bgR m s Q = if bgB m (bsOf s) Q then (strP (bgP (bsOf s) Q), 0) else (⟨#[]⟩, 2) from by unfold bgR; rw [if_pos hE', Int.toNat_natCast]))
    rw [hp] at HX hw
    simp only [Int.toNat_natCast] at HW
    clear hE hE' hok hf hn hp h1 h2
    rcases hw with rfl | rfl
    · rw [show strP 120 = ⟨#[120]⟩ from rfl] at HW
      go_enter Tryd.func11, Tryd.ntmps11
      go_wp2_with fail
      refine (HW.out w HE.out).mono ?_
      rintro e w1 ⟨G, A1, c1, rfl, hG, hR1, hb1⟩
      obtain ⟨x1, x2, x3⟩ := HX.out G hG
      obtain ⟨_, _, hC1⟩ := Kd.R_reads' hR1
      obtain ⟨_, hl1, _⟩ := Kd.R_reads' hR1
      have hr1 := HR.out (ints G)
      rw [x1, if_pos rfl, x2, show strP 120 = ⟨#[120]⟩ from rfl] at hr1
      have HX3 := Aside0.mk x3
      have HRG := Aside0.mk hr1
      have HG1 := Aside0.mk hC1
      have HB1 := Aside0.mk hb1
      obtain ⟨K, hK⟩ : ∃ K, G.length = K := ⟨_, rfl⟩
      have HnG := Aside0.mk (show (ints G).length = K from by rw [ints_len, hK])
      have HLc := Aside0.mk (show (ints G).length ≤ c1 from by rw [ints_len]; exact hl1)
      rw [hK] at HX3 ⊢
      clear hG hR1 x1 x2 x3 hl1 hC1 hr1 hb1 HX HW hK
      go_wp2_with fail
      refine (HBd.out w1).mono ?_
      rintro e w2 ⟨rfl, hb2⟩
      have HB2 := Aside0.mk (below_then HB1.out HB1.out.size hb2)
      have HG2 := Aside0.mk (Kd.C_below HG1.out hb2)
      clear hb2 HB1 HG1
      have hbr := HBr.out (ints G) (some A1) c1 w2 (HE.out.later HB2.out rfl) HG2.out HLc.out
      rw [HRG.out, HnG.out] at hbr
      have HBR := Aside0.mk hbr
      clear hbr
      go_wp2_with fail
      refine (HBR.out).mono ?_
      rintro e w3 ⟨rfl, hb3⟩
      have HB3 := Aside0.mk (below_then HB2.out HB2.out.size hb3)
      have HG3 := Aside0.mk (Kd.C_below HG2.out hb3)
      clear hb3 HB2 HG2
      have hbq := HBr.out P A c w3 (HE.out.later HB3.out rfl) (Kd.C_below HP.out HB3.out) HC.out
      rw [HR.out P, HL.out] at hbq
      cases hok : bgB m (bsOf s) P
      · rw [hok, if_neg (by decide)] at hbq
        have HBQ := Aside0.mk hbq
        clear hbq hok
        go_wp2_with fail
        refine (HBQ.out).mono ?_
        rintro e w4 ⟨rfl, hb4⟩
        have HB4 := Aside0.mk (below_then HB3.out HB3.out.size hb4)
        have HG4 := Aside0.mk (Kd.C_below HG3.out hb4)
        clear hb4 HB3 HG3
        go_wp2_with fail
        refine (alive_env (HE.out.later HB4.out rfl)).mono ?_
        rintro e w5 ⟨rfl, hb5⟩
        have HB5 := Aside0.mk (below_then HB4.out HB4.out.size hb5)
        clear hb5 HB4
        go_wp2_with fail
        go_ret
        exact ⟨rfl, HB5.out⟩
      · obtain ⟨y1, y2, y3⟩ := HX3.out P hok
        rw [hok, if_pos rfl, y1, show strP 120 = ⟨#[120]⟩ from rfl] at hbq
        rw [HL.out] at y2 y3
        have HBQ := Aside0.mk hbq
        have HY := Aside0.mk y3
        have d1 : decide ((L : Int) < (K : Int)) = false := decide_eq_false (by omega)
        have d2 : decide (L < K) = false := decide_eq_false (by omega)
        have hK200 : K ≤ 200 := by omega
        clear hbq hok y1 y2 y3
        go_wp2_with fail
        refine (HBQ.out).mono ?_
        rintro e w4 ⟨rfl, hb4⟩
        have HB4 := Aside0.mk (below_then HB3.out HB3.out.size hb4)
        have HG4 := Aside0.mk (Kd.C_below HG3.out hb4)
        clear hb4 HB3 HG3
        have HP4 := Aside0.mk (Kd.C_below HP.out HB4.out)
        by_cases hKL : K = L
        · have e1 : ((L : Int) == (K : Int)) = true := beq_iff_eq.2 (by omega)
          have e2 : ∀ i : Nat, i < K → (∀ j : Nat, j < i → rd P (j : Int) = rd (ints G) (j : Int)) → rd (ints G) (i : Int) ≤ rd P (i : Int) := HY.out hKL
          have HY2 := Aside0.mk e2
          have HKL := Aside0.mk hKL
          clear e2 hKL
          go_wp2_with fail
          go_loopw [14] (fun v14 wr => ∃ i : Nat, i ≤ K ∧ v14 = .int .i64 (i : Int) ∧ Aside0 (∀ j : Nat, j < i → rd P (j : Int) = rd (ints G) (j : Int)) ∧ Aside0 (Below w4.heap.size w4 wr)) (fun v _ => K - (intOf v).toNat)
          case atStart => exact ⟨0, Nat.zero_le _, rfl, ⟨fun j hj => absurd hj (by omega)⟩, ⟨Below.refl _ _⟩⟩
          case round =>
            obtain ⟨i, hi, rfl, HJ, HBw⟩ := hrel
            have HBW := Aside0.mk (below_then HB4.out HB4.out.size HBw.out)
            by_cases hiK : i < K
            · have g1 : decide ((i : Int) < (K : Int)) = true := decide_eq_true (by omega)
              have g2 : decide (i < K) = true := decide_eq_true hiK
              have hPw := Kd.C_below HP4.out HBw.out
              have hGw := Kd.C_below HG4.out HBw.out
              obtain ⟨ad, eA, ci⟩ := Kd.at_int hPw (i : Int) (by omega) (by rw [HL.out, ← HKL.out]; omega)
              obtain ⟨ag, eG, cg⟩ := Kd.at_int hGw (i : Int) (by omega) (by rw [HnG.out]; omega)
              subst eA
              cases eG
              rw [Int.toNat_natCast] at ci cg
              have hle := HY2.out i hiK HJ.out
              obtain ⟨x, hx⟩ : ∃ x, rd P (i : Int) = x := ⟨_, rfl⟩
              obtain ⟨z, hz⟩ : ∃ z, rd (ints G) (i : Int) = z := ⟨_, rfl⟩
              rw [hx] at ci hle
              rw [hz] at cg hle
              have HXZ : Aside0 (x = z → ∀ j : Nat, j < i + 1 → rd P (j : Int) = rd (ints G) (j : Int)) := ⟨fun e j hj => by
                rcases Nat.lt_or_ge j i with h | h
                · exact HJ.out j h
                · obtain rfl : j = i := by omega
                  rw [hx, hz, e]⟩
              have u0 : (0 : Int) ≤ (i : Int) := by omega
              have u1 : (i : Int) < (K : Int) := by omega
              have u2 : (i : Int) < (L : Int) := by rw [← HKL.out]; exact u1
              clear hPw hGw hx hz
              by_cases hxz : x = z
              · have q1 : (x == z) = true := beq_iff_eq.2 hxz
                have HN := Aside0.mk (HXZ.out hxz)
                clear hxz hle HXZ
                go_wp2_with fail
                go_quiet (fail)
                go_wp2_with fail
                go_roundw
                case rel => exact ⟨i + 1, hiK, by go_num, HN, ⟨pw_below_drewN HBw.out nq⟩⟩
                case measure => simp [intOf]; omega
              · have q1 : (x == z) = false := beq_eq_false_iff_ne.2 hxz
                have q2 : decide (z < x) = true := decide_eq_true (by omega)
                clear hxz hle HXZ
                go_wp2_with fail
                go_quiet (fail)
                have HBq := Aside0.mk (pw_below_drewN HBW.out nq)
                have ci' : (wr.drewN nq).cell? (ad.add i) = some (.int .i64 x) := ci
                have cg' : (wr.drewN nq).cell? (A1.add i) = some (.int .i64 z) := cg
                generalize wr.drewN nq = w5 at *
                go_wp2_with fail
                go_upto_region 18 with fail
                go_still_tail 10, (by kernel_rfl)
                go_wp2_with fail
                refine (alive_env (HE.out.later (below_drew HBq.out) rfl)).mono ?_
                rintro e w6 ⟨rfl, hb6⟩
                have HB6 := Aside0.mk (below_then (below_drew HBq.out) (below_drew HBq.out).size hb6)
                clear hb6
                go_wp2_with fail
                go_ret
                exact ⟨rfl, HB6.out⟩
            · have g1 : decide ((i : Int) < (K : Int)) = false := decide_eq_false (by omega)
              have g2 : decide (i < K) = false := decide_eq_false hiK
              go_wp2_with fail
              refine (alive_env (HE.out.later (HBW.out) rfl)).mono ?_
              rintro e w6 ⟨rfl, hb6⟩
              have HB6 := Aside0.mk (below_then (HBW.out) (HBW.out).size hb6)
              clear hb6
              go_wp2_with fail
              go_ret
              exact ⟨rfl, HB6.out⟩
        · have e1 : ((L : Int) == (K : Int)) = false := beq_eq_false_iff_ne.2 (by omega)
          clear hKL
          obtain ⟨bz, hbz⟩ : ∃ b, decide ((0 : Int) < (K : Int)) = b := ⟨_, rfl⟩
          have hbz2 : decide (0 < K) = bz := by rw [← hbz]; exact decide_eq_decide.2 (by omega)
          go_wp2_with fail
          go_loopw [14] (fun v14 wr => v14 = .int .i64 0 ∧ Aside0 (Below w4.heap.size w4 wr)) (fun _ _ => 0)
          case atStart => exact ⟨rfl, ⟨Below.refl _ _⟩⟩
          case round =>
            obtain ⟨rfl, HBw⟩ := hrel
            have HBW := Aside0.mk (below_then HB4.out HB4.out.size HBw.out)
            cases bz
            · go_wp2_with fail
              refine (alive_env (HE.out.later (HBW.out) rfl)).mono ?_
              rintro e w6 ⟨rfl, hb6⟩
              have HB6 := Aside0.mk (below_then (HBW.out) (HBW.out).size hb6)
              clear hb6
              go_wp2_with fail
              go_ret
              exact ⟨rfl, HB6.out⟩
            · go_wp2_with fail
              refine (alive_env (HE.out.later (HBW.out) rfl)).mono ?_
              rintro e w6 ⟨rfl, hb6⟩
              have HB6 := Aside0.mk (below_then (HBW.out) (HBW.out).size hb6)
              clear hb6
              go_wp2_with fail
              go_ret
              exact ⟨rfl, HB6.out⟩
    · rw [show strP 111 = ⟨#[111]⟩ from rfl] at HW
      go_enter Tryd.func11, Tryd.ntmps11
      go_wp2_with fail
      refine (HW.out w HE.out).mono ?_
      rintro e w1 ⟨G, A1, c1, rfl, hG, hR1, hb1⟩
      obtain ⟨x1, x2, x3⟩ := HX.out G hG
      obtain ⟨_, _, hC1⟩ := Kd.R_reads' hR1
      obtain ⟨_, hl1, _⟩ := Kd.R_reads' hR1
      have hr1 := HR.out (ints G)
      rw [x1, if_pos rfl, x2, show strP 111 = ⟨#[111]⟩ from rfl] at hr1
      have HX3 := Aside0.mk x3
      have HRG := Aside0.mk hr1
      have HG1 := Aside0.mk hC1
      have HB1 := Aside0.mk hb1
      obtain ⟨K, hK⟩ : ∃ K, G.length = K := ⟨_, rfl⟩
      have HnG := Aside0.mk (show (ints G).length = K from by rw [ints_len, hK])
      have HLc := Aside0.mk (show (ints G).length ≤ c1 from by rw [ints_len]; exact hl1)
      rw [hK] at HX3 ⊢
      clear hG hR1 x1 x2 x3 hl1 hC1 hr1 hb1 HX HW hK
      go_wp2_with fail
      refine (HBd.out w1).mono ?_
      rintro e w2 ⟨rfl, hb2⟩
      have HB2 := Aside0.mk (below_then HB1.out HB1.out.size hb2)
      have HG2 := Aside0.mk (Kd.C_below HG1.out hb2)
      clear hb2 HB1 HG1
      have hbr := HBr.out (ints G) (some A1) c1 w2 (HE.out.later HB2.out rfl) HG2.out HLc.out
      rw [HRG.out, HnG.out] at hbr
      have HBR := Aside0.mk hbr
      clear hbr
      go_wp2_with fail
      refine (HBR.out).mono ?_
      rintro e w3 ⟨rfl, hb3⟩
      have HB3 := Aside0.mk (below_then HB2.out HB2.out.size hb3)
      have HG3 := Aside0.mk (Kd.C_below HG2.out hb3)
      clear hb3 HB2 HG2
      have hbq := HBr.out P A c w3 (HE.out.later HB3.out rfl) (Kd.C_below HP.out HB3.out) HC.out
      rw [HR.out P, HL.out] at hbq
      cases hok : bgB m (bsOf s) P
      · rw [hok, if_neg (by decide)] at hbq
        have HBQ := Aside0.mk hbq
        clear hbq hok
        go_wp2_with fail
        refine (HBQ.out).mono ?_
        rintro e w4 ⟨rfl, hb4⟩
        have HB4 := Aside0.mk (below_then HB3.out HB3.out.size hb4)
        have HG4 := Aside0.mk (Kd.C_below HG3.out hb4)
        clear hb4 HB3 HG3
        go_wp2_with fail
        refine (alive_env (HE.out.later HB4.out rfl)).mono ?_
        rintro e w5 ⟨rfl, hb5⟩
        have HB5 := Aside0.mk (below_then HB4.out HB4.out.size hb5)
        clear hb5 HB4
        go_wp2_with fail
        go_ret
        exact ⟨rfl, HB5.out⟩
      · obtain ⟨y1, y2, y3⟩ := HX3.out P hok
        rw [hok, if_pos rfl, y1, show strP 111 = ⟨#[111]⟩ from rfl] at hbq
        rw [HL.out] at y2 y3
        have HBQ := Aside0.mk hbq
        have HY := Aside0.mk y3
        have d1 : decide ((L : Int) < (K : Int)) = false := decide_eq_false (by omega)
        have d2 : decide (L < K) = false := decide_eq_false (by omega)
        have hK200 : K ≤ 200 := by omega
        clear hbq hok y1 y2 y3
        go_wp2_with fail
        refine (HBQ.out).mono ?_
        rintro e w4 ⟨rfl, hb4⟩
        have HB4 := Aside0.mk (below_then HB3.out HB3.out.size hb4)
        have HG4 := Aside0.mk (Kd.C_below HG3.out hb4)
        clear hb4 HB3 HG3
        have HP4 := Aside0.mk (Kd.C_below HP.out HB4.out)
        by_cases hKL : K = L
        · have e1 : ((L : Int) == (K : Int)) = true := beq_iff_eq.2 (by omega)
          have e2 : ∀ i : Nat, i < K → (∀ j : Nat, j < i → rd P (j : Int) = rd (ints G) (j : Int)) → rd (ints G) (i : Int) ≤ rd P (i : Int) := HY.out hKL
          have HY2 := Aside0.mk e2
          have HKL := Aside0.mk hKL
          clear e2 hKL
          go_wp2_with fail
          go_loopw [14] (fun v14 wr => ∃ i : Nat, i ≤ K ∧ v14 = .int .i64 (i : Int) ∧ Aside0 (∀ j : Nat, j < i → rd P (j : Int) = rd (ints G) (j : Int)) ∧ Aside0 (Below w4.heap.size w4 wr)) (fun v _ => K - (intOf v).toNat)
          case atStart => exact ⟨0, Nat.zero_le _, rfl, ⟨fun j hj => absurd hj (by omega)⟩, ⟨Below.refl _ _⟩⟩
          case round =>
            obtain ⟨i, hi, rfl, HJ, HBw⟩ := hrel
            have HBW := Aside0.mk (below_then HB4.out HB4.out.size HBw.out)
            by_cases hiK : i < K
            · have g1 : decide ((i : Int) < (K : Int)) = true := decide_eq_true (by omega)
              have g2 : decide (i < K) = true := decide_eq_true hiK
              have hPw := Kd.C_below HP4.out HBw.out
              have hGw := Kd.C_below HG4.out HBw.out
              obtain ⟨ad, eA, ci⟩ := Kd.at_int hPw (i : Int) (by omega) (by rw [HL.out, ← HKL.out]; omega)
              obtain ⟨ag, eG, cg⟩ := Kd.at_int hGw (i : Int) (by omega) (by rw [HnG.out]; omega)
              subst eA
              cases eG
              rw [Int.toNat_natCast] at ci cg
              have hle := HY2.out i hiK HJ.out
              obtain ⟨x, hx⟩ : ∃ x, rd P (i : Int) = x := ⟨_, rfl⟩
              obtain ⟨z, hz⟩ : ∃ z, rd (ints G) (i : Int) = z := ⟨_, rfl⟩
              rw [hx] at ci hle
              rw [hz] at cg hle
              have HXZ : Aside0 (x = z → ∀ j : Nat, j < i + 1 → rd P (j : Int) = rd (ints G) (j : Int)) := ⟨fun e j hj => by
                rcases Nat.lt_or_ge j i with h | h
                · exact HJ.out j h
                · obtain rfl : j = i := by omega
                  rw [hx, hz, e]⟩
              have u0 : (0 : Int) ≤ (i : Int) := by omega
              have u1 : (i : Int) < (K : Int) := by omega
              have u2 : (i : Int) < (L : Int) := by rw [← HKL.out]; exact u1
              clear hPw hGw hx hz
              by_cases hxz : x = z
              · have q1 : (x == z) = true := beq_iff_eq.2 hxz
                have HN := Aside0.mk (HXZ.out hxz)
                clear hxz hle HXZ
                go_wp2_with fail
                go_quiet (fail)
                go_wp2_with fail
                go_roundw
                case rel => exact ⟨i + 1, hiK, by go_num, HN, ⟨pw_below_drewN HBw.out nq⟩⟩
                case measure => simp [intOf]; omega
              · have q1 : (x == z) = false := beq_eq_false_iff_ne.2 hxz
                have q2 : decide (z < x) = true := decide_eq_true (by omega)
                clear hxz hle HXZ
                go_wp2_with fail
                go_quiet (fail)
                have HBq := Aside0.mk (pw_below_drewN HBW.out nq)
                have ci' : (wr.drewN nq).cell? (ad.add i) = some (.int .i64 x) := ci
                have cg' : (wr.drewN nq).cell? (A1.add i) = some (.int .i64 z) := cg
                generalize wr.drewN nq = w5 at *
                go_wp2_with fail
                go_upto_region 18 with fail
                go_still_tail 10, (by kernel_rfl)
                go_wp2_with fail
                refine (alive_env (HE.out.later (below_drew HBq.out) rfl)).mono ?_
                rintro e w6 ⟨rfl, hb6⟩
                have HB6 := Aside0.mk (below_then (below_drew HBq.out) (below_drew HBq.out).size hb6)
                clear hb6
                go_wp2_with fail
                go_ret
                exact ⟨rfl, HB6.out⟩
            · have g1 : decide ((i : Int) < (K : Int)) = false := decide_eq_false (by omega)
              have g2 : decide (i < K) = false := decide_eq_false hiK
              go_wp2_with fail
              refine (alive_env (HE.out.later (HBW.out) rfl)).mono ?_
              rintro e w6 ⟨rfl, hb6⟩
              have HB6 := Aside0.mk (below_then (HBW.out) (HBW.out).size hb6)
              clear hb6
              go_wp2_with fail
              go_ret
              exact ⟨rfl, HB6.out⟩
        · have e1 : ((L : Int) == (K : Int)) = false := beq_eq_false_iff_ne.2 (by omega)
          clear hKL
          obtain ⟨bz, hbz⟩ : ∃ b, decide ((0 : Int) < (K : Int)) = b := ⟨_, rfl⟩
          have hbz2 : decide (0 < K) = bz := by rw [← hbz]; exact decide_eq_decide.2 (by omega)
          go_wp2_with fail
          go_loopw [14] (fun v14 wr => v14 = .int .i64 0 ∧ Aside0 (Below w4.heap.size w4 wr)) (fun _ _ => 0)
          case atStart => exact ⟨rfl, ⟨Below.refl _ _⟩⟩
          case round =>
            obtain ⟨rfl, HBw⟩ := hrel
            have HBW := Aside0.mk (below_then HB4.out HB4.out.size HBw.out)
            cases bz
            · go_wp2_with fail
              refine (alive_env (HE.out.later (HBW.out) rfl)).mono ?_
              rintro e w6 ⟨rfl, hb6⟩
              have HB6 := Aside0.mk (below_then (HBW.out) (HBW.out).size hb6)
              clear hb6
              go_wp2_with fail
              go_ret
              exact ⟨rfl, HB6.out⟩
            · go_wp2_with fail
              refine (alive_env (HE.out.later (HBW.out) rfl)).mono ?_
              rintro e w6 ⟨rfl, hb6⟩
              have HB6 := Aside0.mk (below_then (HBW.out) (HBW.out).size hb6)
              clear hb6
              go_wp2_with fail
              go_ret
              exact ⟨rfl, HB6.out⟩
  · have q0 : (E == 0) = false := beq_eq_false_iff_ne.2 h0
    have HW := Aside0.mk (fun (w1 : World) (h : Env w1 mL) => winner_bad h n s hss E hE h0)
    clear h0 hE h1 h2
    go_enter Tryd.func11, Tryd.ntmps11
    go_wp2_with fail
    refine (HW.out w HE.out).mono ?_
    rintro e w1 ⟨rfl, hb1⟩
    have HB1 := Aside0.mk (below_then HB0.out HB0.out.size hb1)
    clear hb1 HB0
    go_wp2_with fail
    refine (HBd.out w1).mono ?_
    rintro e w2 ⟨rfl, hb2⟩
    have HB2 := Aside0.mk (below_then HB1.out HB1.out.size hb2)
    clear hb2 HB1
    go_wp2_with fail
    refine (HBd.out w2).mono ?_
    rintro e w3 ⟨rfl, hb3⟩
    have HB3 := Aside0.mk (below_then HB2.out HB2.out.size hb3)
    clear hb3 HB2
    go_wp2_with fail
    refine (alive_env (HE.out.later HB3.out rfl)).mono ?_
    rintro e w4 ⟨rfl, hb4⟩
    have HB4 := Aside0.mk (below_then HB3.out HB3.out.size hb4)
    clear hb4 HB3
    go_wp2_with fail
    go_ret
    exact ⟨rfl, HB4.out⟩
end Go.Proofs.YtlmgkmmdaecpdaaDoor.Im

