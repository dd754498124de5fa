/- Further parts of the same walk: contracts of the functions that the law reaches, each under the conditions that it states. -/
import Derived.Test.YtlmgkmmdaecpdaaDoorC13L
namespace Go.Proofs.YtlmgkmmdaecpdaaDoor.Im
open Go.RowKit Go.Proofs.YtlmgkmmdaecpdaaDoorW.PrintWords Go.Proofs.YtlmgkmmdaecpdaaDoorW.PrintLast Go.Proofs.YtlmgkmmdaecpdaaDoorW.PrintMore
attribute [local go_sem] max2_int min2_int max_two min_two max_three min_three max_four min_four
set_option linter.unusedVariables false
set_option linter.unusedSimpArgs false
def pomadelaw04_flipped.l0 : Nat → Int → ByteArray → List Int → Int → Option (ByteArray)
  | 0, _, _, _, _ => none
  | k + 1, x0, x1, x5, x6 => if x6 < (x1.size : Int) then (if 0 ≤ x6 then (if (bt x1 x6) = 120 then (if x0 = 0 then (none) else (if 0 ≤ (wrap64 ((wrap64 ((Int.tmod x6 x0) * x0)) + (wrap64 (Int.tdiv x6 x0)))) then (if (wrap64 ((wrap64 ((Int.tmod x6 x0) * x0)) + (wrap64 (Int.tdiv x6 x0)))) < (x5.length : Int) then (pomadelaw04_flipped.l0 k x0 x1 (x5.set ((wrap64 ((wrap64 ((Int.tmod x6 x0) * x0)) + (wrap64 (Int.tdiv x6 x0)))) : Int).toNat 111) (wrap64 (x6 + 1))) else (none)) else (none))) else (if (bt x1 x6) = 111 then (if x0 = 0 then (none) else (if 0 ≤ (wrap64 ((wrap64 ((Int.tmod x6 x0) * x0)) + (wrap64 (Int.tdiv x6 x0)))) then (if (wrap64 ((wrap64 ((Int.tmod x6 x0) * x0)) + (wrap64 (Int.tdiv x6 x0)))) < (x5.length : Int) then (pomadelaw04_flipped.l0 k x0 x1 (x5.set ((wrap64 ((wrap64 ((Int.tmod x6 x0) * x0)) + (wrap64 (Int.tdiv x6 x0)))) : Int).toNat 120) (wrap64 (x6 + 1))) else (none)) else (none))) else (if x0 = 0 then (none) else (if 0 ≤ (wrap64 ((wrap64 ((Int.tmod x6 x0) * x0)) + (wrap64 (Int.tdiv x6 x0)))) then (if (wrap64 ((wrap64 ((Int.tmod x6 x0) * x0)) + (wrap64 (Int.tdiv x6 x0)))) < (x5.length : Int) then (pomadelaw04_flipped.l0 k x0 x1 (x5.set ((wrap64 ((wrap64 ((Int.tmod x6 x0) * x0)) + (wrap64 (Int.tdiv x6 x0)))) : Int).toNat (bt x1 x6)) (wrap64 (x6 + 1))) else (none)) else (none))))) else (none)) else (some (strOfNums x5))
def pomadelaw04_flipped.f (k : Nat) (a0 : Int) (a1 : ByteArray) : Option (ByteArray) := if 0 ≤ (a1.size : Int) then (if ((a1.size : Int) : Int).toNat ≤ 281474976710656 then (pomadelaw04_flipped.l0 k a0 a1 (List.replicate ((a1.size : Int) : Int).toNat 0) 0) else (none)) else (none)
theorem pomadelaw04_flipped.mono_l : ∀ k, (∀ y0 y1 y2 y3, LeO (pomadelaw04_flipped.l0 k y0 y1 y2 y3) (pomadelaw04_flipped.l0 (k + 1) y0 y1 y2 y3))
  | 0 => fun _ _ _ _ r h => by simp [pomadelaw04_flipped.l0] at h
  | k + 1 => by
    have ih0 := pomadelaw04_flipped.mono_l k
    · intro y0 y1 y2 y3
      unfold pomadelaw04_flipped.l0
      repeat' first
      | (with_reducible exact ih0 _ _ _ _)
      | (with_reducible exact LeO.refl _)
      | (with_reducible exact LeO.none _)
      | (with_reducible refine LeO.ite ?_ ?_)
      | (with_reducible refine LeO.bind ?_ (fun _ => ?_))
      | exact ih0 _ _ _ _
      | exact LeO.none _
      | refine LeO.ite ?_ ?_
      | refine LeO.bind ?_ (fun _ => ?_)
theorem pomadelaw04_flipped.mono : ∀ a0 a1 k, LeO (pomadelaw04_flipped.f k a0 a1) (pomadelaw04_flipped.f (k + 1) a0 a1) := by
  intro a0 a1 k
  have ih0 := pomadelaw04_flipped.mono_l k
  unfold pomadelaw04_flipped.f
  repeat' first
      | (with_reducible exact ih0 _ _ _ _)
      | (with_reducible exact LeO.refl _)
      | (with_reducible exact LeO.none _)
      | (with_reducible refine LeO.ite ?_ ?_)
      | (with_reducible refine LeO.bind ?_ (fun _ => ?_))
      | exact ih0 _ _ _ _
      | exact LeO.none _
      | refine LeO.ite ?_ ?_
      | refine LeO.bind ?_ (fun _ => ?_)
def pomadelaw04_flipped.T10 : Bool × List (List Nat × List Nat) := (true, [([], []), ([], []), ([], []), ([1, 2], [1, 2]), ([], []), ([3, 4], [3, 4]), ([], []), ([], []), ([6, 7], [6, 7]), ([5, 8], [5, 8]), ([], []), ([0, 9, 0, 1, 2, 3, 4, 5, 6, 7, 8, 9, 10], [0, 9]), ([11, 10, 0, 1, 2, 3, 4, 5, 6, 7, 8, 9, 10], [10, 11])])
def pomadelaw04_flipped.B10 : List Nat := [0, 0, 0, 6, 0, 30, 0, 0, 192, 510, 0, 2047, 4095]
theorem pomadelaw04_flipped.tab10 : rtab .any (opsOf Tryd.f23 10) = pomadelaw04_flipped.T10 := by kernel_rfl
theorem pomadelaw04_flipped.bits10 : waitsOk pomadelaw04_flipped.T10.2 pomadelaw04_flipped.B10 = true := by kernel_rfl
set_option maxHeartbeats 8000000 in
set_option maxRecDepth 100000 in
theorem pomadelaw04_flipped.calls (k : Nat) (a0 : Int) (a1 : ByteArray) (r : ByteArray) (w : World) (h : pomadelaw04_flipped.f k a0 a1 = some r) :
    Calls Tryd.prog 23 #[.int .i64 a0, .string a1] w fun e w' => e = .returned (.string r) ∧ Below w.heap.size w w' := by
  have HB := Aside0.mk (Below.refl w.heap.size w)
  have H : (if 0 ≤ (a1.size : Int) then (if ((a1.size : Int) : Int).toNat ≤ 281474976710656 then (pomadelaw04_flipped.l0 k a0 a1 (List.replicate ((a1.size : Int) : Int).toNat 0) 0) else (none)) else (none)) = some r := h
  clear h
  by_cases c3 : 0 ≤ (a1.size : Int)
  · rw [if_pos c3] at H
    have c3b0 := eq_true c3
    have c3b1 : decide (0 ≤ (a1.size : Int)) = true := decide_eq_true c3
    clear c3
    by_cases c4 : ((a1.size : Int) : Int).toNat ≤ 281474976710656
    · rw [if_pos c4] at H
      have c4b0 := eq_true c4
      have c4b1 : decide (((a1.size : Int) : Int).toNat ≤ 281474976710656) = true := decide_eq_true c4
      clear c4
      obtain ⟨y234, hy234⟩ : ∃ y_ : List Int, y_ = (List.replicate ((a1.size : Int) : Int).toNat 0) := ⟨_, rfl⟩
      replace H : (pomadelaw04_flipped.l0 k a0 a1 y234 0) = some r := by first | (rw [hy234]; with_reducible exact H) | (have H2_ := (Option.bind_some _ _).symm.trans H; rw [hy234]; with_reducible exact H2_) | (have H2_ := (Option.bind_some _ _).symm.trans H; with_reducible exact H2_) | with_reducible exact H | (rw [hy234]; exact H) | exact H
      have Ny234 := Aside0.mk hy234
      clear hy234
      have H' := Aside0.mk H
      clear H
      go_enter Tryd.func23, Tryd.ntmps23
      go_wp2_with (first | ((with_reducible refine gate_dst (N := 10) rfl ?_); refine Kd.R_make (Kd.int .u8) _ 5 rfl (N := 10) rfl 60 _ _ rfl (a1.size : Int) rfl rfl Tryd.underlying60 (.int .u8 0) 1 info5 rfl (by decide) (by omega) 0 (ok := fun _ => True) (okp := fun _ => True) rfl (fun _ hk => hk) trivial (of_decide_eq_true (by first | (with_reducible assumption) | assumption)) (Nat.le_trans (Nat.mul_le_mul_right _ (of_decide_eq_true (by first | (with_reducible assumption) | assumption) : (a1.size : Int).toNat ≤ 281474976710656)) (by omega)) (Below.refl _ _) (Nat.le_refl _) ?_; intro v235 w5 ho6 hb hg_ hnew_; clear hg_ hnew_; (first | rw [← Ny234.out] at ho6 | (simp only [Int.reduceToNat] at ho6; rw [← Ny234.out] at ho6)); have n0_ := Aside0.mk (Kd.R_lower ho6 (below_size (by repeat (first | (with_reducible first | exact HB.out | apply below_alloc | apply pw_below_drewN | apply below_drew1) | exact HB.out)))); have n1_ := Aside0.mk (below_step (by repeat (first | (with_reducible first | exact HB.out | apply below_alloc | apply pw_below_drewN | apply below_drew1) | exact HB.out)) hb); clear HB; have HO236 := n0_; have HB := n1_; clear n0_ n1_; clear hb ho6))
      go_loopg [6] k (fun kq v6 w' => ∃ (x5_1 : List Int) (x6_1 : Int), v6 = .int .i64 x6_1 ∧ Aside0 (pomadelaw04_flipped.l0 kq a0 a1 x5_1 x6_1 = some r) ∧ Aside0 (kq ≤ k) ∧ Aside0 (Kd.R (Kd.int .u8) 5 w' w.heap.size (fun _ => True) v235 x5_1) ∧ Aside0 (Below w.heap.size w w'))
      case atStart => exact ⟨(y234), (0), (by first | rfl | (simp; done) | (simp [*]; done)), H', ⟨Nat.le_refl _⟩, ⟨by (with_reducible repeat (first | apply Kd.R_alloc | apply Kd.R_drewN | apply Kd.R_drew)); exact HO236.out⟩, ⟨by repeat (first | (with_reducible first | exact HB.out | apply below_alloc | apply pw_below_drewN | apply below_drew1) | exact HB.out)⟩⟩
      case round =>
        clear H'
        try clear c2
        try clear p2
        try clear c3
        try clear c3b0
        try clear c3b1
        try clear c4
        try clear c4b0
        try clear c4b1
        obtain ⟨x5_1, x6_1, rfl, HA, HK1, HO_5, HB⟩ := hrel
        cases gk with
        | zero => exact absurd HA.out (by simp [pomadelaw04_flipped.l0])
        | succ k1 =>
          have H := HA.out
          clear HA
          simp only [pomadelaw04_flipped.l0] at H
          by_cases c7 : x6_1 < (a1.size : Int)
          · rw [if_pos c7] at H
            have c7b0 : decide (x6_1 < (a1.size : Int)) = true := decide_eq_true c7
            clear c7
            by_cases c8 : 0 ≤ x6_1
            · rw [if_pos c8] at H
              have c8b0 : decide (0 ≤ x6_1) = true := decide_eq_true c8
              clear c8
              by_cases c10 : (bt a1 x6_1) = 120
              · rw [if_pos c10] at H
                have c10b0 : ((bt a1 x6_1) == 120) = true := beq_iff_eq.mpr c10
                have c10b1 : ((bt a1 x6_1) != 120) = false := bne_eq_false_iff_eq.mpr c10
                clear c10
                by_cases c11 : a0 = 0
                · rw [if_pos c11] at H
                  exact absurd H (by simp)
                · rw [if_neg c11] at H
                  have c11b0 : (a0 == 0) = false := beq_eq_false_iff_ne.mpr c11
                  have c11b1 : (a0 != 0) = true := bne_iff_ne.mpr c11
                  obtain ⟨ji12, hji12⟩ : ∃ j_ : Int, (wrap64 ((wrap64 ((Int.tmod x6_1 a0) * a0)) + (wrap64 (Int.tdiv x6_1 a0)))) = j_ := ⟨_, rfl⟩
                  replace H : (if 0 ≤ (ji12) then (if (ji12) < (x5_1.length : Int) then (pomadelaw04_flipped.l0 k1 a0 a1 (x5_1.set ((ji12) : Int).toNat 111) (wrap64 (x6_1 + 1))) else (none)) else (none)) = some r := by first | (rw [hji12] at H; exact H) | (simp only [hji12] at H ⊢; exact H)
                  have hji12w : (IntKind.i64.wrap ((wrap64 ((Int.tmod x6_1 a0) * a0)) + (wrap64 (Int.tdiv x6_1 a0)))) = ji12 := (i64_w _).trans hji12
                  by_cases c13 : 0 ≤ (ji12)
                  · rw [if_pos c13] at H
                    have c13b0 : decide (0 ≤ (ji12)) = true := decide_eq_true c13
                    clear c13
                    by_cases c14 : (ji12) < (x5_1.length : Int)
                    · rw [if_pos c14] at H
                      have c14b0 : decide ((ji12) < (x5_1.length : Int)) = true := decide_eq_true c14
                      clear c14
                      obtain ⟨y237, hy237⟩ : ∃ y_ : List Int, y_ = (x5_1.set ((ji12) : Int).toNat 111) := ⟨_, rfl⟩
                      replace H : (pomadelaw04_flipped.l0 k1 a0 a1 y237 (wrap64 (x6_1 + 1))) = some r := by first | (rw [hy237]; with_reducible exact H) | (have H2_ := (Option.bind_some _ _).symm.trans H; rw [hy237]; with_reducible exact H2_) | (have H2_ := (Option.bind_some _ _).symm.trans H; with_reducible exact H2_) | with_reducible exact H | (rw [hy237]; exact H) | exact H
                      have Ny237 := Aside0.mk hy237
                      clear hy237
                      have H' := Aside0.mk H
                      clear H
                      have p9 : 0 ≤ (x6_1 : Int) := of_decide_eq_true (by first | (with_reducible assumption) | assumption)
                      have q9 : x6_1 < (a1.size : Int) := of_decide_eq_true (by first | (with_reducible assumption) | assumption)
                      have hx9 := bt_at a1 x6_1
                      replace p9 := eq_true p9
                      replace q9 := eq_true q9
                      try go_wp2
                      have n0_ := Aside0.mk (Kd.R_drew HO_5.out)
                      have n1_ := Aside0.mk (below_drew1 HB.out)
                      clear HO_5
                      clear HB
                      have HO_5 := n0_
                      have HB := n1_
                      clear n0_ n1_
                      have p15 : 0 ≤ ((ji12) : Int) := of_decide_eq_true (by first | (with_reducible assumption) | assumption)
                      have q15 : ((ji12) : Int) < ((x5_1.length : Int) : Int) := of_decide_eq_true (by first | (with_reducible assumption) | assumption)
                      obtain ⟨go15, co15, eo15, gb15, gl15, cl15, HG15⟩ := Kd.R_form HO_5.out (by omega)
                      (first | cases eo15 | (injection eo15 with ea_ en_ ec_; (first | subst ea_ | (injection ea_ with ea_; subst ea_)); subst ec_; clear en_))
                      have GB15 := Aside0.mk gb15
                      have GG15 := Aside0.mk HG15
                      clear gb15 gl15 HG15
                      obtain ⟨hx15_0, hf15_0⟩ := Kd.R_celln 0 HO_5.out ((ji12) : Int) p15 q15
                      replace p15 := eq_true p15
                      replace q15 := eq_true q15
                      have HP17 := Kd.R_putn HO_5.out ((ji12) : Int) 111
                      rw [← Ny237.out] at HP17
                      have HQ17 := Aside0.mk HP17
                      clear HP17
                      refine start_ (n := 13) (S := fun w' => True) (ds := [12]) #[false, false, false, false, false, false, false, false, false, false, false, false, false] (by kernel_rfl) rfl rfl trivial (fun hHeld => ?_); refine with_tabW pomadelaw04_flipped.tab10 pomadelaw04_flipped.bits10 (fun HT_ HW_ => ?_)
                      generalize wr.drew = w16 at HO_5 HB GG15 HQ17 hf15_0 hx15_0 hHeld ⊢
                      refine pure_ (i := 0) (N := some 24) (v := ?_) (a' := ?_) #[true, false, false, false, false, false, false, false, false, false, false, false, false] rfl rfl (any_of HT_.out (by kernel_rfl)) (fun _ _ _ h => h) (Or.inl ⟨by rfl, ?_⟩) ?_ ?_
                      rotate_left
                      · intro w'
                        go_simp
                        with_reducible rfl
                      rotate_left
                      · simp only [Act.put, List.setIfInBounds_toArray, List.set_cons_zero, List.set_cons_succ, i64_w, i32_w]
                        rfl
                      refine pure_ (i := 1) (N := some 25) (v := ?_) (a' := ?_) #[true, true, false, false, false, false, false, false, false, false, false, false, false] rfl rfl (any_of HT_.out (by kernel_rfl)) (fun _ _ _ h => h) (Or.inl ⟨by rfl, ?_⟩) ?_ ?_
                      rotate_left
                      · intro w'
                        go_simp
                        with_reducible rfl
                      rotate_left
                      · simp only [Act.put, List.setIfInBounds_toArray, List.set_cons_zero, List.set_cons_succ, i64_w, i32_w]
                        rfl
                      refine pure_ (i := 2) (N := some 26) (v := ?_) (a' := ?_) #[true, true, true, false, false, false, false, false, false, false, false, false, false] rfl rfl (any_of HT_.out (by kernel_rfl)) (fun _ _ _ h => h) (Or.inl ⟨by rfl, ?_⟩) ?_ ?_
                      rotate_left
                      · intro w'
                        go_simp
                        with_reducible rfl
                      rotate_left
                      · simp only [Act.put, List.setIfInBounds_toArray, List.set_cons_zero, List.set_cons_succ, i64_w, i32_w]
                        rfl
                      refine pure_ (i := 3) (N := some 27) (v := ?_) (a' := ?_) #[true, true, true, true, false, false, false, false, false, false, false, false, false] rfl rfl (any_of HT_.out (by kernel_rfl)) (fun _ _ _ h => h) (Or.inl ⟨by rfl, ?_⟩) ?_ ?_
                      rotate_left
                      · intro w'
                        go_simp
                        with_reducible rfl
                      rotate_left
                      · simp only [Act.put, List.setIfInBounds_toArray, List.set_cons_zero, List.set_cons_succ, i64_w, i32_w]
                        rfl
                      refine pure_ (i := 4) (N := some 28) (v := ?_) (a' := ?_) #[true, true, true, true, true, false, false, false, false, false, false, false, false] rfl rfl (any_of HT_.out (by kernel_rfl)) (fun _ _ _ h => h) (Or.inl ⟨by rfl, ?_⟩) ?_ ?_
                      rotate_left
                      · intro w'
                        go_simp
                        with_reducible rfl
                      rotate_left
                      · simp only [Act.put, List.setIfInBounds_toArray, List.set_cons_zero, List.set_cons_succ, i64_w, i32_w]
                        rfl
                      refine pure_ (i := 5) (N := some 29) (v := ?_) (a' := ?_) #[true, true, true, true, true, true, false, false, false, false, false, false, false] rfl rfl (any_of HT_.out (by kernel_rfl)) (fun _ _ _ h => h) (Or.inl ⟨by rfl, ?_⟩) ?_ ?_
                      rotate_left
                      · intro w'
                        go_simp
                        with_reducible rfl
                      rotate_left
                      · simp only [Act.put, List.setIfInBounds_toArray, List.set_cons_zero, List.set_cons_succ, i64_w, i32_w]
                        rfl
                      refine pure_ (i := 6) (N := some 30) (v := ?_) (a' := ?_) #[true, true, true, true, true, true, true, false, false, false, false, false, false] rfl rfl (any_of HT_.out (by kernel_rfl)) (fun _ _ _ h => h) (Or.inl ⟨by rfl, ?_⟩) ?_ ?_
                      rotate_left
                      · intro w'
                        go_simp
                        with_reducible rfl
                      rotate_left
                      · simp only [Act.put, List.setIfInBounds_toArray, List.set_cons_zero, List.set_cons_succ, i64_w, i32_w]
                        rfl
                      refine pure_ (i := 7) (N := some 31) (v := ?_) (a' := ?_) #[true, true, true, true, true, true, true, true, false, false, false, false, false] rfl rfl (any_of HT_.out (by kernel_rfl)) (fun _ _ _ h => h) (Or.inl ⟨by rfl, ?_⟩) ?_ ?_
                      rotate_left
                      · intro w'
                        go_simp
                        with_reducible rfl
                      rotate_left
                      · simp only [Act.put, List.setIfInBounds_toArray, List.set_cons_zero, List.set_cons_succ, i64_w, i32_w]
                        rfl
                      refine pure_ (i := 8) (N := some 32) (v := ?_) (a' := ?_) #[true, true, true, true, true, true, true, true, true, false, false, false, false] rfl rfl (any_of HT_.out (by kernel_rfl)) (fun _ _ _ h => h) (Or.inl ⟨by rfl, ?_⟩) ?_ ?_
                      rotate_left
                      · intro w'
                        go_simp
                        with_reducible rfl
                      rotate_left
                      · simp only [Act.put, List.setIfInBounds_toArray, List.set_cons_zero, List.set_cons_succ, i64_w, i32_w]
                        rfl
                      refine pure_ (i := 9) (N := some 33) (v := ?_) (a' := ?_) #[true, true, true, true, true, true, true, true, true, true, false, false, false] rfl rfl (any_of HT_.out (by kernel_rfl)) (fun _ _ _ h => h) (Or.inl ⟨by rfl, ?_⟩) ?_ ?_
                      rotate_left
                      · intro w'
                        go_simp
                        with_reducible rfl
                      rotate_left
                      · simp only [Act.put, List.setIfInBounds_toArray, List.set_cons_zero, List.set_cons_succ, i64_w, i32_w]
                        rfl
                      refine pure_ (i := 10) (N := some 34) (v := ?_) (a' := ?_) #[true, true, true, true, true, true, true, true, true, true, true, false, false] rfl rfl (any_of HT_.out (by kernel_rfl)) (fun _ _ _ h => h) (Or.inl ⟨by rfl, ?_⟩) ?_ ?_
                      rotate_left
                      · intro w'
                        go_simp
                        with_reducible rfl
                      rotate_left
                      · simp only [Act.put, List.setIfInBounds_toArray, List.set_cons_zero, List.set_cons_succ, i64_w, i32_w]
                        rfl
                      refine pure_ (i := 11) (N := some 35) (v := ?_) (a' := ?_) #[true, true, true, true, true, true, true, true, true, true, true, true, false] rfl rfl (any_of HT_.out (by kernel_rfl)) (fun _ _ _ h => h) (Or.inl ⟨by rfl, ?_⟩) ?_ ?_
                      rotate_left
                      · intro w'
                        go_simp
                        with_reducible rfl
                      rotate_left
                      · simp only [Act.put, List.setIfInBounds_toArray, List.set_cons_zero, List.set_cons_succ, i64_w, i32_w]
                        rfl
                      refine last_ (i := 12) (N := none) #[true, true, true, true, true, true, true, true, true, true, true, true, true] rfl rfl (one_of HT_.out (by kernel_rfl)) (by decide) (fun K hK => ?_)
                      refine skip_ (w1 := ?_) (by rfl) rfl ?_ ?_
                      rotate_left
                      · go_simp
                        rfl
                      refine hK.out _ _ ?_
                      clear hK K
                      refine done_ (done_of HT_.out (by kernel_rfl)) ?_
                      try go_wp2
                      go_roundg k1
                      case measure => have := HK1.out; omega
                      case rel => exact ⟨(y237), (wrap64 (x6_1 + 1)), (by first | rfl | (simp; done) | (simp [*]; done)), H', ⟨by have := HK1.out; omega⟩, ⟨by (with_reducible repeat (first | apply Kd.R_alloc | apply Kd.R_drewN | apply Kd.R_drew)); exact HQ17.out⟩, ⟨by repeat (first | (with_reducible first | exact HB.out | apply below_alloc | apply pw_below_drewN | apply below_drew1 | refine below_set ?_ GB15.out) | exact HB.out)⟩⟩
                    · rw [if_neg c14] at H
                      exact absurd H (by simp)
                  · rw [if_neg c13] at H
                    exact absurd H (by simp)
              · rw [if_neg c10] at H
                have c10b0 : ((bt a1 x6_1) == 120) = false := beq_eq_false_iff_ne.mpr c10
                have c10b1 : ((bt a1 x6_1) != 120) = true := bne_iff_ne.mpr c10
                by_cases c18 : (bt a1 x6_1) = 111
                · rw [if_pos c18] at H
                  have c18b0 : ((bt a1 x6_1) == 111) = true := beq_iff_eq.mpr c18
                  have c18b1 : ((bt a1 x6_1) != 111) = false := bne_eq_false_iff_eq.mpr c18
                  clear c18
                  by_cases c19 : a0 = 0
                  · rw [if_pos c19] at H
                    exact absurd H (by simp)
                  · rw [if_neg c19] at H
                    have c19b0 : (a0 == 0) = false := beq_eq_false_iff_ne.mpr c19
                    have c19b1 : (a0 != 0) = true := bne_iff_ne.mpr c19
                    obtain ⟨ji20, hji20⟩ : ∃ j_ : Int, (wrap64 ((wrap64 ((Int.tmod x6_1 a0) * a0)) + (wrap64 (Int.tdiv x6_1 a0)))) = j_ := ⟨_, rfl⟩
                    replace H : (if 0 ≤ (ji20) then (if (ji20) < (x5_1.length : Int) then (pomadelaw04_flipped.l0 k1 a0 a1 (x5_1.set ((ji20) : Int).toNat 120) (wrap64 (x6_1 + 1))) else (none)) else (none)) = some r := by first | (rw [hji20] at H; exact H) | (simp only [hji20] at H ⊢; exact H)
                    have hji20w : (IntKind.i64.wrap ((wrap64 ((Int.tmod x6_1 a0) * a0)) + (wrap64 (Int.tdiv x6_1 a0)))) = ji20 := (i64_w _).trans hji20
                    by_cases c21 : 0 ≤ (ji20)
                    · rw [if_pos c21] at H
                      have c21b0 : decide (0 ≤ (ji20)) = true := decide_eq_true c21
                      clear c21
                      by_cases c22 : (ji20) < (x5_1.length : Int)
                      · rw [if_pos c22] at H
                        have c22b0 : decide ((ji20) < (x5_1.length : Int)) = true := decide_eq_true c22
                        clear c22
                        obtain ⟨y238, hy238⟩ : ∃ y_ : List Int, y_ = (x5_1.set ((ji20) : Int).toNat 120) := ⟨_, rfl⟩
                        replace H : (pomadelaw04_flipped.l0 k1 a0 a1 y238 (wrap64 (x6_1 + 1))) = some r := by first | (rw [hy238]; with_reducible exact H) | (have H2_ := (Option.bind_some _ _).symm.trans H; rw [hy238]; with_reducible exact H2_) | (have H2_ := (Option.bind_some _ _).symm.trans H; with_reducible exact H2_) | with_reducible exact H | (rw [hy238]; exact H) | exact H
                        have Ny238 := Aside0.mk hy238
                        clear hy238
                        have H' := Aside0.mk H
                        clear H
                        have p9 : 0 ≤ (x6_1 : Int) := of_decide_eq_true (by first | (with_reducible assumption) | assumption)
                        have q9 : x6_1 < (a1.size : Int) := of_decide_eq_true (by first | (with_reducible assumption) | assumption)
                        have hx9 := bt_at a1 x6_1
                        replace p9 := eq_true p9
                        replace q9 := eq_true q9
                        try go_wp2
                        have n0_ := Aside0.mk (Kd.R_drew HO_5.out)
                        have n1_ := Aside0.mk (below_drew1 HB.out)
                        clear HO_5
                        clear HB
                        have HO_5 := n0_
                        have HB := n1_
                        clear n0_ n1_
                        have p23 : 0 ≤ ((ji20) : Int) := of_decide_eq_true (by first | (with_reducible assumption) | assumption)
                        have q23 : ((ji20) : Int) < ((x5_1.length : Int) : Int) := of_decide_eq_true (by first | (with_reducible assumption) | assumption)
                        obtain ⟨go23, co23, eo23, gb23, gl23, cl23, HG23⟩ := Kd.R_form HO_5.out (by omega)
                        (first | cases eo23 | (injection eo23 with ea_ en_ ec_; (first | subst ea_ | (injection ea_ with ea_; subst ea_)); subst ec_; clear en_))
                        have GB23 := Aside0.mk gb23
                        have GG23 := Aside0.mk HG23
                        clear gb23 gl23 HG23
                        obtain ⟨hx23_0, hf23_0⟩ := Kd.R_celln 0 HO_5.out ((ji20) : Int) p23 q23
                        replace p23 := eq_true p23
                        replace q23 := eq_true q23
                        have HP25 := Kd.R_putn HO_5.out ((ji20) : Int) 120
                        rw [← Ny238.out] at HP25
                        have HQ25 := Aside0.mk HP25
                        clear HP25
                        refine start_ (n := 13) (S := fun w' => True) (ds := [12]) #[false, false, false, false, false, false, false, false, false, false, false, false, false] (by kernel_rfl) rfl rfl trivial (fun hHeld => ?_); refine with_tabW pomadelaw04_flipped.tab10 pomadelaw04_flipped.bits10 (fun HT_ HW_ => ?_)
                        generalize wr.drew = w24 at HO_5 HB GG23 HQ25 hf23_0 hx23_0 hHeld ⊢
                        refine pure_ (i := 0) (N := some 24) (v := ?_) (a' := ?_) #[true, false, false, false, false, false, false, false, false, false, false, false, false] rfl rfl (any_of HT_.out (by kernel_rfl)) (fun _ _ _ h => h) (Or.inl ⟨by rfl, ?_⟩) ?_ ?_
                        rotate_left
                        · intro w'
                          go_simp
                          with_reducible rfl
                        rotate_left
                        · simp only [Act.put, List.setIfInBounds_toArray, List.set_cons_zero, List.set_cons_succ, i64_w, i32_w]
                          rfl
                        refine pure_ (i := 1) (N := some 25) (v := ?_) (a' := ?_) #[true, true, false, false, false, false, false, false, false, false, false, false, false] rfl rfl (any_of HT_.out (by kernel_rfl)) (fun _ _ _ h => h) (Or.inl ⟨by rfl, ?_⟩) ?_ ?_
                        rotate_left
                        · intro w'
                          go_simp
                          with_reducible rfl
                        rotate_left
                        · simp only [Act.put, List.setIfInBounds_toArray, List.set_cons_zero, List.set_cons_succ, i64_w, i32_w]
                          rfl
                        refine pure_ (i := 2) (N := some 26) (v := ?_) (a' := ?_) #[true, true, true, false, false, false, false, false, false, false, false, false, false] rfl rfl (any_of HT_.out (by kernel_rfl)) (fun _ _ _ h => h) (Or.inl ⟨by rfl, ?_⟩) ?_ ?_
                        rotate_left
                        · intro w'
                          go_simp
                          with_reducible rfl
                        rotate_left
                        · simp only [Act.put, List.setIfInBounds_toArray, List.set_cons_zero, List.set_cons_succ, i64_w, i32_w]
                          rfl
                        refine pure_ (i := 3) (N := some 27) (v := ?_) (a' := ?_) #[true, true, true, true, false, false, false, false, false, false, false, false, false] rfl rfl (any_of HT_.out (by kernel_rfl)) (fun _ _ _ h => h) (Or.inl ⟨by rfl, ?_⟩) ?_ ?_
                        rotate_left
                        · intro w'
                          go_simp
                          with_reducible rfl
                        rotate_left
                        · simp only [Act.put, List.setIfInBounds_toArray, List.set_cons_zero, List.set_cons_succ, i64_w, i32_w]
                          rfl
                        refine pure_ (i := 4) (N := some 28) (v := ?_) (a' := ?_) #[true, true, true, true, true, false, false, false, false, false, false, false, false] rfl rfl (any_of HT_.out (by kernel_rfl)) (fun _ _ _ h => h) (Or.inl ⟨by rfl, ?_⟩) ?_ ?_
                        rotate_left
                        · intro w'
                          go_simp
                          with_reducible rfl
                        rotate_left
                        · simp only [Act.put, List.setIfInBounds_toArray, List.set_cons_zero, List.set_cons_succ, i64_w, i32_w]
                          rfl
                        refine pure_ (i := 5) (N := some 29) (v := ?_) (a' := ?_) #[true, true, true, true, true, true, false, false, false, false, false, false, false] rfl rfl (any_of HT_.out (by kernel_rfl)) (fun _ _ _ h => h) (Or.inl ⟨by rfl, ?_⟩) ?_ ?_
                        rotate_left
                        · intro w'
                          go_simp
                          with_reducible rfl
                        rotate_left
                        · simp only [Act.put, List.setIfInBounds_toArray, List.set_cons_zero, List.set_cons_succ, i64_w, i32_w]
                          rfl
                        refine pure_ (i := 6) (N := some 30) (v := ?_) (a' := ?_) #[true, true, true, true, true, true, true, false, false, false, false, false, false] rfl rfl (any_of HT_.out (by kernel_rfl)) (fun _ _ _ h => h) (Or.inl ⟨by rfl, ?_⟩) ?_ ?_
                        rotate_left
                        · intro w'
                          go_simp
                          with_reducible rfl
                        rotate_left
                        · simp only [Act.put, List.setIfInBounds_toArray, List.set_cons_zero, List.set_cons_succ, i64_w, i32_w]
                          rfl
                        refine pure_ (i := 7) (N := some 31) (v := ?_) (a' := ?_) #[true, true, true, true, true, true, true, true, false, false, false, false, false] rfl rfl (any_of HT_.out (by kernel_rfl)) (fun _ _ _ h => h) (Or.inl ⟨by rfl, ?_⟩) ?_ ?_
                        rotate_left
                        · intro w'
                          go_simp
                          with_reducible rfl
                        rotate_left
                        · simp only [Act.put, List.setIfInBounds_toArray, List.set_cons_zero, List.set_cons_succ, i64_w, i32_w]
                          rfl
                        refine pure_ (i := 8) (N := some 32) (v := ?_) (a' := ?_) #[true, true, true, true, true, true, true, true, true, false, false, false, false] rfl rfl (any_of HT_.out (by kernel_rfl)) (fun _ _ _ h => h) (Or.inl ⟨by rfl, ?_⟩) ?_ ?_
                        rotate_left
                        · intro w'
                          go_simp
                          with_reducible rfl
                        rotate_left
                        · simp only [Act.put, List.setIfInBounds_toArray, List.set_cons_zero, List.set_cons_succ, i64_w, i32_w]
                          rfl
                        refine pure_ (i := 9) (N := some 33) (v := ?_) (a' := ?_) #[true, true, true, true, true, true, true, true, true, true, false, false, false] rfl rfl (any_of HT_.out (by kernel_rfl)) (fun _ _ _ h => h) (Or.inl ⟨by rfl, ?_⟩) ?_ ?_
                        rotate_left
                        · intro w'
                          go_simp
                          with_reducible rfl
                        rotate_left
                        · simp only [Act.put, List.setIfInBounds_toArray, List.set_cons_zero, List.set_cons_succ, i64_w, i32_w]
                          rfl
                        refine pure_ (i := 10) (N := some 34) (v := ?_) (a' := ?_) #[true, true, true, true, true, true, true, true, true, true, true, false, false] rfl rfl (any_of HT_.out (by kernel_rfl)) (fun _ _ _ h => h) (Or.inl ⟨by rfl, ?_⟩) ?_ ?_
                        rotate_left
                        · intro w'
                          go_simp
                          with_reducible rfl
                        rotate_left
                        · simp only [Act.put, List.setIfInBounds_toArray, List.set_cons_zero, List.set_cons_succ, i64_w, i32_w]
                          rfl
                        refine pure_ (i := 11) (N := some 35) (v := ?_) (a' := ?_) #[true, true, true, true, true, true, true, true, true, true, true, true, false] rfl rfl (any_of HT_.out (by kernel_rfl)) (fun _ _ _ h => h) (Or.inl ⟨by rfl, ?_⟩) ?_ ?_
                        rotate_left
                        · intro w'
                          go_simp
                          with_reducible rfl
                        rotate_left
                        · simp only [Act.put, List.setIfInBounds_toArray, List.set_cons_zero, List.set_cons_succ, i64_w, i32_w]
                          rfl
                        refine last_ (i := 12) (N := none) #[true, true, true, true, true, true, true, true, true, true, true, true, true] rfl rfl (one_of HT_.out (by kernel_rfl)) (by decide) (fun K hK => ?_)
                        refine skip_ (w1 := ?_) (by rfl) rfl ?_ ?_
                        rotate_left
                        · go_simp
                          rfl
                        refine hK.out _ _ ?_
                        clear hK K
                        refine done_ (done_of HT_.out (by kernel_rfl)) ?_
                        try go_wp2
                        go_roundg k1
                        case measure => have := HK1.out; omega
                        case rel => exact ⟨(y238), (wrap64 (x6_1 + 1)), (by first | rfl | (simp; done) | (simp [*]; done)), H', ⟨by have := HK1.out; omega⟩, ⟨by (with_reducible repeat (first | apply Kd.R_alloc | apply Kd.R_drewN | apply Kd.R_drew)); exact HQ25.out⟩, ⟨by repeat (first | (with_reducible first | exact HB.out | apply below_alloc | apply pw_below_drewN | apply below_drew1 | refine below_set ?_ GB23.out) | exact HB.out)⟩⟩
                      · rw [if_neg c22] at H
                        exact absurd H (by simp)
                    · rw [if_neg c21] at H
                      exact absurd H (by simp)
                · rw [if_neg c18] at H
                  have c18b0 : ((bt a1 x6_1) == 111) = false := beq_eq_false_iff_ne.mpr c18
                  have c18b1 : ((bt a1 x6_1) != 111) = true := bne_iff_ne.mpr c18
                  by_cases c26 : a0 = 0
                  · rw [if_pos c26] at H
                    exact absurd H (by simp)
                  · rw [if_neg c26] at H
                    have c26b0 : (a0 == 0) = false := beq_eq_false_iff_ne.mpr c26
                    have c26b1 : (a0 != 0) = true := bne_iff_ne.mpr c26
                    obtain ⟨ji27, hji27⟩ : ∃ j_ : Int, (wrap64 ((wrap64 ((Int.tmod x6_1 a0) * a0)) + (wrap64 (Int.tdiv x6_1 a0)))) = j_ := ⟨_, rfl⟩
                    replace H : (if 0 ≤ (ji27) then (if (ji27) < (x5_1.length : Int) then (pomadelaw04_flipped.l0 k1 a0 a1 (x5_1.set ((ji27) : Int).toNat (bt a1 x6_1)) (wrap64 (x6_1 + 1))) else (none)) else (none)) = some r := by first | (rw [hji27] at H; exact H) | (simp only [hji27] at H ⊢; exact H)
                    have hji27w : (IntKind.i64.wrap ((wrap64 ((Int.tmod x6_1 a0) * a0)) + (wrap64 (Int.tdiv x6_1 a0)))) = ji27 := (i64_w _).trans hji27
                    by_cases c28 : 0 ≤ (ji27)
                    · rw [if_pos c28] at H
                      have c28b0 : decide (0 ≤ (ji27)) = true := decide_eq_true c28
                      clear c28
                      by_cases c29 : (ji27) < (x5_1.length : Int)
                      · rw [if_pos c29] at H
                        have c29b0 : decide ((ji27) < (x5_1.length : Int)) = true := decide_eq_true c29
                        clear c29
                        obtain ⟨y239, hy239⟩ : ∃ y_ : List Int, y_ = (x5_1.set ((ji27) : Int).toNat (bt a1 x6_1)) := ⟨_, rfl⟩
                        replace H : (pomadelaw04_flipped.l0 k1 a0 a1 y239 (wrap64 (x6_1 + 1))) = some r := by first | (rw [hy239]; with_reducible exact H) | (have H2_ := (Option.bind_some _ _).symm.trans H; rw [hy239]; with_reducible exact H2_) | (have H2_ := (Option.bind_some _ _).symm.trans H; with_reducible exact H2_) | with_reducible exact H | (rw [hy239]; exact H) | exact H
                        have Ny239 := Aside0.mk hy239
                        clear hy239
                        have H' := Aside0.mk H
                        clear H
                        have p9 : 0 ≤ (x6_1 : Int) := of_decide_eq_true (by first | (with_reducible assumption) | assumption)
                        have q9 : x6_1 < (a1.size : Int) := of_decide_eq_true (by first | (with_reducible assumption) | assumption)
                        have hx9 := bt_at a1 x6_1
                        replace p9 := eq_true p9
                        replace q9 := eq_true q9
                        try go_wp2
                        have n0_ := Aside0.mk (Kd.R_drew HO_5.out)
                        have n1_ := Aside0.mk (below_drew1 HB.out)
                        clear HO_5
                        clear HB
                        have HO_5 := n0_
                        have HB := n1_
                        clear n0_ n1_
                        have p30 : 0 ≤ ((ji27) : Int) := of_decide_eq_true (by first | (with_reducible assumption) | assumption)
                        have q30 : ((ji27) : Int) < ((x5_1.length : Int) : Int) := of_decide_eq_true (by first | (with_reducible assumption) | assumption)
                        obtain ⟨go30, co30, eo30, gb30, gl30, cl30, HG30⟩ := Kd.R_form HO_5.out (by omega)
                        (first | cases eo30 | (injection eo30 with ea_ en_ ec_; (first | subst ea_ | (injection ea_ with ea_; subst ea_)); subst ec_; clear en_))
                        have GB30 := Aside0.mk gb30
                        have GG30 := Aside0.mk HG30
                        clear gb30 gl30 HG30
                        obtain ⟨hx30_0, hf30_0⟩ := Kd.R_celln 0 HO_5.out ((ji27) : Int) p30 q30
                        replace p30 := eq_true p30
                        replace q30 := eq_true q30
                        have HP32 := Kd.R_putn HO_5.out ((ji27) : Int) (bt a1 x6_1)
                        rw [← Ny239.out] at HP32
                        have HQ32 := Aside0.mk HP32
                        clear HP32
                        refine start_ (n := 13) (S := fun w' => True) (ds := [12]) #[false, false, false, false, false, false, false, false, false, false, false, false, false] (by kernel_rfl) rfl rfl trivial (fun hHeld => ?_); refine with_tabW pomadelaw04_flipped.tab10 pomadelaw04_flipped.bits10 (fun HT_ HW_ => ?_)
                        generalize wr.drew = w31 at HO_5 HB GG30 HQ32 hf30_0 hx30_0 hHeld ⊢
                        refine pure_ (i := 0) (N := some 24) (v := ?_) (a' := ?_) #[true, false, false, false, false, false, false, false, false, false, false, false, false] rfl rfl (any_of HT_.out (by kernel_rfl)) (fun _ _ _ h => h) (Or.inl ⟨by rfl, ?_⟩) ?_ ?_
                        rotate_left
                        · intro w'
                          go_simp
                          with_reducible rfl
                        rotate_left
                        · simp only [Act.put, List.setIfInBounds_toArray, List.set_cons_zero, List.set_cons_succ, i64_w, i32_w]
                          rfl
                        refine pure_ (i := 1) (N := some 25) (v := ?_) (a' := ?_) #[true, true, false, false, false, false, false, false, false, false, false, false, false] rfl rfl (any_of HT_.out (by kernel_rfl)) (fun _ _ _ h => h) (Or.inl ⟨by rfl, ?_⟩) ?_ ?_
                        rotate_left
                        · intro w'
                          go_simp
                          with_reducible rfl
                        rotate_left
                        · simp only [Act.put, List.setIfInBounds_toArray, List.set_cons_zero, List.set_cons_succ, i64_w, i32_w]
                          rfl
                        refine pure_ (i := 2) (N := some 26) (v := ?_) (a' := ?_) #[true, true, true, false, false, false, false, false, false, false, false, false, false] rfl rfl (any_of HT_.out (by kernel_rfl)) (fun _ _ _ h => h) (Or.inl ⟨by rfl, ?_⟩) ?_ ?_
                        rotate_left
                        · intro w'
                          go_simp
                          with_reducible rfl
                        rotate_left
                        · simp only [Act.put, List.setIfInBounds_toArray, List.set_cons_zero, List.set_cons_succ, i64_w, i32_w]
                          rfl
                        refine pure_ (i := 3) (N := some 27) (v := ?_) (a' := ?_) #[true, true, true, true, false, false, false, false, false, false, false, false, false] rfl rfl (any_of HT_.out (by kernel_rfl)) (fun _ _ _ h => h) (Or.inl ⟨by rfl, ?_⟩) ?_ ?_
                        rotate_left
                        · intro w'
                          go_simp
                          with_reducible rfl
                        rotate_left
                        · simp only [Act.put, List.setIfInBounds_toArray, List.set_cons_zero, List.set_cons_succ, i64_w, i32_w]
                          rfl
                        refine pure_ (i := 4) (N := some 28) (v := ?_) (a' := ?_) #[true, true, true, true, true, false, false, false, false, false, false, false, false] rfl rfl (any_of HT_.out (by kernel_rfl)) (fun _ _ _ h => h) (Or.inl ⟨by rfl, ?_⟩) ?_ ?_
                        rotate_left
                        · intro w'
                          go_simp
                          with_reducible rfl
                        rotate_left
                        · simp only [Act.put, List.setIfInBounds_toArray, List.set_cons_zero, List.set_cons_succ, i64_w, i32_w]
                          rfl
                        refine pure_ (i := 5) (N := some 29) (v := ?_) (a' := ?_) #[true, true, true, true, true, true, false, false, false, false, false, false, false] rfl rfl (any_of HT_.out (by kernel_rfl)) (fun _ _ _ h => h) (Or.inl ⟨by rfl, ?_⟩) ?_ ?_
                        rotate_left
                        · intro w'
                          go_simp
                          with_reducible rfl
                        rotate_left
                        · simp only [Act.put, List.setIfInBounds_toArray, List.set_cons_zero, List.set_cons_succ, i64_w, i32_w]
                          rfl
                        refine pure_ (i := 6) (N := some 30) (v := ?_) (a' := ?_) #[true, true, true, true, true, true, true, false, false, false, false, false, false] rfl rfl (any_of HT_.out (by kernel_rfl)) (fun _ _ _ h => h) (Or.inl ⟨by rfl, ?_⟩) ?_ ?_
                        rotate_left
                        · intro w'
                          go_simp
                          with_reducible rfl
                        rotate_left
                        · simp only [Act.put, List.setIfInBounds_toArray, List.set_cons_zero, List.set_cons_succ, i64_w, i32_w]
                          rfl
                        refine pure_ (i := 7) (N := some 31) (v := ?_) (a' := ?_) #[true, true, true, true, true, true, true, true, false, false, false, false, false] rfl rfl (any_of HT_.out (by kernel_rfl)) (fun _ _ _ h => h) (Or.inl ⟨by rfl, ?_⟩) ?_ ?_
                        rotate_left
                        · intro w'
                          go_simp
                          with_reducible rfl
                        rotate_left
                        · simp only [Act.put, List.setIfInBounds_toArray, List.set_cons_zero, List.set_cons_succ, i64_w, i32_w]
                          rfl
                        refine pure_ (i := 8) (N := some 32) (v := ?_) (a' := ?_) #[true, true, true, true, true, true, true, true, true, false, false, false, false] rfl rfl (any_of HT_.out (by kernel_rfl)) (fun _ _ _ h => h) (Or.inl ⟨by rfl, ?_⟩) ?_ ?_
                        rotate_left
                        · intro w'
                          go_simp
                          with_reducible rfl
                        rotate_left
                        · simp only [Act.put, List.setIfInBounds_toArray, List.set_cons_zero, List.set_cons_succ, i64_w, i32_w]
                          rfl
                        refine pure_ (i := 9) (N := some 33) (v := ?_) (a' := ?_) #[true, true, true, true, true, true, true, true, true, true, false, false, false] rfl rfl (any_of HT_.out (by kernel_rfl)) (fun _ _ _ h => h) (Or.inl ⟨by rfl, ?_⟩) ?_ ?_
                        rotate_left
                        · intro w'
                          go_simp
                          with_reducible rfl
                        rotate_left
                        · simp only [Act.put, List.setIfInBounds_toArray, List.set_cons_zero, List.set_cons_succ, i64_w, i32_w]
                          rfl
                        refine pure_ (i := 10) (N := some 34) (v := ?_) (a' := ?_) #[true, true, true, true, true, true, true, true, true, true, true, false, false] rfl rfl (any_of HT_.out (by kernel_rfl)) (fun _ _ _ h => h) (Or.inl ⟨by rfl, ?_⟩) ?_ ?_
                        rotate_left
                        · intro w'
                          go_simp
                          with_reducible rfl
                        rotate_left
                        · simp only [Act.put, List.setIfInBounds_toArray, List.set_cons_zero, List.set_cons_succ, i64_w, i32_w]
                          rfl
                        refine pure_ (i := 11) (N := some 35) (v := ?_) (a' := ?_) #[true, true, true, true, true, true, true, true, true, true, true, true, false] rfl rfl (any_of HT_.out (by kernel_rfl)) (fun _ _ _ h => h) (Or.inl ⟨by rfl, ?_⟩) ?_ ?_
                        rotate_left
                        · intro w'
                          go_simp
                          with_reducible rfl
                        rotate_left
                        · simp only [Act.put, List.setIfInBounds_toArray, List.set_cons_zero, List.set_cons_succ, i64_w, i32_w]
                          rfl
                        refine last_ (i := 12) (N := none) #[true, true, true, true, true, true, true, true, true, true, true, true, true] rfl rfl (one_of HT_.out (by kernel_rfl)) (by decide) (fun K hK => ?_)
                        refine skip_ (w1 := ?_) (by rfl) rfl ?_ ?_
                        rotate_left
                        · go_simp
                          rfl
                        refine hK.out _ _ ?_
                        clear hK K
                        refine done_ (done_of HT_.out (by kernel_rfl)) ?_
                        try go_wp2
                        go_roundg k1
                        case measure => have := HK1.out; omega
                        case rel => exact ⟨(y239), (wrap64 (x6_1 + 1)), (by first | rfl | (simp; done) | (simp [*]; done)), H', ⟨by have := HK1.out; omega⟩, ⟨by (with_reducible repeat (first | apply Kd.R_alloc | apply Kd.R_drewN | apply Kd.R_drew)); exact HQ32.out⟩, ⟨by repeat (first | (with_reducible first | exact HB.out | apply below_alloc | apply pw_below_drewN | apply below_drew1 | refine below_set ?_ GB30.out) | exact HB.out)⟩⟩
                      · rw [if_neg c29] at H
                        exact absurd H (by simp)
                    · rw [if_neg c28] at H
                      exact absurd H (by simp)
            · rw [if_neg c8] at H
              exact absurd H (by simp)
          · rw [if_neg c7] at H
            have c7b0 : decide (x6_1 < (a1.size : Int)) = false := decide_eq_false c7
            clear c7
            obtain rfl := Option.some.inj H
            have hcv33 := own_string (P := Tryd.prog) Tryd.underlying60 Tryd.underlying5 Tryd.underlying9 (Kd.own_of_R HO_5.out)
            go_wp2
            go_ret
            exact ⟨by first | rfl | (simp [errW_none, errW_some] <;> rfl) | (simp [*, errW_none, errW_some] <;> rfl), by repeat (first | (with_reducible first | exact HB.out | apply below_alloc | apply pw_below_drewN | apply below_drew1) | exact HB.out)⟩
    · rw [if_neg c4] at H
      exact absurd H (by simp)
  · rw [if_neg c3] at H
    exact absurd H (by simp)
end Go.Proofs.YtlmgkmmdaecpdaaDoor.Im

namespace Go.Proofs.YtlmgkmmdaecpdaaDoor.Im
open Go.RowKit Go.Proofs.YtlmgkmmdaecpdaaDoorW.PrintWords Go.Proofs.YtlmgkmmdaecpdaaDoorW.PrintLast Go.Proofs.YtlmgkmmdaecpdaaDoorW.PrintMore Go.Proofs.YtlmgkmmdaecpdaaDoor.Mi
set_option linter.unusedVariables false
structure Env (w : World) (mL : Int) : Prop where
  st : Steps w
  mx : w.cell? ⟨1, 0, none⟩ = some (.int .i64 mL)
theorem Env.later {w w' : World} {mL : Int} (h : Env w mL) {B : Nat} (hb : Below B w w') (hB : B = w.heap.size) : Env w' mL := by
  subst hB
  exact ⟨h.st.later hb, (hb.cell (World.block_lt_of_cell? w _ h.mx)).trans h.mx⟩
theorem alive_env {w : World} {mL : Int} (h : Env w mL) : Calls Tryd.prog 17 #[] w fun e w' => e = .returned (.bool true) ∧ Below w.heap.size w w' := alive_any w h.st mL h.mx
end Go.Proofs.YtlmgkmmdaecpdaaDoor.Im

namespace Go.Proofs.YtlmgkmmdaecpdaaDoor.Im
open Go.RowKit Go.Proofs.YtlmgkmmdaecpdaaDoorW.PrintWords Go.Proofs.YtlmgkmmdaecpdaaDoorW.PrintLast Go.Proofs.YtlmgkmmdaecpdaaDoorW.PrintMore Go.Proofs.YtlmgkmmdaecpdaaDoor.Mi
set_option linter.unusedVariables false
set_option linter.unusedSimpArgs false
theorem full_env (n : Int) (s : ByteArray) (w : World) (hs : s.size ≤ 9223372036854775807) (h0 : triE n s = 0) : Calls Tryd.prog 28 #[.int .i64 n, .string s] w fun e w' => ∃ A c, e = .returned (.tuple #[.slice A (fulL n.toNat s.data.toList).length c, .int .i64 0]) ∧ (fulL n.toNat s.data.toList).length ≤ c ∧ Kd.R (Kd.slice 3 (Kd.int .i64)) 34 w' w.heap.size (fun _ => True) (.slice A (fulL n.toNat s.data.toList).length c) (fulL n.toNat s.data.toList) ∧ Below w.heap.size w w' := by
  refine (full_call n s w hs).mono ?_
  rintro e w' ⟨h1, h2⟩
  rw [if_pos h0] at h2
  obtain ⟨v, h3, h4⟩ := h2
  obtain ⟨A, c, rfl, hc, _⟩ := Kd.R_reads h4
  exact ⟨A, c, h3, hc, h4, h1⟩
theorem cells_few {n : Nat} (h : n ≤ 20) : (cellsL n).length ≤ 800 := by have := celK_len (n := n) h 2; unfold cellsL; omega
end Go.Proofs.YtlmgkmmdaecpdaaDoor.Im

namespace Go.Proofs.YtlmgkmmdaecpdaaDoor.Im
open Go.RowKit Go.Proofs.YtlmgkmmdaecpdaaDoorW.PrintWords Go.Proofs.YtlmgkmmdaecpdaaDoorW.PrintLast Go.Proofs.YtlmgkmmdaecpdaaDoorW.PrintMore Go.Proofs.YtlmgkmmdaecpdaaDoor.Mi
set_option linter.unusedVariables false
set_option linter.unusedSimpArgs false
theorem dN_int (n : Nat) (l : List UInt8) (e : Tri3) : ((dN n l e : Nat) : Int) = dI (cC n l) e := by unfold dN dI; split <;> rfl
theorem sum_R (f : S77 → Nat) (k i : Nat) : ∀ m, ((((celR k i m).map f).sum : Nat) : Int) = sm m fun j => ((f (cel k i j) : Nat) : Int)
  | 0 => rfl
  | m + 1 => by
    rw [celR_succ, List.map_append, List.sum_append, Int.natCast_add, sum_R f k i m, sm]
    rfl
theorem sum_I (f : S77 → Nat) (n k : Nat) : ∀ m, ((((celI n k m).map f).sum : Nat) : Int) = sm m fun i => sm (n - k - i) fun j => ((f (cel k i j) : Nat) : Int)
  | 0 => rfl
  | m + 1 => by rw [celI_succ, List.map_append, List.sum_append, Int.natCast_add, sum_I f n k m, sum_R, sm]
theorem alL_int {n : Nat} (l : List UInt8) (h1 : 1 ≤ n) : ((alL n l : Nat) : Int) = allD (cC n l) n := by
  have e : alL n l = ((celI n 0 n).map (adC n l)).sum := by
    unfold alL
    rw [cells_two h1, List.map_append, List.sum_append, sum_zero (xs := celI n 1 (n - 1)) (fun x hx => by obtain ⟨i, j, _, _, rfl⟩ := mem_celI.1 hx; rfl), Nat.add_zero]
  rw [e, sum_I]
  unfold allD
  refine sm_congr n fun i hi => ?_
  rw [Nat.sub_zero]
  refine sm_congr _ fun j hj => ?_
  have ea : adC n l (cel 0 i j) = dN n l (0, i, j) + dN n l (2, i, j) + dN n l (1, i, j) := rfl
  rw [ea, Int.natCast_add, Int.natCast_add, dN_int, dN_int, dN_int]
  omega
theorem sm_first (x : Int) : ∀ m, 0 < m → sm m (fun j => if j = 0 then x else 0) = x
  | 0, h => absurd h (Nat.lt_irrefl 0)
  | 1, _ => by simp [sm]
  | m + 2, _ => by
    rw [sm, sm_first x (m + 1) (by omega), if_neg (by omega)]
    omega
theorem bdC_up (n : Nat) (l : List UInt8) (i j : Nat) : bdC n l (cel 0 i j) = if j = 0 then dN n l (0, i, 0) else 0 := by
  unfold bdC
  by_cases hj : j = 0
  · subst hj
    rw [if_pos rfl, if_pos ⟨rfl, rfl⟩]
    rfl
  · rw [if_neg hj, if_neg (fun h => hj (by have : (j : Int) = 0 := h.2; omega))]
theorem bdL_int {n : Nat} (l : List UInt8) (h1 : 1 ≤ n) : ((bdL n l : Nat) : Int) = sideD (cC n l) n := by
  have e : bdL n l = ((celI n 0 n).map (bdC n l)).sum := by
    unfold bdL
    rw [cells_two h1, List.map_append, List.sum_append, sum_zero (xs := celI n 1 (n - 1)) (fun x hx => by
      obtain ⟨i, j, _, _, rfl⟩ := mem_celI.1 hx
      unfold bdC
      rw [if_neg (fun h => by have h1 : ((1 : Nat) : Int) = 0 := h.1; omega)]), Nat.add_zero]
  rw [e, sum_I]
  unfold sideD
  refine sm_congr n fun i hi => ?_
  rw [Nat.sub_zero, ← dN_int, ← sm_first ((dN n l (0, i, 0) : Nat) : Int) (n - i) (by omega)]
  refine sm_congr _ fun j hj => ?_
  rw [bdC_up]
  split <;> rfl
def thD (n : Nat) (l : List UInt8) (i : Nat) : Nat := if isD (cC n l i (n - i)) (cC n l (i + 1) (n - i - 1)) then 1 else 0
def sA (n : Nat) (l : List UInt8) : Nat → Nat
  | 0 => 0
  | i + 1 => sA n l i + dN n l (0, i, 0)
def sB (n : Nat) (l : List UInt8) : Nat → Nat
  | 0 => 0
  | i + 1 => sB n l i + dN n l (1, 0, i) + thD n l i
theorem sA_int (n : Nat) (l : List UInt8) : ∀ m, ((sA n l m : Nat) : Int) = sm m fun i => dI (cC n l) (0, i, 0)
  | 0 => rfl
  | m + 1 => by rw [sA, Int.natCast_add, sA_int n l m, dN_int, sm]
theorem sB_int (n : Nat) (l : List UInt8) : ∀ m, ((sB n l m : Nat) : Int) = (sm m fun i => dI (cC n l) (1, 0, i)) + sm m fun i => if isD (cC n l i (n - i)) (cC n l (i + 1) (n - i - 1)) then 1 else 0
  | 0 => rfl
  | m + 1 => by
    rw [sB, Int.natCast_add, Int.natCast_add, sB_int n l m, dN_int, sm, sm]
    have e : ((thD n l m : Nat) : Int) = if isD (cC n l m (n - m)) (cC n l (m + 1) (n - m - 1)) then 1 else 0 := by unfold thD; split <;> rfl
    rw [e]
    omega
theorem sA_le (n : Nat) (l : List UInt8) : ∀ m, sA n l m ≤ m
  | 0 => Nat.le_refl _
  | m + 1 => by have := sA_le n l m; have := dN_le n l (0, m, 0); rw [sA]; omega
theorem sB_le (n : Nat) (l : List UInt8) : ∀ m, sB n l m ≤ 2 * m
  | 0 => Nat.le_refl _
  | m + 1 => by
    have := sB_le n l m
    have := dN_le n l (1, 0, m)
    have : thD n l m ≤ 1 := by unfold thD; split <;> omega
    rw [sB]
    omega
theorem border_all {n : Nat} {l : List UInt8} (h : Col n l) : bdL n l = sA n l n ∧ bdL n l ≤ alL n l ∧ bdL n l + sB n l n ≤ alL n l ∧ (((fulL n l).length : Int) - ((bdL n l + sB n l n : Nat) : Int)) % 2 = 0 := by
  have e1 := alL_int l h.n1
  have e2 := bdL_int l h.n1
  have e3 := sA_int n l n
  have e4 := sB_int n l n
  have e5 := doorB_eq (cC n l) n
  have e6 := border_le_all (cC n l) (n := n) (by have := h.n1; omega)
  have e7 := parityD (cC n l) h.col3
  have e8 := full_cnt h
  have e9 := side_le_all (cC n l) n
  have ea : sideD (cC n l) n = sm n fun i => dI (cC n l) (0, i, 0) := rfl
  rw [Int.natCast_add]
  refine ⟨by omega, by omega, by omega, by omega⟩
set_option maxHeartbeats 6400000 in
set_option maxRecDepth 100000 in
theorem law_border (n : Int) (s : ByteArray) (w : World) (hst : Steps w) (mL : Int) (hm : w.cell? ⟨1, 0, none⟩ = some (.int .i64 mL)) (hss : s.size ≤ 9223372036854775807) :
    Calls Tryd.prog 13 #[.int .i64 n, .string s] w fun e w' => e = .returned (.bool true) ∧ Below w.heap.size w w' := by
  have HE := Aside0.mk (Env.mk hst hm)
  have HB0 := Aside0.mk (Below.refl w.heap.size w)
  clear hst hm
  by_cases h2 : 300 < s.size
  · have t1 : decide (300 < (s.size : Int)) = true := decide_eq_true (by omega)
    have t2 : decide (300 < s.size) = true := decide_eq_true h2
    clear h2
    go_enter Tryd.func13, Tryd.ntmps13
    go_wp2_with fail
    refine (alive_env (HE.out)).mono ?_
    rintro e w1 ⟨rfl, hb1⟩
    have HB1 := Aside0.mk (below_then HB0.out HB0.out.size hb1)
    clear hb1 HB0
    go_wp2_with fail
    go_ret
    exact ⟨rfl, HB1.out⟩
  · have t1 : decide (300 < (s.size : Int)) = false := decide_eq_false (by omega)
    have t2 : decide (300 < s.size) = false := decide_eq_false h2
    have hTr := triangle_any n s w (by omega)
    by_cases h0 : triE n s = 0
    · have hcol := col_of h0
      have hsz := col_size h0
      have hn1 := hcol.n1
      obtain ⟨N, rfl⟩ : ∃ N : Nat, n = N := ⟨n.toNat, by omega⟩
      have HFu := Aside0.mk (fun (w1 : World) => full_env N s w1 hss h0)
      have HDo := Aside0.mk (fun w1 => (doors_call N s w1 hss).mono (fun e w' (h : DoorsPost N s w1 e w') => (show e = .returned (.tuple #[.int .i64 (bdL N s.data.toList : Nat), .int .i64 (alL N s.data.toList : Nat), .int .i64 0]) ∧ Below w1.heap.size w1 w' by
        obtain ⟨k1, k2⟩ := h
        rw [if_pos h0] at k2
        exact ⟨k2, k1⟩)))
      rw [Int.toNat_natCast] at hcol hsz hn1 HFu
      have HRd := Aside0.mk (fun (a b p q : Nat) (k1 : a + b ≤ N) (k2 : p + q ≤ N) (w1 : World) => rdoor_any hcol hsz k1 k2 w1)
      rw [h0] at hTr
      have HTr := Aside0.mk hTr
      have HAll := Aside0.mk (border_all hcol)
      have hn20 := hcol.n20
      have hfew : (fulL N s.data.toList).length ≤ 800 := by
        unfold fulL
        rw [List.length_map]
        exact Nat.le_trans (List.length_filter_le _ _) (cells_few hn20)
      obtain ⟨l, hl⟩ : ∃ l, s.data.toList = l := ⟨_, rfl⟩
      rw [hl] at HFu HDo HRd HAll hfew
      obtain ⟨F, hF⟩ : ∃ F, (fulL N l).length = F := ⟨_, rfl⟩
      rw [hF] at HFu HAll hfew
      obtain ⟨bd, hbd⟩ : ∃ x, bdL N l = x := ⟨_, rfl⟩
      obtain ⟨al, hal⟩ : ∃ x, alL N l = x := ⟨_, rfl⟩
      rw [hbd, hal] at HDo HAll
      have HA1 := Aside0.mk HAll.out.1
      have z1 : decide ((al : Int) < (bd : Int)) = false := decide_eq_false (by have := HAll.out.2.1; omega)
      have z2 : ((bd : Int) != (bd : Int)) = false := by simp
      have z3 : decide (al < bd) = false := decide_eq_false (by have := HAll.out.2.1; omega)
      clear hTr h0 hcol hsz hl hF hbd hal h2
      go_enter Tryd.func13, Tryd.ntmps13
      go_wp2_with fail
      refine (HTr.out).mono ?_
      rintro e w1 ⟨rfl, hb1⟩
      have HB1 := Aside0.mk (below_then HB0.out HB0.out.size hb1)
      clear hb1 HB0
      go_wp2_with fail
      refine (HFu.out w1).mono ?_
      rintro e w2 ⟨A2, c2, rfl, _, _, hb2⟩
      have HB2 := Aside0.mk (below_then HB1.out HB1.out.size hb2)
      clear hb2 HB1
      go_wp2_with fail
      refine (HDo.out w2).mono ?_
      rintro e w3 ⟨rfl, hb3⟩
      have HB3 := Aside0.mk (below_then HB2.out HB2.out.size hb3)
      clear hb3 HB2
      go_wp2_with fail
      go_loopw [10, 11] (fun v10 v11 wr => ∃ i : Nat, i ≤ N ∧ v11 = .int .i64 (i : Int) ∧ v10 = .int .i64 (sA N l i : Nat) ∧ Aside0 (Below w3.heap.size w3 wr)) (fun _ v _ => N - (intOf v).toNat)
      case atStart => exact ⟨0, Nat.zero_le _, rfl, rfl, ⟨Below.refl _ _⟩⟩
      case round =>
        obtain ⟨i, hi, rfl, rfl, HBr⟩ := hrel
        by_cases hiN : i < N
        · have di : decide ((i : Int) < (N : Int)) = true := decide_eq_true (by omega)
          have hd := HRd.out i 0 (i + 1) 0 (by omega) (by omega)
          push_cast at hd
          have hsA : sA N l (i + 1) = sA N l i + dN N l (0, i, 0) := rfl
          have hle := sA_le N l i
          have hdc : isD (cC N l i 0) (cC N l (i + 1) 0) = doorC (cC N l) (0, i, 0) := rfl
          rw [hdc] at hd
          unfold dN at hsA
          obtain ⟨x, hx⟩ : ∃ x, doorC (cC N l) (0, i, 0) = x := ⟨_, rfl⟩
          rw [hx] at hd hsA
          obtain ⟨a, ha⟩ : ∃ a, sA N l (i + 1) = a := ⟨_, rfl⟩
          rw [ha] at hsA
          have HAa := Aside0.mk ha
          have HSA := Aside0.mk hsA
          have HD := Aside0.mk hd
          clear hd hdc hx ha hsA
          generalize sA N l i = a0 at *
          cases x
          all_goals
            go_wp2_with fail
            refine (HD.out wr).mono ?_
            rintro e w5 ⟨rfl, hb5⟩
            have HB5 := Aside0.mk (below_then HBr.out HBr.out.size hb5)
            clear hb5
            go_wp2_with fail
            go_roundw
            case rel => exact ⟨i + 1, hiN, by go_num, by rw [HAa.out, HSA.out]; first | rfl | go_num, HB5⟩
            case measure => simp [intOf]; omega
        · obtain rfl : i = N := by omega
          have di : decide ((i : Int) < (i : Int)) = false := decide_eq_false (by omega)
          rw [← HA1.out]
          have HB4 := Aside0.mk (below_then HB3.out HB3.out.size HBr.out)
          have hbdle : bd ≤ 20 := by rw [HA1.out]; exact Nat.le_trans (sA_le i l i) hn20
          clear HBr HB3
          go_wp2_with fail
          generalize wr = w4 at *
          go_loopw [10, 12] (fun v10 v12 wr => ∃ j : Nat, j ≤ i ∧ v12 = .int .i64 (j : Int) ∧ v10 = .int .i64 (bd + sB i l j : Nat) ∧ Aside0 (Below w4.heap.size w4 wr)) (fun _ v _ => i - (intOf v).toNat)
          case atStart => exact ⟨0, Nat.zero_le _, rfl, rfl, ⟨Below.refl _ _⟩⟩
          case round =>
            obtain ⟨j, hj, rfl, rfl, HBr⟩ := hrel
            by_cases hji : j < i
            · have dj : decide ((j : Int) < (i : Int)) = true := decide_eq_true (by omega)
              have hd1 := HRd.out 0 j 0 (j + 1) (by omega) (by omega)
              have hd2 := HRd.out j (i - j) (j + 1) (i - j - 1) (by omega) (by omega)
              have e1 : ((i - j : Nat) : Int) = (i : Int) - (j : Int) := by omega
              have e2 : ((i - j - 1 : Nat) : Int) = (i : Int) - (j : Int) - 1 := by omega
              rw [e1, e2] at hd2
              push_cast at hd1 hd2
              have hsB : sB i l (j + 1) = sB i l j + dN i l (1, 0, j) + thD i l j := rfl
              have hle := sB_le i l j
              have hdc : isD (cC i l 0 j) (cC i l 0 (j + 1)) = doorC (cC i l) (1, 0, j) := rfl
              rw [hdc] at hd1
              unfold dN thD at hsB
              obtain ⟨x, hx⟩ : ∃ x, doorC (cC i l) (1, 0, j) = x := ⟨_, rfl⟩
              obtain ⟨y, hy⟩ : ∃ y, isD (cC i l j (i - j)) (cC i l (j + 1) (i - j - 1)) = y := ⟨_, rfl⟩
              rw [hx] at hd1
              rw [hy] at hd2
              rw [hx, hy] at hsB
              obtain ⟨a, ha⟩ : ∃ a, sB i l (j + 1) = a := ⟨_, rfl⟩
              rw [ha] at hsB
              have HAa := Aside0.mk ha
              have HSB := Aside0.mk hsB
              have HD1 := Aside0.mk hd1
              have HD2 := Aside0.mk hd2
              clear hd1 hd2 hdc hx hy ha hsB e1 e2
              generalize sB i l j = a0 at *
              cases x <;> cases y
              all_goals
                go_wp2_with fail
                refine (HD1.out wr).mono ?_
                rintro e w5 ⟨rfl, hb5⟩
                have HB5 := Aside0.mk (below_then HBr.out HBr.out.size hb5)
                clear hb5
                go_wp2_with fail
                refine (HD2.out w5).mono ?_
                rintro e w6 ⟨rfl, hb6⟩
                have HB6 := Aside0.mk (below_then HB5.out HB5.out.size hb6)
                clear hb6
                go_wp2_with fail
                go_roundw
                case rel => exact ⟨j + 1, hji, by go_num, by rw [HAa.out, HSB.out]; first | rfl | go_num | (simp only [Bool.false_eq_true, if_false, if_true, Nat.add_zero]; first | rfl | go_num), HB6⟩
                case measure => simp [intOf]; omega
            · obtain rfl : j = i := by omega
              have dj : decide ((j : Int) < (j : Int)) = false := decide_eq_false (by omega)
              have HB5 := Aside0.mk (below_then HB4.out HB4.out.size HBr.out)
              obtain ⟨k1, k2, k3, k4⟩ := HAll.out
              obtain ⟨B, hB⟩ : ∃ B, bd + sB j l j = B := ⟨_, rfl⟩
              have hBle : B ≤ 100 := by have := sB_le j l j; omega
              rw [hB] at k3 k4 ⊢
              have y1 : (Int.tmod ((F : Int) - (B : Int)) 2 == 0) = true := beq_iff_eq.2 (Int.tmod_eq_zero_of_dvd (Int.dvd_of_emod_eq_zero k4))
              have y2 : decide ((B : Int) ≤ (al : Int)) = true := decide_eq_true (by omega)
              have y3 : decide (B ≤ al) = true := decide_eq_true (by omega)
              clear k1 k2 k3 k4 hB HBr HB4
              go_wp2_with fail
              refine (alive_env (HE.out.later HB5.out rfl)).mono ?_
              rintro e w6 ⟨rfl, hb6⟩
              have HB6 := Aside0.mk (below_then HB5.out HB5.out.size hb6)
              clear hb6
              go_wp2_with fail
              go_ret
              exact ⟨rfl, HB6.out⟩
    · have q0 : (triE n s == 0) = false := beq_eq_false_iff_ne.2 h0
      have HTr := Aside0.mk hTr
      clear h0 h2 hTr
      generalize triE n s = E at *
      go_enter Tryd.func13, Tryd.ntmps13
      go_wp2_with fail
      refine (HTr.out).mono ?_
      rintro e w1 ⟨rfl, hb1⟩
      have HB1 := Aside0.mk (below_then HB0.out HB0.out.size hb1)
      clear hb1 HB0
      go_wp2_with fail
      refine (alive_env (HE.out.later HB1.out rfl)).mono ?_
      rintro e w2 ⟨rfl, hb2⟩
      have HB2 := Aside0.mk (below_then HB1.out HB1.out.size hb2)
      clear hb2 HB1
      go_wp2_with fail
      go_ret
      exact ⟨rfl, HB2.out⟩
end Go.Proofs.YtlmgkmmdaecpdaaDoor.Im

