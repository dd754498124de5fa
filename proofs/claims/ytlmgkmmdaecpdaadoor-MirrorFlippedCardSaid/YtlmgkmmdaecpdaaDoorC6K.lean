/- Further parts of the same walk: contracts of the functions that the law reaches, each under the conditions that it states. -/
import Derived.Test.YtlmgkmmdaecpdaaDoorC6J
namespace Go.Proofs.YtlmgkmmdaecpdaaDoor.Im
open Go.RowKit Go.Proofs.YtlmgkmmdaecpdaaDoorW.PrintWords Go.Proofs.YtlmgkmmdaecpdaaDoorW.PrintLast Go.Proofs.YtlmgkmmdaecpdaaDoorW.PrintMore
attribute [local go_sem] max2_int min2_int max_two min_two max_three min_three max_four min_four
set_option linter.unusedVariables false
set_option linter.unusedSimpArgs false
def pomadelaw04_flipped.l0 : Nat → Int → ByteArray → List Int → Int → Option (ByteArray)
  | 0, _, _, _, _ => none
  | k + 1, x0, x1, x5, x6 => if x6 < (x1.size : Int) then (if 0 ≤ x6 then (if (bt x1 x6) = 120 then (if x0 = 0 then (none) else (if 0 ≤ (wrap64 ((wrap64 ((Int.tmod x6 x0) * x0)) + (wrap64 (Int.tdiv x6 x0)))) then (if (wrap64 ((wrap64 ((Int.tmod x6 x0) * x0)) + (wrap64 (Int.tdiv x6 x0)))) < (x5.length : Int) then (pomadelaw04_flipped.l0 k x0 x1 (x5.set ((wrap64 ((wrap64 ((Int.tmod x6 x0) * x0)) + (wrap64 (Int.tdiv x6 x0)))) : Int).toNat 111) (wrap64 (x6 + 1))) else (none)) else (none))) else (if (bt x1 x6) = 111 then (if x0 = 0 then (none) else (if 0 ≤ (wrap64 ((wrap64 ((Int.tmod x6 x0) * x0)) + (wrap64 (Int.tdiv x6 x0)))) then (if (wrap64 ((wrap64 ((Int.tmod x6 x0) * x0)) + (wrap64 (Int.tdiv x6 x0)))) < (x5.length : Int) then (pomadelaw04_flipped.l0 k x0 x1 (x5.set ((wrap64 ((wrap64 ((Int.tmod x6 x0) * x0)) + (wrap64 (Int.tdiv x6 x0)))) : Int).toNat 120) (wrap64 (x6 + 1))) else (none)) else (none))) else (if x0 = 0 then (none) else (if 0 ≤ (wrap64 ((wrap64 ((Int.tmod x6 x0) * x0)) + (wrap64 (Int.tdiv x6 x0)))) then (if (wrap64 ((wrap64 ((Int.tmod x6 x0) * x0)) + (wrap64 (Int.tdiv x6 x0)))) < (x5.length : Int) then (pomadelaw04_flipped.l0 k x0 x1 (x5.set ((wrap64 ((wrap64 ((Int.tmod x6 x0) * x0)) + (wrap64 (Int.tdiv x6 x0)))) : Int).toNat (bt x1 x6)) (wrap64 (x6 + 1))) else (none)) else (none))))) else (none)) else (some (strOfNums x5))
def pomadelaw04_flipped.f (k : Nat) (a0 : Int) (a1 : ByteArray) : Option (ByteArray) := if 0 ≤ (a1.size : Int) then (if ((a1.size : Int) : Int).toNat ≤ 281474976710656 then (pomadelaw04_flipped.l0 k a0 a1 (List.replicate ((a1.size : Int) : Int).toNat 0) 0) else (none)) else (none)
theorem pomadelaw04_flipped.mono_l : ∀ k, (∀ y0 y1 y2 y3, LeO (pomadelaw04_flipped.l0 k y0 y1 y2 y3) (pomadelaw04_flipped.l0 (k + 1) y0 y1 y2 y3))
  | 0 => fun _ _ _ _ r h => by simp [pomadelaw04_flipped.l0] at h
  | k + 1 => by
    have ih0 := pomadelaw04_flipped.mono_l k
    · intro y0 y1 y2 y3
      unfold pomadelaw04_flipped.l0
      repeat' first
      | (with_reducible exact ih0 _ _ _ _)
      | (with_reducible exact LeO.refl _)
      | (with_reducible exact LeO.none _)
      | (with_reducible refine LeO.ite ?_ ?_)
      | (with_reducible refine LeO.bind ?_ (fun _ => ?_))
      | exact ih0 _ _ _ _
      | exact LeO.none _
      | refine LeO.ite ?_ ?_
      | refine LeO.bind ?_ (fun _ => ?_)
theorem pomadelaw04_flipped.mono : ∀ a0 a1 k, LeO (pomadelaw04_flipped.f k a0 a1) (pomadelaw04_flipped.f (k + 1) a0 a1) := by
  intro a0 a1 k
  have ih0 := pomadelaw04_flipped.mono_l k
  unfold pomadelaw04_flipped.f
  repeat' first
      | (with_reducible exact ih0 _ _ _ _)
      | (with_reducible exact LeO.refl _)
      | (with_reducible exact LeO.none _)
      | (with_reducible refine LeO.ite ?_ ?_)
      | (with_reducible refine LeO.bind ?_ (fun _ => ?_))
      | exact ih0 _ _ _ _
      | exact LeO.none _
      | refine LeO.ite ?_ ?_
      | refine LeO.bind ?_ (fun _ => ?_)
def pomadelaw04_flipped.T10 : Bool × List (List Nat × List Nat) := (true, [([], []), ([], []), ([], []), ([1, 2], [1, 2]), ([], []), ([3, 4], [3, 4]), ([], []), ([], []), ([6, 7], [6, 7]), ([5, 8], [5, 8]), ([], []), ([0, 9, 0, 1, 2, 3, 4, 5, 6, 7, 8, 9, 10], [0, 9]), ([11, 10, 0, 1, 2, 3, 4, 5, 6, 7, 8, 9, 10], [10, 11])])
def pomadelaw04_flipped.B10 : List Nat := [0, 0, 0, 6, 0, 30, 0, 0, 192, 510, 0, 2047, 4095]
theorem pomadelaw04_flipped.tab10 : rtab .any (opsOf Tryd.f23 10) = pomadelaw04_flipped.T10 := by kernel_rfl
theorem pomadelaw04_flipped.bits10 : waitsOk pomadelaw04_flipped.T10.2 pomadelaw04_flipped.B10 = true := by kernel_rfl
set_option maxHeartbeats 8000000 in
set_option maxRecDepth 100000 in
theorem pomadelaw04_flipped.calls (k : Nat) (a0 : Int) (a1 : ByteArray) (r : ByteArray) (w : World) (h : pomadelaw04_flipped.f k a0 a1 = some r) :
    Calls Tryd.prog 23 #[.int .i64 a0, .string a1] w fun e w' => e = .returned (.string r) ∧ Below w.heap.size w w' := by
  have HB := Aside0.mk (Below.refl w.heap.size w)
  have H : (if 0 ≤ (a1.size : Int) then (if ((a1.size : Int) : Int).toNat ≤ 281474976710656 then (pomadelaw04_flipped.l0 k a0 a1 (List.replicate ((a1.size : Int) : Int).toNat 0) 0) else (none)) else (none)) = some r := h
  clear h
  by_cases c3 : 0 ≤ (a1.size : Int)
  · rw [if_pos c3] at H
    have c3b0 := eq_true c3
    have c3b1 : decide (0 ≤ (a1.size : Int)) = true := decide_eq_true c3
    clear c3
    by_cases c4 : ((a1.size : Int) : Int).toNat ≤ 281474976710656
    · rw [if_pos c4] at H
      have c4b0 := eq_true c4
      have c4b1 : decide (((a1.size : Int) : Int).toNat ≤ 281474976710656) = true := decide_eq_true c4
      clear c4
      obtain ⟨y234, hy234⟩ : ∃ y_ : List Int, y_ = (List.replicate ((a1.size : Int) : Int).toNat 0) := ⟨_, rfl⟩
      replace H : (pomadelaw04_flipped.l0 k a0 a1 y234 0) = some r := by first | (rw [hy234]; with_reducible exact H) | (have H2_ := (Option.bind_some _ _).symm.trans H; rw [hy234]; with_reducible exact H2_) | (have H2_ := (Option.bind_some _ _).symm.trans H; with_reducible exact H2_) | with_reducible exact H | (rw [hy234]; exact H) | exact H
      have Ny234 := Aside0.mk hy234
      clear hy234
      have H' := Aside0.mk H
      clear H
      go_enter Tryd.func23, Tryd.ntmps23
      go_wp2_with (first | ((with_reducible refine gate_dst (N := 10) rfl ?_); refine Kd.R_make (Kd.int .u8) _ 5 rfl (N := 10) rfl 60 _ _ rfl (a1.size : Int) rfl rfl Tryd.underlying60 (.int .u8 0) 1 info5 rfl (by decide) (by omega) 0 (ok := fun _ => True) (okp := fun _ => True) rfl (fun _ hk => hk) trivial (of_decide_eq_true (by first | (with_reducible assumption) | assumption)) (Nat.le_trans (Nat.mul_le_mul_right _ (of_decide_eq_true (by first | (with_reducible assumption) | assumption) : (a1.size : Int).toNat ≤ 281474976710656)) (by omega)) (Below.refl _ _) (Nat.le_refl _) ?_; intro v235 w5 ho6 hb hg_ hnew_; clear hg_ hnew_; (first | rw [← Ny234.out] at ho6 | (simp only [Int.reduceToNat] at ho6; rw [← Ny234.out] at ho6)); have n0_ := Aside0.mk (Kd.R_lower ho6 (below_size (by repeat (first | (with_reducible first | exact HB.out | apply below_alloc | apply pw_below_drewN | apply below_drew1) | exact HB.out)))); have n1_ := Aside0.mk (below_step (by repeat (first | (with_reducible first | exact HB.out | apply below_alloc | apply pw_below_drewN | apply below_drew1) | exact HB.out)) hb); clear HB; have HO236 := n0_; have HB := n1_; clear n0_ n1_; clear hb ho6))
      go_loopg [6] k (fun kq v6 w' => ∃ (x5_1 : List Int) (x6_1 : Int), v6 = .int .i64 x6_1 ∧ Aside0 (pomadelaw04_flipped.l0 kq a0 a1 x5_1 x6_1 = some r) ∧ Aside0 (kq ≤ k) ∧ Aside0 (Kd.R (Kd.int .u8) 5 w' w.heap.size (fun _ => True) v235 x5_1) ∧ Aside0 (Below w.heap.size w w'))
      case atStart => exact ⟨(y234), (0), (by first | rfl | (simp; done) | (simp [*]; done)), H', ⟨Nat.le_refl _⟩, ⟨by (with_reducible repeat (first | apply Kd.R_alloc | apply Kd.R_drewN | apply Kd.R_drew)); exact HO236.out⟩, ⟨by repeat (first | (with_reducible first | exact HB.out | apply below_alloc | apply pw_below_drewN | apply below_drew1) | exact HB.out)⟩⟩
      case round =>
        clear H'
        try clear c2
        try clear p2
        try clear c3
        try clear c3b0
        try clear c3b1
        try clear c4
        try clear c4b0
        try clear c4b1
        obtain ⟨x5_1, x6_1, rfl, HA, HK1, HO_5, HB⟩ := hrel
        cases gk with
        | zero => exact absurd HA.out (by simp [pomadelaw04_flipped.l0])
        | succ k1 =>
          have H := HA.out
          clear HA
          simp only [pomadelaw04_flipped.l0] at H
          by_cases c7 : x6_1 < (a1.size : Int)
          · rw [if_pos c7] at H
            have c7b0 : decide (x6_1 < (a1.size : Int)) = true := decide_eq_true c7
            clear c7
            by_cases c8 : 0 ≤ x6_1
            · rw [if_pos c8] at H
              have c8b0 : decide (0 ≤ x6_1) = true := decide_eq_true c8
              clear c8
              by_cases c10 : (bt a1 x6_1) = 120
              · rw [if_pos c10] at H
                have c10b0 : ((bt a1 x6_1) == 120) = true := beq_iff_eq.mpr c10
                have c10b1 : ((bt a1 x6_1) != 120) = false := bne_eq_false_iff_eq.mpr c10
                clear c10
                by_cases c11 : a0 = 0
                · rw [if_pos c11] at H
                  exact absurd H (by simp)
                · rw [if_neg c11] at H
                  have c11b0 : (a0 == 0) = false := beq_eq_false_iff_ne.mpr c11
                  have c11b1 : (a0 != 0) = true := bne_iff_ne.mpr c11
                  obtain ⟨ji12, hji12⟩ : ∃ j_ : Int, (wrap64 ((wrap64 ((Int.tmod x6_1 a0) * a0)) + (wrap64 (Int.tdiv x6_1 a0)))) = j_ := ⟨_, rfl⟩
                  replace H : (if 0 ≤ (ji12) then (if (ji12) < (x5_1.length : Int) then (pomadelaw04_flipped.l0 k1 a0 a1 (x5_1.set ((ji12) : Int).toNat 111) (wrap64 (x6_1 + 1))) else (none)) else (none)) = some r := by first | (rw [hji12] at H; exact H) | (simp only [hji12] at H ⊢; exact H)
                  have hji12w : (IntKind.i64.wrap ((wrap64 ((Int.tmod x6_1 a0) * a0)) + (wrap64 (Int.tdiv x6_1 a0)))) = ji12 := (i64_w _).trans hji12
                  by_cases c13 : 0 ≤ (ji12)
                  · rw [if_pos c13] at H
                    have c13b0 : decide (0 ≤ (ji12)) = true := decide_eq_true c13
                    clear c13
                    by_cases c14 : (ji12) < (x5_1.length : Int)
                    · rw [if_pos c14] at H
                      have c14b0 : decide ((ji12) < (x5_1.length : Int)) = true := decide_eq_true c14
                      clear c14
                      obtain ⟨y237, hy237⟩ : ∃ y_ : List Int, y_ = (x5_1.set ((ji12) : Int).toNat 111) := ⟨_, rfl⟩
                      replace H : (pomadelaw04_flipped.l0 k1 a0 a1 y237 (wrap64 (x6_1 + 1))) = some r := by first | (rw [hy237]; with_reducible exact H) | (have H2_ := (Option.bind_some _ _).symm.trans H; rw [hy237]; with_reducible exact H2_) | (have H2_ := (Option.bind_some _ _).symm.trans H; with_reducible exact H2_) | with_reducible exact H | (rw [hy237]; exact H) | exact H
                      have Ny237 := Aside0.mk hy237
                      clear hy237
                      have H' := Aside0.mk H
                      clear H
                      have p9 : 0 ≤ (x6_1 : Int) := of_decide_eq_true (by first | (with_reducible assumption) | assumption)
                      have q9 : x6_1 < (a1.size : Int) := of_decide_eq_true (by first | (with_reducible assumption) | assumption)
                      have hx9 := bt_at a1 x6_1
                      replace p9 := eq_true p9
                      replace q9 := eq_true q9
                      try go_wp2
                      have n0_ := Aside0.mk (Kd.R_drew HO_5.out)
                      have n1_ := Aside0.mk (below_drew1 HB.out)
                      clear HO_5
                      clear HB
                      have HO_5 := n0_
                      have HB := n1_
                      clear n0_ n1_
                      have p15 : 0 ≤ ((ji12) : Int) := of_decide_eq_true (by first | (with_reducible assumption) | assumption)
                      have q15 : ((ji12) : Int) < ((x5_1.length : Int) : Int) := of_decide_eq_true (by first | (with_reducible assumption) | assumption)
                      obtain ⟨go15, co15, eo15, gb15, gl15, cl15, HG15⟩ := Kd.R_form HO_5.out (by omega)
                      (first | cases eo15 | (injection eo15 with ea_ en_ ec_; (first | subst ea_ | (injection ea_ with ea_; subst ea_)); subst ec_; clear en_))
                      have GB15 := Aside0.mk gb15
                      have GG15 := Aside0.mk HG15
                      clear gb15 gl15 HG15
                      obtain ⟨hx15_0, hf15_0⟩ := Kd.R_celln 0 HO_5.out ((ji12) : Int) p15 q15
                      replace p15 := eq_true p15
                      replace q15 := eq_true q15
                      have HP17 := Kd.R_putn HO_5.out ((ji12) : Int) 111
                      rw [← Ny237.out] at HP17
                      have HQ17 := Aside0.mk HP17
                      clear HP17
                      refine start_ (n := 13) (S := fun w' => True) (ds := [12]) #[false, false, false, false, false, false, false, false, false, false, false, false, false] (by kernel_rfl) rfl rfl trivial (fun hHeld => ?_); refine with_tabW pomadelaw04_flipped.tab10 pomadelaw04_flipped.bits10 (fun HT_ HW_ => ?_)
                      generalize wr.drew = w16 at HO_5 HB GG15 HQ17 hf15_0 hx15_0 hHeld ⊢
                      refine pure_ (i := 0) (N := some 24) (v := ?_) (a' := ?_) #[true, false, false, false, false, false, false, false, false, false, false, false, false] rfl rfl (any_of HT_.out (by kernel_rfl)) (fun _ _ _ h => h) (Or.inl ⟨by rfl, ?_⟩) ?_ ?_
                      rotate_left
                      · intro w'
                        go_simp
                        with_reducible rfl
                      rotate_left
                      · simp only [Act.put, List.setIfInBounds_toArray, List.set_cons_zero, List.set_cons_succ, i64_w, i32_w]
                        rfl
                      refine pure_ (i := 1) (N := some 25) (v := ?_) (a' := ?_) #[true, true, false, false, false, false, false, false, false, false, false, false, false] rfl rfl (any_of HT_.out (by kernel_rfl)) (fun _ _ _ h => h) (Or.inl ⟨by rfl, ?_⟩) ?_ ?_
                      rotate_left
                      · intro w'
                        go_simp
                        with_reducible rfl
                      rotate_left
                      · simp only [Act.put, List.setIfInBounds_toArray, List.set_cons_zero, List.set_cons_succ, i64_w, i32_w]
                        rfl
                      refine pure_ (i := 2) (N := some 26) (v := ?_) (a' := ?_) #[true, true, true, false, false, false, false, false, false, false, false, false, false] rfl rfl (any_of HT_.out (by kernel_rfl)) (fun _ _ _ h => h) (Or.inl ⟨by rfl, ?_⟩) ?_ ?_
                      rotate_left
                      · intro w'
                        go_simp
                        with_reducible rfl
                      rotate_left
                      · simp only [Act.put, List.setIfInBounds_toArray, List.set_cons_zero, List.set_cons_succ, i64_w, i32_w]
                        rfl
                      refine pure_ (i := 3) (N := some 27) (v := ?_) (a' := ?_) #[true, true, true, true, false, false, false, false, false, false, false, false, false] rfl rfl (any_of HT_.out (by kernel_rfl)) (fun _ _ _ h => h) (Or.inl ⟨by rfl, ?_⟩) ?_ ?_
                      rotate_left
                      · intro w'
                        go_simp
                        with_reducible rfl
                      rotate_left
                      · simp only [Act.put, List.setIfInBounds_toArray, List.set_cons_zero, List.set_cons_succ, i64_w, i32_w]
                        rfl
                      refine pure_ (i := 4) (N := some 28) (v := ?_) (a' := ?_) #[true, true, true, true, true, false, false, false, false, false, false, false, false] rfl rfl (any_of HT_.out (by kernel_rfl)) (fun _ _ _ h => h) (Or.inl ⟨by rfl, ?_⟩) ?_ ?_
                      rotate_left
                      · intro w'
                        go_simp
                        with_reducible rfl
                      rotate_left
                      · simp only [Act.put, List.setIfInBounds_toArray, List.set_cons_zero, List.set_cons_succ, i64_w, i32_w]
                        rfl
                      refine pure_ (i := 5) (N := some 29) (v := ?_) (a' := ?_) #[true, true, true, true, true, true, false, false, false, false, false, false, false] rfl rfl (any_of HT_.out (by kernel_rfl)) (fun _ _ _ h => h) (Or.inl ⟨by rfl, ?_⟩) ?_ ?_
                      rotate_left
                      · intro w'
                        go_simp
                        with_reducible rfl
                      rotate_left
                      · simp only [Act.put, List.setIfInBounds_toArray, List.set_cons_zero, List.set_cons_succ, i64_w, i32_w]
                        rfl
                      refine pure_ (i := 6) (N := some 30) (v := ?_) (a' := ?_) #[true, true, true, true, true, true, true, false, false, false, false, false, false] rfl rfl (any_of HT_.out (by kernel_rfl)) (fun _ _ _ h => h) (Or.inl ⟨by rfl, ?_⟩) ?_ ?_
                      rotate_left
                      · intro w'
                        go_simp
                        with_reducible rfl
                      rotate_left
                      · simp only [Act.put, List.setIfInBounds_toArray, List.set_cons_zero, List.set_cons_succ, i64_w, i32_w]
                        rfl
                      refine pure_ (i := 7) (N := some 31) (v := ?_) (a' := ?_) #[true, true, true, true, true, true, true, true, false, false, false, false, false] rfl rfl (any_of HT_.out (by kernel_rfl)) (fun _ _ _ h => h) (Or.inl ⟨by rfl, ?_⟩) ?_ ?_
                      rotate_left
                      · intro w'
                        go_simp
                        with_reducible rfl
                      rotate_left
                      · simp only [Act.put, List.setIfInBounds_toArray, List.set_cons_zero, List.set_cons_succ, i64_w, i32_w]
                        rfl
                      refine pure_ (i := 8) (N := some 32) (v := ?_) (a' := ?_) #[true, true, true, true, true, true, true, true, true, false, false, false, false] rfl rfl (any_of HT_.out (by kernel_rfl)) (fun _ _ _ h => h) (Or.inl ⟨by rfl, ?_⟩) ?_ ?_
                      rotate_left
                      · intro w'
                        go_simp
                        with_reducible rfl
                      rotate_left
                      · simp only [Act.put, List.setIfInBounds_toArray, List.set_cons_zero, List.set_cons_succ, i64_w, i32_w]
                        rfl
                      refine pure_ (i := 9) (N := some 33) (v := ?_) (a' := ?_) #[true, true, true, true, true, true, true, true, true, true, false, false, false] rfl rfl (any_of HT_.out (by kernel_rfl)) (fun _ _ _ h => h) (Or.inl ⟨by rfl, ?_⟩) ?_ ?_
                      rotate_left
                      · intro w'
                        go_simp
                        with_reducible rfl
                      rotate_left
                      · simp only [Act.put, List.setIfInBounds_toArray, List.set_cons_zero, List.set_cons_succ, i64_w, i32_w]
                        rfl
                      refine pure_ (i := 10) (N := some 34) (v := ?_) (a' := ?_) #[true, true, true, true, true, true, true, true, true, true, true, false, false] rfl rfl (any_of HT_.out (by kernel_rfl)) (fun _ _ _ h => h) (Or.inl ⟨by rfl, ?_⟩) ?_ ?_
                      rotate_left
                      · intro w'
                        go_simp
                        with_reducible rfl
                      rotate_left
                      · simp only [Act.put, List.setIfInBounds_toArray, List.set_cons_zero, List.set_cons_succ, i64_w, i32_w]
                        rfl
                      refine pure_ (i := 11) (N := some 35) (v := ?_) (a' := ?_) #[true, true, true, true, true, true, true, true, true, true, true, true, false] rfl rfl (any_of HT_.out (by kernel_rfl)) (fun _ _ _ h => h) (Or.inl ⟨by rfl, ?_⟩) ?_ ?_
                      rotate_left
                      · intro w'
                        go_simp
                        with_reducible rfl
                      rotate_left
                      · simp only [Act.put, List.setIfInBounds_toArray, List.set_cons_zero, List.set_cons_succ, i64_w, i32_w]
                        rfl
                      refine last_ (i := 12) (N := none) #[true, true, true, true, true, true, true, true, true, true, true, true, true] rfl rfl (one_of HT_.out (by kernel_rfl)) (by decide) (fun K hK => ?_)
                      refine skip_ (w1 := ?_) (by rfl) rfl ?_ ?_
                      rotate_left
                      · go_simp
                        rfl
                      refine hK.out _ _ ?_
                      clear hK K
                      refine done_ (done_of HT_.out (by kernel_rfl)) ?_
                      try go_wp2
                      go_roundg k1
                      case measure => have := HK1.out; omega
                      case rel => exact ⟨(y237), (wrap64 (x6_1 + 1)), (by first | rfl | (simp; done) | (simp [*]; done)), H', ⟨by have := HK1.out; omega⟩, ⟨by (with_reducible repeat (first | apply Kd.R_alloc | apply Kd.R_drewN | apply Kd.R_drew)); exact HQ17.out⟩, ⟨by repeat (first | (with_reducible first | exact HB.out | apply below_alloc | apply pw_below_drewN | apply below_drew1 | refine below_set ?_ GB15.out) | exact HB.out)⟩⟩
                    · rw [if_neg c14] at H
                      exact absurd H (by simp)
                  · rw [if_neg c13] at H
                    exact absurd H (by simp)
              · rw [if_neg c10] at H
                have c10b0 : ((bt a1 x6_1) == 120) = false := beq_eq_false_iff_ne.mpr c10
                have c10b1 : ((bt a1 x6_1) != 120) = true := bne_iff_ne.mpr c10
                by_cases c18 : (bt a1 x6_1) = 111
                · rw [if_pos c18] at H
                  have c18b0 : ((bt a1 x6_1) == 111) = true := beq_iff_eq.mpr c18
                  have c18b1 : ((bt a1 x6_1) != 111) = false := bne_eq_false_iff_eq.mpr c18
                  clear c18
                  by_cases c19 : a0 = 0
                  · rw [if_pos c19] at H
                    exact absurd H (by simp)
                  · rw [if_neg c19] at H
                    have c19b0 : (a0 == 0) = false := beq_eq_false_iff_ne.mpr c19
                    have c19b1 : (a0 != 0) = true := bne_iff_ne.mpr c19
                    obtain ⟨ji20, hji20⟩ : ∃ j_ : Int, (wrap64 ((wrap64 ((Int.tmod x6_1 a0) * a0)) + (wrap64 (Int.tdiv x6_1 a0)))) = j_ := ⟨_, rfl⟩
                    replace H : (if 0 ≤ (ji20) then (if (ji20) < (x5_1.length : Int) then (pomadelaw04_flipped.l0 k1 a0 a1 (x5_1.set ((ji20) : Int).toNat 120) (wrap64 (x6_1 + 1))) else (none)) else (none)) = some r := by first | (rw [hji20] at H; exact H) | (simp only [hji20] at H ⊢; exact H)
                    have hji20w : (IntKind.i64.wrap ((wrap64 ((Int.tmod x6_1 a0) * a0)) + (wrap64 (Int.tdiv x6_1 a0)))) = ji20 := (i64_w _).trans hji20
                    by_cases c21 : 0 ≤ (ji20)
                    · rw [if_pos c21] at H
                      have c21b0 : decide (0 ≤ (ji20)) = true := decide_eq_true c21
                      clear c21
                      by_cases c22 : (ji20) < (x5_1.length : Int)
                      · rw [if_pos c22] at H
                        have c22b0 : decide ((ji20) < (x5_1.length : Int)) = true := decide_eq_true c22
                        clear c22
                        obtain ⟨y238, hy238⟩ : ∃ y_ : List Int, y_ = (x5_1.set ((ji20) : Int).toNat 120) := ⟨_, rfl⟩
                        replace H : (pomadelaw04_flipped.l0 k1 a0 a1 y238 (wrap64 (x6_1 + 1))) = some r := by first | (rw [hy238]; with_reducible exact H) | (have H2_ := (Option.bind_some _ _).symm.trans H; rw [hy238]; with_reducible exact H2_) | (have H2_ := (Option.bind_some _ _).symm.trans H; with_reducible exact H2_) | with_reducible exact H | (rw [hy238]; exact H) | exact H
                        have Ny238 := Aside0.mk hy238
                        clear hy238
                        have H' := Aside0.mk H
                        clear H
                        have p9 : 0 ≤ (x6_1 : Int) := of_decide_eq_true (by first | (with_reducible assumption) | assumption)
                        have q9 : x6_1 < (a1.size : Int) := of_decide_eq_true (by first | (with_reducible assumption) | assumption)
                        have hx9 := bt_at a1 x6_1
                        replace p9 := eq_true p9
                        replace q9 := eq_true q9
                        try go_wp2
                        have n0_ := Aside0.mk (Kd.R_drew HO_5.out)
                        have n1_ := Aside0.mk (below_drew1 HB.out)
                        clear HO_5
                        clear HB
                        have HO_5 := n0_
                        have HB := n1_
                        clear n0_ n1_
                        have p23 : 0 ≤ ((ji20) : Int) := of_decide_eq_true (by first | (with_reducible assumption) | assumption)
                        have q23 : ((ji20) : Int) < ((x5_1.length : Int) : Int) := of_decide_eq_true (by first | (with_reducible assumption) | assumption)
                        obtain ⟨go23, co23, eo23, gb23, gl23, cl23, HG23⟩ := Kd.R_form HO_5.out (by omega)
                        (first | cases eo23 | (injection eo23 with ea_ en_ ec_; (first | subst ea_ | (injection ea_ with ea_; subst ea_)); subst ec_; clear en_))
                        have GB23 := Aside0.mk gb23
                        have GG23 := Aside0.mk HG23
                        clear gb23 gl23 HG23
                        obtain ⟨hx23_0, hf23_0⟩ := Kd.R_celln 0 HO_5.out ((ji20) : Int) p23 q23
                        replace p23 := eq_true p23
                        replace q23 := eq_true q23
                        have HP25 := Kd.R_putn HO_5.out ((ji20) : Int) 120
                        rw [← Ny238.out] at HP25
                        have HQ25 := Aside0.mk HP25
                        clear HP25
                        refine start_ (n := 13) (S := fun w' => True) (ds := [12]) #[false, false, false, false, false, false, false, false, false, false, false, false, false] (by kernel_rfl) rfl rfl trivial (fun hHeld => ?_); refine with_tabW pomadelaw04_flipped.tab10 pomadelaw04_flipped.bits10 (fun HT_ HW_ => ?_)
                        generalize wr.drew = w24 at HO_5 HB GG23 HQ25 hf23_0 hx23_0 hHeld ⊢
                        refine pure_ (i := 0) (N := some 24) (v := ?_) (a' := ?_) #[true, false, false, false, false, false, false, false, false, false, false, false, false] rfl rfl (any_of HT_.out (by kernel_rfl)) (fun _ _ _ h => h) (Or.inl ⟨by rfl, ?_⟩) ?_ ?_
                        rotate_left
                        · intro w'
                          go_simp
                          with_reducible rfl
                        rotate_left
                        · simp only [Act.put, List.setIfInBounds_toArray, List.set_cons_zero, List.set_cons_succ, i64_w, i32_w]
                          rfl
                        refine pure_ (i := 1) (N := some 25) (v := ?_) (a' := ?_) #[true, true, false, false, false, false, false, false, false, false, false, false, false] rfl rfl (any_of HT_.out (by kernel_rfl)) (fun _ _ _ h => h) (Or.inl ⟨by rfl, ?_⟩) ?_ ?_
                        rotate_left
                        · intro w'
                          go_simp
                          with_reducible rfl
                        rotate_left
                        · simp only [Act.put, List.setIfInBounds_toArray, List.set_cons_zero, List.set_cons_succ, i64_w, i32_w]
                          rfl
                        refine pure_ (i := 2) (N := some 26) (v := ?_) (a' := ?_) #[true, true, true, false, false, false, false, false, false, false, false, false, false] rfl rfl (any_of HT_.out (by kernel_rfl)) (fun _ _ _ h => h) (Or.inl ⟨by rfl, ?_⟩) ?_ ?_
                        rotate_left
                        · intro w'
                          go_simp
                          with_reducible rfl
                        rotate_left
                        · simp only [Act.put, List.setIfInBounds_toArray, List.set_cons_zero, List.set_cons_succ, i64_w, i32_w]
                          rfl
                        refine pure_ (i := 3) (N := some 27) (v := ?_) (a' := ?_) #[true, true, true, true, false, false, false, false, false, false, false, false, false] rfl rfl (any_of HT_.out (by kernel_rfl)) (fun _ _ _ h => h) (Or.inl ⟨by rfl, ?_⟩) ?_ ?_
                        rotate_left
                        · intro w'
                          go_simp
                          with_reducible rfl
                        rotate_left
                        · simp only [Act.put, List.setIfInBounds_toArray, List.set_cons_zero, List.set_cons_succ, i64_w, i32_w]
                          rfl
                        refine pure_ (i := 4) (N := some 28) (v := ?_) (a' := ?_) #[true, true, true, true, true, false, false, false, false, false, false, false, false] rfl rfl (any_of HT_.out (by kernel_rfl)) (fun _ _ _ h => h) (Or.inl ⟨by rfl, ?_⟩) ?_ ?_
                        rotate_left
                        · intro w'
                          go_simp
                          with_reducible rfl
                        rotate_left
                        · simp only [Act.put, List.setIfInBounds_toArray, List.set_cons_zero, List.set_cons_succ, i64_w, i32_w]
                          rfl
                        refine pure_ (i := 5) (N := some 29) (v := ?_) (a' := ?_) #[true, true, true, true, true, true, false, false, false, false, false, false, false] rfl rfl (any_of HT_.out (by kernel_rfl)) (fun _ _ _ h => h) (Or.inl ⟨by rfl, ?_⟩) ?_ ?_
                        rotate_left
                        · intro w'
                          go_simp
                          with_reducible rfl
                        rotate_left
                        · simp only [Act.put, List.setIfInBounds_toArray, List.set_cons_zero, List.set_cons_succ, i64_w, i32_w]
                          rfl
                        refine pure_ (i := 6) (N := some 30) (v := ?_) (a' := ?_) #[true, true, true, true, true, true, true, false, false, false, false, false, false] rfl rfl (any_of HT_.out (by kernel_rfl)) (fun _ _ _ h => h) (Or.inl ⟨by rfl, ?_⟩) ?_ ?_
                        rotate_left
                        · intro w'
                          go_simp
                          with_reducible rfl
                        rotate_left
                        · simp only [Act.put, List.setIfInBounds_toArray, List.set_cons_zero, List.set_cons_succ, i64_w, i32_w]
                          rfl
                        refine pure_ (i := 7) (N := some 31) (v := ?_) (a' := ?_) #[true, true, true, true, true, true, true, true, false, false, false, false, false] rfl rfl (any_of HT_.out (by kernel_rfl)) (fun _ _ _ h => h) (Or.inl ⟨by rfl, ?_⟩) ?_ ?_
                        rotate_left
                        · intro w'
                          go_simp
                          with_reducible rfl
                        rotate_left
                        · simp only [Act.put, List.setIfInBounds_toArray, List.set_cons_zero, List.set_cons_succ, i64_w, i32_w]
                          rfl
                        refine pure_ (i := 8) (N := some 32) (v := ?_) (a' := ?_) #[true, true, true, true, true, true, true, true, true, false, false, false, false] rfl rfl (any_of HT_.out (by kernel_rfl)) (fun _ _ _ h => h) (Or.inl ⟨by rfl, ?_⟩) ?_ ?_
                        rotate_left
                        · intro w'
                          go_simp
                          with_reducible rfl
                        rotate_left
                        · simp only [Act.put, List.setIfInBounds_toArray, List.set_cons_zero, List.set_cons_succ, i64_w, i32_w]
                          rfl
                        refine pure_ (i := 9) (N := some 33) (v := ?_) (a' := ?_) #[true, true, true, true, true, true, true, true, true, true, false, false, false] rfl rfl (any_of HT_.out (by kernel_rfl)) (fun _ _ _ h => h) (Or.inl ⟨by rfl, ?_⟩) ?_ ?_
                        rotate_left
                        · intro w'
                          go_simp
                          with_reducible rfl
                        rotate_left
                        · simp only [Act.put, List.setIfInBounds_toArray, List.set_cons_zero, List.set_cons_succ, i64_w, i32_w]
                          rfl
                        refine pure_ (i := 10) (N := some 34) (v := ?_) (a' := ?_) #[true, true, true, true, true, true, true, true, true, true, true, false, false] rfl rfl (any_of HT_.out (by kernel_rfl)) (fun _ _ _ h => h) (Or.inl ⟨by rfl, ?_⟩) ?_ ?_
                        rotate_left
                        · intro w'
                          go_simp
                          with_reducible rfl
                        rotate_left
                        · simp only [Act.put, List.setIfInBounds_toArray, List.set_cons_zero, List.set_cons_succ, i64_w, i32_w]
                          rfl
                        refine pure_ (i := 11) (N := some 35) (v := ?_) (a' := ?_) #[true, true, true, true, true, true, true, true, true, true, true, true, false] rfl rfl (any_of HT_.out (by kernel_rfl)) (fun _ _ _ h => h) (Or.inl ⟨by rfl, ?_⟩) ?_ ?_
                        rotate_left
                        · intro w'
                          go_simp
                          with_reducible rfl
                        rotate_left
                        · simp only [Act.put, List.setIfInBounds_toArray, List.set_cons_zero, List.set_cons_succ, i64_w, i32_w]
                          rfl
                        refine last_ (i := 12) (N := none) #[true, true, true, true, true, true, true, true, true, true, true, true, true] rfl rfl (one_of HT_.out (by kernel_rfl)) (by decide) (fun K hK => ?_)
                        refine skip_ (w1 := ?_) (by rfl) rfl ?_ ?_
                        rotate_left
                        · go_simp
                          rfl
                        refine hK.out _ _ ?_
                        clear hK K
                        refine done_ (done_of HT_.out (by kernel_rfl)) ?_
                        try go_wp2
                        go_roundg k1
                        case measure => have := HK1.out; omega
                        case rel => exact ⟨(y238), (wrap64 (x6_1 + 1)), (by first | rfl | (simp; done) | (simp [*]; done)), H', ⟨by have := HK1.out; omega⟩, ⟨by (with_reducible repeat (first | apply Kd.R_alloc | apply Kd.R_drewN | apply Kd.R_drew)); exact HQ25.out⟩, ⟨by repeat (first | (with_reducible first | exact HB.out | apply below_alloc | apply pw_below_drewN | apply below_drew1 | refine below_set ?_ GB23.out) | exact HB.out)⟩⟩
                      · rw [if_neg c22] at H
                        exact absurd H (by simp)
                    · rw [if_neg c21] at H
                      exact absurd H (by simp)
                · rw [if_neg c18] at H
                  have c18b0 : ((bt a1 x6_1) == 111) = false := beq_eq_false_iff_ne.mpr c18
                  have c18b1 : ((bt a1 x6_1) != 111) = true := bne_iff_ne.mpr c18
                  by_cases c26 : a0 = 0
                  · rw [if_pos c26] at H
                    exact absurd H (by simp)
                  · rw [if_neg c26] at H
                    have c26b0 : (a0 == 0) = false := beq_eq_false_iff_ne.mpr c26
                    have c26b1 : (a0 != 0) = true := bne_iff_ne.mpr c26
                    obtain ⟨ji27, hji27⟩ : ∃ j_ : Int, (wrap64 ((wrap64 ((Int.tmod x6_1 a0) * a0)) + (wrap64 (Int.tdiv x6_1 a0)))) = j_ := ⟨_, rfl⟩
                    replace H : (if 0 ≤ (ji27) then (if (ji27) < (x5_1.length : Int) then (pomadelaw04_flipped.l0 k1 a0 a1 (x5_1.set ((ji27) : Int).toNat (bt a1 x6_1)) (wrap64 (x6_1 + 1))) else (none)) else (none)) = some r := by first | (rw [hji27] at H; exact H) | (simp only [hji27] at H ⊢; exact H)
                    have hji27w : (IntKind.i64.wrap ((wrap64 ((Int.tmod x6_1 a0) * a0)) + (wrap64 (Int.tdiv x6_1 a0)))) = ji27 := (i64_w _).trans hji27
                    by_cases c28 : 0 ≤ (ji27)
                    · rw [if_pos c28] at H
                      have c28b0 : decide (0 ≤ (ji27)) = true := decide_eq_true c28
                      clear c28
                      by_cases c29 : (ji27) < (x5_1.length : Int)
                      · rw [if_pos c29] at H
                        have c29b0 : decide ((ji27) < (x5_1.length : Int)) = true := decide_eq_true c29
                        clear c29
                        obtain ⟨y239, hy239⟩ : ∃ y_ : List Int, y_ = (x5_1.set ((ji27) : Int).toNat (bt a1 x6_1)) := ⟨_, rfl⟩
                        replace H : (pomadelaw04_flipped.l0 k1 a0 a1 y239 (wrap64 (x6_1 + 1))) = some r := by first | (rw [hy239]; with_reducible exact H) | (have H2_ := (Option.bind_some _ _).symm.trans H; rw [hy239]; with_reducible exact H2_) | (have H2_ := (Option.bind_some _ _).symm.trans H; with_reducible exact H2_) | with_reducible exact H | (rw [hy239]; exact H) | exact H
                        have Ny239 := Aside0.mk hy239
                        clear hy239
                        have H' := Aside0.mk H
                        clear H
                        have p9 : 0 ≤ (x6_1 : Int) := of_decide_eq_true (by first | (with_reducible assumption) | assumption)
                        have q9 : x6_1 < (a1.size : Int) := of_decide_eq_true (by first | (with_reducible assumption) | assumption)
                        have hx9 := bt_at a1 x6_1
                        replace p9 := eq_true p9
                        replace q9 := eq_true q9
                        try go_wp2
                        have n0_ := Aside0.mk (Kd.R_drew HO_5.out)
                        have n1_ := Aside0.mk (below_drew1 HB.out)
                        clear HO_5
                        clear HB
                        have HO_5 := n0_
                        have HB := n1_
                        clear n0_ n1_
                        have p30 : 0 ≤ ((ji27) : Int) := of_decide_eq_true (by first | (with_reducible assumption) | assumption)
                        have q30 : ((ji27) : Int) < ((x5_1.length : Int) : Int) := of_decide_eq_true (by first | (with_reducible assumption) | assumption)
                        obtain ⟨go30, co30, eo30, gb30, gl30, cl30, HG30⟩ := Kd.R_form HO_5.out (by omega)
                        (first | cases eo30 | (injection eo30 with ea_ en_ ec_; (first | subst ea_ | (injection ea_ with ea_; subst ea_)); subst ec_; clear en_))
                        have GB30 := Aside0.mk gb30
                        have GG30 := Aside0.mk HG30
                        clear gb30 gl30 HG30
                        obtain ⟨hx30_0, hf30_0⟩ := Kd.R_celln 0 HO_5.out ((ji27) : Int) p30 q30
                        replace p30 := eq_true p30
                        replace q30 := eq_true q30
                        have HP32 := Kd.R_putn HO_5.out ((ji27) : Int) (bt a1 x6_1)
                        rw [← Ny239.out] at HP32
                        have HQ32 := Aside0.mk HP32
                        clear HP32
                        refine start_ (n := 13) (S := fun w' => True) (ds := [12]) #[false, false, false, false, false, false, false, false, false, false, false, false, false] (by kernel_rfl) rfl rfl trivial (fun hHeld => ?_); refine with_tabW pomadelaw04_flipped.tab10 pomadelaw04_flipped.bits10 (fun HT_ HW_ => ?_)
                        generalize wr.drew = w31 at HO_5 HB GG30 HQ32 hf30_0 hx30_0 hHeld ⊢
                        refine pure_ (i := 0) (N := some 24) (v := ?_) (a' := ?_) #[true, false, false, false, false, false, false, false, false, false, false, false, false] rfl rfl (any_of HT_.out (by kernel_rfl)) (fun _ _ _ h => h) (Or.inl ⟨by rfl, ?_⟩) ?_ ?_
                        rotate_left
                        · intro w'
                          go_simp
                          with_reducible rfl
                        rotate_left
                        · simp only [Act.put, List.setIfInBounds_toArray, List.set_cons_zero, List.set_cons_succ, i64_w, i32_w]
                          rfl
                        refine pure_ (i := 1) (N := some 25) (v := ?_) (a' := ?_) #[true, true, false, false, false, false, false, false, false, false, false, false, false] rfl rfl (any_of HT_.out (by kernel_rfl)) (fun _ _ _ h => h) (Or.inl ⟨by rfl, ?_⟩) ?_ ?_
                        rotate_left
                        · intro w'
                          go_simp
                          with_reducible rfl
                        rotate_left
                        · simp only [Act.put, List.setIfInBounds_toArray, List.set_cons_zero, List.set_cons_succ, i64_w, i32_w]
                          rfl
                        refine pure_ (i := 2) (N := some 26) (v := ?_) (a' := ?_) #[true, true, true, false, false, false, false, false, false, false, false, false, false] rfl rfl (any_of HT_.out (by kernel_rfl)) (fun _ _ _ h => h) (Or.inl ⟨by rfl, ?_⟩) ?_ ?_
                        rotate_left
                        · intro w'
                          go_simp
                          with_reducible rfl
                        rotate_left
                        · simp only [Act.put, List.setIfInBounds_toArray, List.set_cons_zero, List.set_cons_succ, i64_w, i32_w]
                          rfl
                        refine pure_ (i := 3) (N := some 27) (v := ?_) (a' := ?_) #[true, true, true, true, false, false, false, false, false, false, false, false, false] rfl rfl (any_of HT_.out (by kernel_rfl)) (fun _ _ _ h => h) (Or.inl ⟨by rfl, ?_⟩) ?_ ?_
                        rotate_left
                        · intro w'
                          go_simp
                          with_reducible rfl
                        rotate_left
                        · simp only [Act.put, List.setIfInBounds_toArray, List.set_cons_zero, List.set_cons_succ, i64_w, i32_w]
                          rfl
                        refine pure_ (i := 4) (N := some 28) (v := ?_) (a' := ?_) #[true, true, true, true, true, false, false, false, false, false, false, false, false] rfl rfl (any_of HT_.out (by kernel_rfl)) (fun _ _ _ h => h) (Or.inl ⟨by rfl, ?_⟩) ?_ ?_
                        rotate_left
                        · intro w'
                          go_simp
                          with_reducible rfl
                        rotate_left
                        · simp only [Act.put, List.setIfInBounds_toArray, List.set_cons_zero, List.set_cons_succ, i64_w, i32_w]
                          rfl
                        refine pure_ (i := 5) (N := some 29) (v := ?_) (a' := ?_) #[true, true, true, true, true, true, false, false, false, false, false, false, false] rfl rfl (any_of HT_.out (by kernel_rfl)) (fun _ _ _ h => h) (Or.inl ⟨by rfl, ?_⟩) ?_ ?_
                        rotate_left
                        · intro w'
                          go_simp
                          with_reducible rfl
                        rotate_left
                        · simp only [Act.put, List.setIfInBounds_toArray, List.set_cons_zero, List.set_cons_succ, i64_w, i32_w]
                          rfl
                        refine pure_ (i := 6) (N := some 30) (v := ?_) (a' := ?_) #[true, true, true, true, true, true, true, false, false, false, false, false, false] rfl rfl (any_of HT_.out (by kernel_rfl)) (fun _ _ _ h => h) (Or.inl ⟨by rfl, ?_⟩) ?_ ?_
                        rotate_left
                        · intro w'
                          go_simp
                          with_reducible rfl
                        rotate_left
                        · simp only [Act.put, List.setIfInBounds_toArray, List.set_cons_zero, List.set_cons_succ, i64_w, i32_w]
                          rfl
                        refine pure_ (i := 7) (N := some 31) (v := ?_) (a' := ?_) #[true, true, true, true, true, true, true, true, false, false, false, false, false] rfl rfl (any_of HT_.out (by kernel_rfl)) (fun _ _ _ h => h) (Or.inl ⟨by rfl, ?_⟩) ?_ ?_
                        rotate_left
                        · intro w'
                          go_simp
                          with_reducible rfl
                        rotate_left
                        · simp only [Act.put, List.setIfInBounds_toArray, List.set_cons_zero, List.set_cons_succ, i64_w, i32_w]
                          rfl
                        refine pure_ (i := 8) (N := some 32) (v := ?_) (a' := ?_) #[true, true, true, true, true, true, true, true, true, false, false, false, false] rfl rfl (any_of HT_.out (by kernel_rfl)) (fun _ _ _ h => h) (Or.inl ⟨by rfl, ?_⟩) ?_ ?_
                        rotate_left
                        · intro w'
                          go_simp
                          with_reducible rfl
                        rotate_left
                        · simp only [Act.put, List.setIfInBounds_toArray, List.set_cons_zero, List.set_cons_succ, i64_w, i32_w]
                          rfl
                        refine pure_ (i := 9) (N := some 33) (v := ?_) (a' := ?_) #[true, true, true, true, true, true, true, true, true, true, false, false, false] rfl rfl (any_of HT_.out (by kernel_rfl)) (fun _ _ _ h => h) (Or.inl ⟨by rfl, ?_⟩) ?_ ?_
                        rotate_left
                        · intro w'
                          go_simp
                          with_reducible rfl
                        rotate_left
                        · simp only [Act.put, List.setIfInBounds_toArray, List.set_cons_zero, List.set_cons_succ, i64_w, i32_w]
                          rfl
                        refine pure_ (i := 10) (N := some 34) (v := ?_) (a' := ?_) #[true, true, true, true, true, true, true, true, true, true, true, false, false] rfl rfl (any_of HT_.out (by kernel_rfl)) (fun _ _ _ h => h) (Or.inl ⟨by rfl, ?_⟩) ?_ ?_
                        rotate_left
                        · intro w'
                          go_simp
                          with_reducible rfl
                        rotate_left
                        · simp only [Act.put, List.setIfInBounds_toArray, List.set_cons_zero, List.set_cons_succ, i64_w, i32_w]
                          rfl
                        refine pure_ (i := 11) (N := some 35) (v := ?_) (a' := ?_) #[true, true, true, true, true, true, true, true, true, true, true, true, false] rfl rfl (any_of HT_.out (by kernel_rfl)) (fun _ _ _ h => h) (Or.inl ⟨by rfl, ?_⟩) ?_ ?_
                        rotate_left
                        · intro w'
                          go_simp
                          with_reducible rfl
                        rotate_left
                        · simp only [Act.put, List.setIfInBounds_toArray, List.set_cons_zero, List.set_cons_succ, i64_w, i32_w]
                          rfl
                        refine last_ (i := 12) (N := none) #[true, true, true, true, true, true, true, true, true, true, true, true, true] rfl rfl (one_of HT_.out (by kernel_rfl)) (by decide) (fun K hK => ?_)
                        refine skip_ (w1 := ?_) (by rfl) rfl ?_ ?_
                        rotate_left
                        · go_simp
                          rfl
                        refine hK.out _ _ ?_
                        clear hK K
                        refine done_ (done_of HT_.out (by kernel_rfl)) ?_
                        try go_wp2
                        go_roundg k1
                        case measure => have := HK1.out; omega
                        case rel => exact ⟨(y239), (wrap64 (x6_1 + 1)), (by first | rfl | (simp; done) | (simp [*]; done)), H', ⟨by have := HK1.out; omega⟩, ⟨by (with_reducible repeat (first | apply Kd.R_alloc | apply Kd.R_drewN | apply Kd.R_drew)); exact HQ32.out⟩, ⟨by repeat (first | (with_reducible first | exact HB.out | apply below_alloc | apply pw_below_drewN | apply below_drew1 | refine below_set ?_ GB30.out) | exact HB.out)⟩⟩
                      · rw [if_neg c29] at H
                        exact absurd H (by simp)
                    · rw [if_neg c28] at H
                      exact absurd H (by simp)
            · rw [if_neg c8] at H
              exact absurd H (by simp)
          · rw [if_neg c7] at H
            have c7b0 : decide (x6_1 < (a1.size : Int)) = false := decide_eq_false c7
            clear c7
            obtain rfl := Option.some.inj H
            have hcv33 := own_string (P := Tryd.prog) Tryd.underlying60 Tryd.underlying5 Tryd.underlying9 (Kd.own_of_R HO_5.out)
            go_wp2
            go_ret
            exact ⟨by first | rfl | (simp [errW_none, errW_some] <;> rfl) | (simp [*, errW_none, errW_some] <;> rfl), by repeat (first | (with_reducible first | exact HB.out | apply below_alloc | apply pw_below_drewN | apply below_drew1) | exact HB.out)⟩
    · rw [if_neg c4] at H
      exact absurd H (by simp)
  · rw [if_neg c3] at H
    exact absurd H (by simp)
end Go.Proofs.YtlmgkmmdaecpdaaDoor.Im

namespace Go.Proofs.YtlmgkmmdaecpdaaDoor.Im
open Go.RowKit Go.Proofs.YtlmgkmmdaecpdaaDoorW.PrintWords Go.Proofs.YtlmgkmmdaecpdaaDoorW.PrintLast Go.Proofs.YtlmgkmmdaecpdaaDoorW.PrintMore Go.Proofs.YtlmgkmmdaecpdaaDoor.Mi
set_option linter.unusedVariables false
def swI (c : Int) : Int := if c = 120 then 111 else if c = 111 then 120 else c
theorem swI_swI (c : Int) : swI (swI c) = c := by
  unfold swI
  by_cases h : c = 120
  · subst h; rfl
  · by_cases k : c = 111
    · subst k; rfl
    · rw [if_neg h, if_neg k, if_neg h, if_neg k]
theorem swI_46 {c : Int} : swI c = 46 ↔ c = 46 := by
  unfold swI
  split
  · omega
  · split <;> omega
theorem swI_eq {c p : Int} : swI c = swI p ↔ c = p := ⟨fun h => by rw [← swI_swI c, h, swI_swI], fun h => by rw [h]⟩
def Flip (n : Nat) (bs bt : List Int) : Prop := ∀ a, a < n * n → bt.getD (flp n a) 0 = swI (bs.getD a 0)
theorem Flip.symm {n : Nat} {bs bt : List Int} (hn : 0 < n) (h : Flip n bs bt) : Flip n bt bs := fun a ha => by
  have := h (flp n a) (flp_lt hn ha)
  rw [flp_flp hn ha] at this
  rw [this, swI_swI]
theorem flip_end {n a : Nat} {p : Int} (hn : 0 < n) (ha : a < n * n) (hp : p = 120 ∨ p = 111) : endK n (flp n a) (swI p) = endK n a p := by
  have h1 := dec_flp hn ha
  have h2 : (flp n a) / n = a % n := congrArg Prod.fst h1
  have h3 : (flp n a) % n = a / n := congrArg Prod.snd h1
  rcases hp with rfl | rfl
  · show endK n (flp n a) 111 = endK n a 120
    unfold endK
    rw [if_pos rfl, if_neg (by decide), h3]
  · show endK n (flp n a) 120 = endK n a 111
    unfold endK
    rw [if_neg (by decide), if_pos rfl, h2]
theorem cost0_sw (p c : Int) : cost0 (swI p) (swI c) = cost0 p c := by
  unfold cost0
  by_cases h : c = p
  · rw [if_pos h, if_pos (swI_eq.2 h)]
  · rw [if_neg h, if_neg (fun e => h (swI_eq.1 e))]
    by_cases k : c = 46
    · rw [if_pos k, if_pos (swI_46.2 k)]
    · rw [if_neg k, if_neg (fun e => k (swI_46.1 e))]
theorem flip_into {n : Nat} {bs bt : List Int} {p : Int} (hn : 0 < n) (hp : p = 120 ∨ p = 111) (h : Flip n bs bt) : Into (n * n) (n * n) (NearN n) (NearN n) (okC bs (cost0 p)) (enP n p) (beP n p) (okC bt (cost0 (swI p))) (enP n (swI p)) (beP n (swI p)) (coC bs (cost0 p)) (coC bt (cost0 (swI p))) (flp n) :=
  ⟨fun a ha => flp_lt hn ha, fun a b ha hb k => near_flp hn ha hb k, fun a ha k => by unfold okC at *; rw [h a ha, cost0_sw]; exact k,
    fun a ha k => by unfold enP at *; rw [flip_end hn ha hp]; exact k, fun a ha k => by unfold beP at *; rw [flip_end hn ha hp]; exact k,
    fun a ha k => by unfold coC; rw [h a ha, cost0_sw]; exact Nat.le_refl _⟩
theorem flip_into1 {n : Nat} {bs bt : List Int} {p : Int} (hn : 0 < n) (hp : p = 120 ∨ p = 111) (h : Flip n bs bt) : Into (n * n) (n * n) (NearN n) (NearN n) (okP bs p) (enP n p) (beP n p) (okP bt (swI p)) (enP n (swI p)) (beP n (swI p)) Mi.one Mi.one (flp n) :=
  ⟨fun a ha => flp_lt hn ha, fun a b ha hb k => near_flp hn ha hb k, fun a ha k => by unfold okP at *; rw [h a ha, k],
    fun a ha k => by unfold enP at *; rw [flip_end hn ha hp]; exact k, fun a ha k => by unfold beP at *; rw [flip_end hn ha hp]; exact k,
    fun a ha k => Nat.le_refl _⟩
theorem need_into {n : Nat} {bs bt : List Int} {p q : Int} {σ : Nat → Nat} (h : Into (n * n) (n * n) (NearN n) (NearN n) (okC bs (cost0 p)) (enP n p) (beP n p) (okC bt (cost0 q)) (enP n q) (beP n q) (coC bs (cost0 p)) (coC bt (cost0 q)) σ) {d : Nat} (hd : needO n bs p = some d) : ∃ e, needO n bt q = some e ∧ e ≤ d := by
  obtain ⟨⟨P, k1, k2⟩, k3⟩ := h.need (needO_need hd)
  obtain ⟨e, he⟩ := Option.isSome_iff_exists.1 (needO_ex k1 k2)
  exact ⟨e, he, k3 e (needO_need he)⟩
theorem need_same {n : Nat} {bs bt : List Int} {p q : Int} {σ τ : Nat → Nat} (h : Into (n * n) (n * n) (NearN n) (NearN n) (okC bs (cost0 p)) (enP n p) (beP n p) (okC bt (cost0 q)) (enP n q) (beP n q) (coC bs (cost0 p)) (coC bt (cost0 q)) σ)
    (k : Into (n * n) (n * n) (NearN n) (NearN n) (okC bt (cost0 q)) (enP n q) (beP n q) (okC bs (cost0 p)) (enP n p) (beP n p) (coC bt (cost0 q)) (coC bs (cost0 p)) τ) : needO n bs p = needO n bt q := by
  cases h1 : needO n bs p with
  | some d =>
    obtain ⟨e, he, hl⟩ := need_into h h1
    obtain ⟨d', hd', hl'⟩ := need_into k he
    rw [h1] at hd'
    cases hd'
    rw [he]
    exact congrArg some (by omega)
  | none =>
    cases h2 : needO n bt q with
    | none => rfl
    | some e =>
      obtain ⟨d, hd, _⟩ := need_into k h2
      rw [h1] at hd
      cases hd
theorem bridge_into {n : Nat} {bs bt : List Int} {p q : Int} {σ : Nat → Nat} (h : Into (n * n) (n * n) (NearN n) (NearN n) (okP bs p) (enP n p) (beP n p) (okP bt q) (enP n q) (beP n q) Mi.one Mi.one σ) {G : List Nat} (hG : brO n bs p = some G) : ∃ H, brO n bt q = some H ∧ H.length ≤ G.length := by
  have hF := brO_first hG
  obtain ⟨k1, k2, _⟩ := h.way hF.way
  have k3 : beP n q (headN (G.map σ)) := by rw [k2]; exact h.be_ _ (hF.way.mem _ (headN_mem hF.way.ne)).1 hF.start
  obtain ⟨H, hH⟩ := Option.isSome_iff_exists.1 (brO_ex k1 k3)
  have := ((brO_first hH).best k1 k3).1
  rw [List.length_map] at this
  exact ⟨H, hH, this⟩
theorem bridge_same {n : Nat} {bs bt : List Int} {p q : Int} {σ τ : Nat → Nat} (h : Into (n * n) (n * n) (NearN n) (NearN n) (okP bs p) (enP n p) (beP n p) (okP bt q) (enP n q) (beP n q) Mi.one Mi.one σ)
    (k : Into (n * n) (n * n) (NearN n) (NearN n) (okP bt q) (enP n q) (beP n q) (okP bs p) (enP n p) (beP n p) Mi.one Mi.one τ) : (brO n bs p).map List.length = (brO n bt q).map List.length := by
  cases h1 : brO n bs p with
  | some d =>
    obtain ⟨e, he, hl⟩ := bridge_into h h1
    obtain ⟨d', hd', hl'⟩ := bridge_into k he
    rw [h1] at hd'
    cases hd'
    rw [he]
    exact congrArg some (by omega)
  | none =>
    cases h2 : brO n bt q with
    | none => rfl
    | some e =>
      obtain ⟨d, hd, _⟩ := bridge_into k h2
      rw [h1] at hd
      cases hd
theorem flip_need {n : Nat} {bs bt : List Int} {p : Int} (hn : 0 < n) (hp : p = 120 ∨ p = 111) (h : Flip n bs bt) : needO n bs p = needO n bt (swI p) := by
  refine need_same (flip_into hn hp h) (τ := flp n) ?_
  have := flip_into (p := swI p) hn (by rcases hp with rfl | rfl; exact .inr rfl; exact .inl rfl) (h.symm hn)
  rw [swI_swI] at this
  exact this
theorem flip_bridge {n : Nat} {bs bt : List Int} {p : Int} (hn : 0 < n) (hp : p = 120 ∨ p = 111) (h : Flip n bs bt) : (brO n bs p).map List.length = (brO n bt (swI p)).map List.length := by
  refine bridge_same (flip_into1 hn hp h) (τ := flp n) ?_
  have := flip_into1 (p := swI p) hn (by rcases hp with rfl | rfl; exact .inr rfl; exact .inl rfl) (h.symm hn)
  rw [swI_swI] at this
  exact this
theorem flip_win {n : Nat} {bs bt : List Int} (hn : 0 < n) (hf : ∀ a, a < n * n → bs.getD a 0 = 120 ∨ bs.getD a 0 = 111) (h : Flip n bs bt) :
    (winB n bs = 120 ∧ winB n bt = 111 ∨ winB n bs = 111 ∧ winB n bt = 120) ∧ ∀ G H, brO n bs (winB n bs) = some G → brO n bt (winB n bt) = some H → G.length = H.length := by
  have e1 : (brO n bs 120).map List.length = (brO n bt 111).map List.length := flip_bridge hn (.inl rfl) h
  have e2 : (brO n bs 111).map List.length = (brO n bt 120).map List.length := flip_bridge hn (.inr rfl) h
  have hf' : ∀ a, a < n * n → bt.getD a 0 = 120 ∨ bt.getD a 0 = 111 := fun a ha => by
    have := h (flp n a) (flp_lt hn ha)
    rw [flp_flp hn ha] at this
    rw [this]
    rcases hf _ (flp_lt hn ha) with k | k <;> rw [k]
    · exact .inr rfl
    · exact .inl rfl
  rcases full_one hn hf with ⟨h1, h2, h3⟩ | ⟨h1, h2, h3⟩
  · rcases full_one hn hf' with ⟨k1, k2, k3⟩ | ⟨k1, k2, k3⟩
    · rw [k2] at e1
      cases h4 : brO n bs 120 with
      | none => rw [h4] at h1; cases h1
      | some G => rw [h4] at e1; cases e1
    · refine ⟨.inl ⟨h3, k3⟩, fun G H hG hH => ?_⟩
      rw [h3] at hG
      rw [k3] at hH
      rw [hG, hH] at e1
      exact Option.some.inj e1
  · rcases full_one hn hf' with ⟨k1, k2, k3⟩ | ⟨k1, k2, k3⟩
    · refine ⟨.inr ⟨h3, k3⟩, fun G H hG hH => ?_⟩
      rw [h3] at hG
      rw [k3] at hH
      rw [hG, hH] at e2
      exact Option.some.inj e2
    · rw [k1] at e2
      cases h4 : brO n bs 111 with
      | none => rw [h4] at h2; cases h2
      | some G => rw [h4] at e2; cases e2
end Go.Proofs.YtlmgkmmdaecpdaaDoor.Im

namespace Go.Proofs.YtlmgkmmdaecpdaaDoor.Im
open Go.RowKit Go.Proofs.YtlmgkmmdaecpdaaDoorW.PrintWords Go.Proofs.YtlmgkmmdaecpdaaDoorW.PrintLast Go.Proofs.YtlmgkmmdaecpdaaDoorW.PrintMore Go.Proofs.YtlmgkmmdaecpdaaDoor.Mi
set_option linter.unusedVariables false
theorem wr_tiny {x : Int} (h0 : 0 ≤ x) (h1 : x ≤ 1000000) : wrap64 x = x := by unfold wrap64; omega
theorem flp_wrap (n i : Nat) (hn : 1 ≤ n) (h11 : n ≤ 11) (hi : i < n * n) : (wrap64 ((wrap64 ((Int.tmod (i : Int) n) * n)) + (wrap64 (Int.tdiv (i : Int) n)))) = ((flp n i : Nat) : Int) := by
  have hm : n * n ≤ 121 := Nat.mul_le_mul h11 h11
  have q0 : i % n < n := Nat.mod_lt _ (by omega)
  have q1 : i % n * n ≤ 121 := Nat.le_trans (Nat.mul_le_mul (show i % n ≤ 11 by omega) h11) (by decide)
  have q2 : i / n ≤ 121 := Nat.le_trans (Nat.div_le_self _ _) (by omega)
  rw [Int.tmod_eq_emod_of_nonneg (Int.natCast_nonneg _), Int.tdiv_eq_ediv_of_nonneg (Int.natCast_nonneg _), ← Int.natCast_emod, ← Int.natCast_ediv, ← Int.natCast_mul]
  unfold flp
  generalize i % n * n = u at *
  generalize i / n = v at *
  rw [wr_tiny (x := (u : Int)) (by omega) (by omega), wr_tiny (x := (v : Int)) (by omega) (by omega), wr_tiny (by omega) (by omega), Int.natCast_add]
theorem flip_step (n : Nat) (s : ByteArray) (k i f : Nat) (xs : List Int) (hn : (n : Int) ≠ 0) (hi : (i : Int) < (s.size : Int)) (i0 : (0 : Int) ≤ (i : Int)) (hfe : (wrap64 ((wrap64 ((Int.tmod (i : Int) n) * n)) + (wrap64 (Int.tdiv (i : Int) n)))) = (f : Int)) (hw : wrap64 ((i : Int) + 1) = ((i + 1 : Nat) : Int)) (f0 : (0 : Int) ≤ (f : Int)) (f1 : (f : Int) < (xs.length : Int)) :
    pomadelaw04_flipped.l0 (k + 1) n s xs i = pomadelaw04_flipped.l0 k n s (xs.set f (swI (bt s i))) (i + 1 : Nat) := by
  simp only [pomadelaw04_flipped.l0]
  rw [hfe, hw, Int.toNat_natCast]
  simp only [if_pos hi, if_pos i0, if_neg hn, if_pos f0, if_pos f1]
  unfold swI
  by_cases h1 : bt s i = 120
  · simp only [if_pos h1]
  · by_cases h2 : bt s i = 111
    · simp only [if_neg h1, if_pos h2]
    · simp only [if_neg h1, if_neg h2]
theorem flip_l0 (n : Nat) (s : ByteArray) (hn : 1 ≤ n) (h11 : n ≤ 11) (hs : s.size = n * n) (d : Nat) : ∀ (i : Nat) (xs : List Int), i + d = n * n → xs.length = n * n → (∀ x ∈ xs, 0 ≤ x ∧ x ≤ 255) → (∀ a, a < i → xs.getD (flp n a) 0 = swI ((bsOf s).getD a 0)) →
    ∃ ys : List Int, ys.length = n * n ∧ (∀ x ∈ ys, 0 ≤ x ∧ x ≤ 255) ∧ (∀ a, a < n * n → ys.getD (flp n a) 0 = swI ((bsOf s).getD a 0)) ∧ Gives (fun k => pomadelaw04_flipped.l0 k n s xs i) (strOfNums ys) := by
  induction d with
  | zero =>
    intro i xs h hl hr hd
    refine ⟨xs, hl, hr, fun a ha => hd a (by omega), Gives.now fun k => ?_⟩
    simp only [pomadelaw04_flipped.l0]
    rw [if_neg (by omega)]
  | succ d ih =>
    intro i xs h hl hr hd
    have hi : i < n * n := by omega
    have hm : n * n ≤ 121 := Nat.mul_le_mul h11 h11
    have hfl := flp_lt (n := n) (by omega) hi
    have hbr := bt_range s i
    have hv : (0 : Int) ≤ swI (bt s i) ∧ swI (bt s i) ≤ 255 := by unfold swI; split <;> (try split) <;> omega
    obtain ⟨ys, k1, k2, k3, k4⟩ := ih (i + 1) (xs.set (flp n i) (swI (bt s i))) (by omega) (by rw [List.length_set]; exact hl) (fun x hx => by
      rcases List.mem_or_eq_of_mem_set hx with h1 | h1
      · exact hr x h1
      · rw [h1]; exact hv) (fun a ha => by
      by_cases e : a = i
      · subst e
        rw [List.getD, List.getElem?_set_self (by omega), ← bt_bs]
        rfl
      · have hne : flp n i ≠ flp n a := fun e2 => e (by rw [← flp_flp (n := n) (by omega) hi, e2, flp_flp (by omega) (by omega)])
        rw [List.getD, List.getElem?_set_ne hne]
        exact hd a (by omega))
    refine ⟨ys, k1, k2, k3, k4.step fun k hk => ?_⟩
    show pomadelaw04_flipped.l0 (k + 1) n s xs i = _
    rw [flip_step n s k i (flp n i) xs (by omega) (by omega) (by omega) (flp_wrap n i hn h11 hi) (wr_succ i (by omega)) (by omega) (by omega)]
    exact hk
theorem bsOf_nums {xs : List Int} (h : ∀ x ∈ xs, 0 ≤ x ∧ x ≤ 255) : bsOf (strOfNums xs) = xs := by
  unfold bsOf
  rw [strOfNums_data, List.map_map]
  conv => rhs; rw [← List.map_id xs]
  refine List.map_congr_left fun x hx => ?_
  have := h x hx
  show ((UInt8.ofNat x.toNat).toNat : Int) = x
  rw [UInt8.toNat_ofNat']
  omega
theorem flipped_any (n : Nat) (s : ByteArray) (hn : 1 ≤ n) (h11 : n ≤ 11) (hs : s.size = n * n) :
    ∃ t : ByteArray, t.size = n * n ∧ Flip n (bsOf s) (bsOf t) ∧ ∀ w : World, Calls Tryd.prog 23 #[.int .i64 n, .string s] w fun e w' => e = .returned (.string t) ∧ Below w.heap.size w w' := by
  have hm : n * n ≤ 121 := Nat.mul_le_mul h11 h11
  obtain ⟨ys, k1, k2, k3, k4⟩ := flip_l0 n s hn h11 hs (n * n) 0 (List.replicate (n * n) 0) (by omega) List.length_replicate (fun x hx => by rw [(List.mem_replicate.1 hx).2]; omega) (fun a ha => by omega)
  obtain ⟨k0, hk0⟩ := k4.map (g := fun k => pomadelaw04_flipped.f k n s) (s := strOfNums ys) fun k hk => by
    simp only [pomadelaw04_flipped.f]
    rw [Int.toNat_natCast, if_pos (by omega), if_pos (by omega), hs]
    exact hk
  refine ⟨strOfNums ys, by rw [strOfNums_size, k1], fun a ha => by rw [bsOf_nums k2]; exact k3 a ha, ?_⟩
  exact fun w => pomadelaw04_flipped.calls k0 n s _ w (hk0 k0 (Nat.le_refl _))
end Go.Proofs.YtlmgkmmdaecpdaaDoor.Im

namespace Go.Proofs.YtlmgkmmdaecpdaaDoor.Im
open Go.RowKit Go.Proofs.YtlmgkmmdaecpdaaDoorW.PrintWords Go.Proofs.YtlmgkmmdaecpdaaDoorW.PrintLast Go.Proofs.YtlmgkmmdaecpdaaDoorW.PrintMore Go.Proofs.YtlmgkmmdaecpdaaDoor.Mi
set_option linter.unusedVariables false
structure Env (w : World) (mL : Int) : Prop where
  st : Steps w
  mx : w.cell? ⟨1, 0, none⟩ = some (.int .i64 mL)
theorem Env.later {w w' : World} {mL : Int} (h : Env w mL) {B : Nat} (hb : Below B w w') (hB : B = w.heap.size) : Env w' mL := by
  subst hB
  exact ⟨h.st.later hb, (hb.cell (World.block_lt_of_cell? w _ h.mx)).trans h.mx⟩
theorem alive_env {w : World} {mL : Int} (h : Env w mL) : Calls Tryd.prog 17 #[] w fun e w' => e = .returned (.bool true) ∧ Below w.heap.size w w' := alive_any w h.st mL h.mx
def pX : ByteArray := ⟨#[120]⟩
def pO : ByteArray := ⟨#[111]⟩
theorem needs_env {w : World} {mL : Int} (h : Env w mL) (n : Int) (s ps : ByteArray) (hs : s.size ≤ 9223372036854775807) (a e : Int) (hr : needsR n s ps = (a, e)) :
    Calls Tryd.prog 20 #[.int .i64 n, .string s, .string ps] w fun x w' => x = .returned (.tuple #[.int .i64 a, .int .i64 e]) ∧ Below w.heap.size w w' := by
  refine (needs_call n s ps w h.st hs).mono ?_
  rintro x w' ⟨h1, h2⟩
  rw [hr] at h2
  exact ⟨h2, h1⟩
theorem winner_env {w : World} {mL : Int} (h : Env w mL) (n : Int) (s : ByteArray) (hs : s.size ≤ 9223372036854775807) (hE : boE n s xoB = 0) (p : Int) (hp : winB n.toNat (bsOf s) = p) :
    Calls Tryd.prog 24 #[.int .i64 n, .string s] w fun x w' => ∃ G A c, x = .returned (.tuple #[.string (strP p), .slice (some A) G.length c, .int .i64 0]) ∧ brO n.toNat (bsOf s) p = some G ∧ Kd.R (Kd.int .i64) 3 w' w.heap.size (fun _ => True) (.slice (some A) G.length c) (ints G) ∧ Below w.heap.size w w' := by
  refine (winner_call n s w h.st hs).mono ?_
  rintro x w' ⟨h1, h2⟩
  rw [if_pos hE, hp] at h2
  obtain ⟨G, A, c, h3, h4, h5⟩ := h2
  exact ⟨G, A, c, h4, h3, h5, h1⟩
theorem needsR_eq {n : Int} {s t ps qs : ByteArray} (hs : boE n s xodB = 0) (ht : boE n t xodB = 0) (hp : plB ps = true) (hq : plB qs = true) (h : needO n.toNat (bsOf s) (bt ps 0) = needO n.toNat (bsOf t) (bt qs 0)) : needsR n s ps = needsR n t qs := by
  unfold needsR
  rw [if_pos hs, if_pos ht, if_pos hp, if_pos hq, h]
theorem pl_X : plB pX = true := by unfold plB pX; rw [ByteArray.toList_mk]; rfl
theorem pl_O : plB pO = true := by unfold plB pO; rw [ByteArray.toList_mk]; rfl
theorem boE_flip {n : Nat} {s t : ByteArray} {b : Bool} (h : boE n s (csB b) = 0) (ht : t.size = n * n) (hf : Flip n (bsOf s) (bsOf t)) : boE n t (csB b) = 0 := by
  obtain ⟨h1, h2, h3, h4⟩ := boE_iff.1 h
  have hsz : s.size = n * n := by rw [← Int.natCast_mul] at h3; omega
  refine boE_iff.2 ⟨h1, h2, by rw [ht, Int.natCast_mul], fun a ha => ?_⟩
  have ha' : a < n * n := by omega
  have hfl := flp_lt (n := n) (by omega) ha'
  have := hf _ hfl
  rw [flp_flp (by omega) ha'] at this
  rw [this]
  rcases h4 _ (by omega : flp n a < s.size) with k | k | ⟨k, k2⟩
  · rw [k]; exact .inr (.inl rfl)
  · rw [k]; exact .inl rfl
  · rw [k2]; exact .inr (.inr ⟨k, rfl⟩)
theorem flip_needsR {n : Nat} {s t : ByteArray} (hn : 1 ≤ n) (hs : boE n s xodB = 0) (ht : boE n t xodB = 0) (hf : Flip n (bsOf s) (bsOf t)) : needsR n s pX = needsR n t pO ∧ needsR n s pO = needsR n t pX :=
  ⟨needsR_eq hs ht pl_X pl_O (flip_need (p := 120) hn (.inl rfl) hf), needsR_eq hs ht pl_O pl_X (flip_need (p := 111) hn (.inr rfl) hf)⟩
end Go.Proofs.YtlmgkmmdaecpdaaDoor.Im

namespace Go.Proofs.YtlmgkmmdaecpdaaDoor.Im
open Go.RowKit Go.Proofs.YtlmgkmmdaecpdaaDoorW.PrintWords Go.Proofs.YtlmgkmmdaecpdaaDoorW.PrintLast Go.Proofs.YtlmgkmmdaecpdaaDoorW.PrintMore Go.Proofs.YtlmgkmmdaecpdaaDoor.Mi
set_option linter.unusedVariables false
set_option linter.unusedSimpArgs false
set_option maxHeartbeats 6400000 in
set_option maxRecDepth 100000 in
theorem law_flipped (n : Int) (s : ByteArray) (w : World) (hst : Steps w) (mL : Int) (hm : w.cell? ⟨1, 0, none⟩ = some (.int .i64 mL)) (hss : s.size ≤ 9223372036854775807) :
    Calls Tryd.prog 6 #[.int .i64 n, .string s] w fun e w' => e = .returned (.bool true) ∧ Below w.heap.size w w' := by
  have HE := Aside0.mk (Env.mk hst hm)
  clear hst hm
  by_cases h2 : 200 < s.size
  · have t1 : decide (200 < (s.size : Int)) = true := decide_eq_true (by omega)
    have t2 : decide (200 < s.size) = true := decide_eq_true h2
    clear h2
    go_enter Tryd.func6, Tryd.ntmps6
    go_wp2_with fail
    refine (alive_env HE.out).mono ?_
    rintro e w1 ⟨rfl, hb1⟩
    have HB1 := Aside0.mk hb1
    clear hb1
    go_wp2_with fail
    go_ret
    exact ⟨rfl, HB1.out⟩
  · have t1 : decide (200 < (s.size : Int)) = false := decide_eq_false (by omega)
    have t2 : decide (200 < s.size) = false := decide_eq_false h2
    have HBd := Aside0.mk (fun (b : Bool) (w1 : World) => board_any n s b w1 (by omega))
    obtain ⟨E, hE⟩ : ∃ E, boE n s (csB true) = E := ⟨_, rfl⟩
    have HB0 := Aside0.mk (hE ▸ HBd.out true w)
    by_cases h0 : E = 0
    · subst h0
      have HQ := Aside0.mk hE
      obtain ⟨k1, k2, k3, _⟩ := boE_iff.1 hE
      obtain ⟨m, rfl⟩ : ∃ m : Nat, n = m := ⟨n.toNat, by omega⟩
      have hsz : s.size = m * m := by rw [← Int.natCast_mul] at k3; omega
      obtain ⟨t, ht, hf, hfc⟩ := flipped_any m s (by omega) (by omega) hsz
      have HFl := Aside0.mk hfc
      have hbt : boE m t xodB = 0 := boE_flip (b := true) hE ht hf
      obtain ⟨r1, r2⟩ := flip_needsR (by omega) hE hbt hf
      obtain ⟨a, ha⟩ : ∃ a, needsR m s pX = a := ⟨_, rfl⟩
      obtain ⟨b, hb⟩ : ∃ b, needsR m s pO = b := ⟨_, rfl⟩
      rw [ha] at r1
      rw [hb] at r2
      obtain ⟨a0, a1⟩ := a
      obtain ⟨b0, b1⟩ := b
      have hss2 : t.size ≤ 9223372036854775807 := by have : m * m ≤ 121 := Nat.mul_le_mul (show m ≤ 11 by omega) (show m ≤ 11 by omega); omega
      have HN1 := Aside0.mk (fun (w1 : World) (h : Env w1 mL) => needs_env h m s pX hss a0 a1 ha)
      have HN2 := Aside0.mk (fun (w1 : World) (h : Env w1 mL) => needs_env h m t pO hss2 a0 a1 r1.symm)
      have HN3 := Aside0.mk (fun (w1 : World) (h : Env w1 mL) => needs_env h m s pO hss b0 b1 hb)
      have HN4 := Aside0.mk (fun (w1 : World) (h : Env w1 mL) => needs_env h m t pX hss2 b0 b1 r2.symm)
      obtain ⟨F, hF⟩ : ∃ F, boE m s (csB false) = F := ⟨_, rfl⟩
      have HB9 := Aside0.mk (fun w1 => hF ▸ HBd.out false w1)
      have HPL := Aside0.mk (fun (h0 : F = 0) => (show boE m s xoB = 0 ∧ boE m t xoB = 0 ∧ (winB m (bsOf s) = 120 ∧ winB m (bsOf t) = 111 ∨ winB m (bsOf s) = 111 ∧ winB m (bsOf t) = 120) ∧ ∀ G H, brO m (bsOf s) (winB m (bsOf s)) = some G → brO m (bsOf t) (winB m (bsOf t)) = some H → G.length = H.length from by
        subst h0
        have e1 : boE m s xoB = 0 := hF
        obtain ⟨e2, e3⟩ := flip_win (by omega) (fun a ha => full_byte e1 (by omega)) hf
        exact ⟨e1, boE_flip (b := false) hF ht hf, e2, e3⟩))
      have HSS := Aside0.mk hss2
      clear hbt r1 r2 ha hb hfc hf ht hE k1 k2 k3 hss2 HBd hF hsz
      go_enter Tryd.func6, Tryd.ntmps6
      go_wp2_with fail
      refine HB0.out.mono ?_
      rintro e w1 ⟨rfl, hb1⟩
      have HB1 := Aside0.mk hb1
      clear hb1
      go_wp2_with fail
      refine (HFl.out w1).mono ?_
      rintro e w2 ⟨rfl, hb2⟩
      have HB2 := Aside0.mk (below_then HB1.out HB1.out.size hb2)
      clear hb2 HB1
      go_wp2_with fail
      refine (HN1.out w2 (HE.out.later HB2.out rfl)).mono ?_
      rintro e w3 ⟨rfl, hb3⟩
      have HB3 := Aside0.mk (below_then HB2.out HB2.out.size hb3)
      clear hb3 HB2
      go_wp2_with fail
      refine (HN2.out w3 (HE.out.later HB3.out rfl)).mono ?_
      rintro e w4 ⟨rfl, hb4⟩
      have HB4 := Aside0.mk (below_then HB3.out HB3.out.size hb4)
      clear hb4 HB3
      go_wp2_with fail
      refine (HN3.out w4 (HE.out.later HB4.out rfl)).mono ?_
      rintro e w5 ⟨rfl, hb5⟩
      have HB5 := Aside0.mk (below_then HB4.out HB4.out.size hb5)
      clear hb5 HB4
      go_wp2_with fail
      refine (HN4.out w5 (HE.out.later HB5.out rfl)).mono ?_
      rintro e w6 ⟨rfl, hb6⟩
      have HB6 := Aside0.mk (below_then HB5.out HB5.out.size hb6)
      clear hb6 HB5
      go_wp2_with fail
      refine (HB9.out w6).mono ?_
      rintro e w7 ⟨rfl, hb7⟩
      have HB7 := Aside0.mk (below_then HB6.out HB6.out.size hb7)
      clear hb7 HB6
      by_cases h0 : F = 0
      · obtain ⟨e1, e2, e3, e4⟩ := HPL.out h0
        subst h0
        clear HPL
        have HE4 := Aside0.mk e4
        obtain ⟨p, q, hp, hq, hpq⟩ : ∃ p q, winB m (bsOf s) = p ∧ winB m (bsOf t) = q ∧ (p = 120 ∧ q = 111 ∨ p = 111 ∧ q = 120) := ⟨_, _, rfl, rfl, e3⟩
        have HW1 := Aside0.mk (fun (w1 : World) (h : Env w1 mL) => winner_env h m s hss e1 p hp)
        have HW2 := Aside0.mk (fun (w1 : World) (h : Env w1 mL) => winner_env h m t HSS.out e2 q hq)
        have HP := Aside0.mk hp
        have HQ2 := Aside0.mk hq
        clear e1 e2 e3 e4 hp hq
        go_wp2_with fail
        refine (HW1.out w7 (HE.out.later HB7.out rfl)).mono ?_
        rintro e w8 ⟨G, A8, c8, rfl, hG, _, hb8⟩
        have HB8 := Aside0.mk (below_then HB7.out HB7.out.size hb8)
        have HG := Aside0.mk hG
        clear hb8 HB7 hG
        go_wp2_with fail
        refine (HW2.out w8 (HE.out.later HB8.out rfl)).mono ?_
        rintro e w9 ⟨H, A9, c9, rfl, hH, _, hb9⟩
        have HB9 := Aside0.mk (below_then HB8.out HB8.out.size hb9)
        have hlen : G.length = H.length := HE4.out G H (by rw [HP.out]; exact HG.out) (by rw [HQ2.out]; exact hH)
        rw [hlen]
        clear hb9 HB8 hH hlen HE4
        rcases hpq with ⟨rfl, rfl⟩ | ⟨rfl, rfl⟩
        · rw [show strP 120 = ⟨#[120]⟩ from rfl, show strP 111 = ⟨#[111]⟩ from rfl]
          go_wp2_with fail
          refine (alive_env (HE.out.later HB9.out rfl)).mono ?_
          rintro e w10 ⟨rfl, hb10⟩
          have HB10 := Aside0.mk (below_then HB9.out HB9.out.size hb10)
          clear hb10 HB9
          go_wp2_with fail
          go_ret
          exact ⟨rfl, HB10.out⟩
        · rw [show strP 120 = ⟨#[120]⟩ from rfl, show strP 111 = ⟨#[111]⟩ from rfl]
          go_wp2_with fail
          refine (alive_env (HE.out.later HB9.out rfl)).mono ?_
          rintro e w10 ⟨rfl, hb10⟩
          have HB10 := Aside0.mk (below_then HB9.out HB9.out.size hb10)
          clear hb10 HB9
          go_wp2_with fail
          go_ret
          exact ⟨rfl, HB10.out⟩
      · have q0 : (F == 0) = false := beq_eq_false_iff_ne.2 h0
        clear h0 HPL
        go_wp2_with fail
        refine (alive_env (HE.out.later HB7.out rfl)).mono ?_
        rintro e w8 ⟨rfl, hb8⟩
        have HB8 := Aside0.mk (below_then HB7.out HB7.out.size hb8)
        clear hb8 HB7
        go_wp2_with fail
        go_ret
        exact ⟨rfl, HB8.out⟩
    · have q0 : (E == 0) = false := beq_eq_false_iff_ne.2 h0
      clear h0 hE
      go_enter Tryd.func6, Tryd.ntmps6
      go_wp2_with fail
      refine HB0.out.mono ?_
      rintro e w1 ⟨rfl, hb1⟩
      have HB1 := Aside0.mk hb1
      clear hb1
      go_wp2_with fail
      refine (alive_env (HE.out.later HB1.out rfl)).mono ?_
      rintro e w2 ⟨rfl, hb2⟩
      have HB2 := Aside0.mk (below_then HB1.out HB1.out.size hb2)
      clear hb2
      go_wp2_with fail
      go_ret
      exact ⟨rfl, HB2.out⟩
end Go.Proofs.YtlmgkmmdaecpdaaDoor.Im

