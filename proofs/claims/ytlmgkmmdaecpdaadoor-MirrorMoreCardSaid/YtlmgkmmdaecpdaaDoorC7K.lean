/- Further parts of the same walk: contracts of the functions that the law reaches, each under the conditions that it states. -/
import Derived.Test.YtlmgkmmdaecpdaaDoorC7J
namespace Go.Proofs.YtlmgkmmdaecpdaaDoor.Im
open Go.RowKit Go.Proofs.YtlmgkmmdaecpdaaDoorW.PrintWords Go.Proofs.YtlmgkmmdaecpdaaDoorW.PrintLast Go.Proofs.YtlmgkmmdaecpdaaDoorW.PrintMore
attribute [local go_sem] max2_int min2_int max_two min_two max_three min_three max_four min_four
set_option linter.unusedVariables false
set_option linter.unusedSimpArgs false
def pomadelaw04_flipped.l0 : Nat → Int → ByteArray → List Int → Int → Option (ByteArray)
  | 0, _, _, _, _ => none
  | k + 1, x0, x1, x5, x6 => if x6 < (x1.size : Int) then (if 0 ≤ x6 then (if (bt x1 x6) = 120 then (if x0 = 0 then (none) else (if 0 ≤ (wrap64 ((wrap64 ((Int.tmod x6 x0) * x0)) + (wrap64 (Int.tdiv x6 x0)))) then (if (wrap64 ((wrap64 ((Int.tmod x6 x0) * x0)) + (wrap64 (Int.tdiv x6 x0)))) < (x5.length : Int) then (pomadelaw04_flipped.l0 k x0 x1 (x5.set ((wrap64 ((wrap64 ((Int.tmod x6 x0) * x0)) + (wrap64 (Int.tdiv x6 x0)))) : Int).toNat 111) (wrap64 (x6 + 1))) else (none)) else (none))) else (if (bt x1 x6) = 111 then (if x0 = 0 then (none) else (if 0 ≤ (wrap64 ((wrap64 ((Int.tmod x6 x0) * x0)) + (wrap64 (Int.tdiv x6 x0)))) then (if (wrap64 ((wrap64 ((Int.tmod x6 x0) * x0)) + (wrap64 (Int.tdiv x6 x0)))) < (x5.length : Int) then (pomadelaw04_flipped.l0 k x0 x1 (x5.set ((wrap64 ((wrap64 ((Int.tmod x6 x0) * x0)) + (wrap64 (Int.tdiv x6 x0)))) : Int).toNat 120) (wrap64 (x6 + 1))) else (none)) else (none))) else (if x0 = 0 then (none) else (if 0 ≤ (wrap64 ((wrap64 ((Int.tmod x6 x0) * x0)) + (wrap64 (Int.tdiv x6 x0)))) then (if (wrap64 ((wrap64 ((Int.tmod x6 x0) * x0)) + (wrap64 (Int.tdiv x6 x0)))) < (x5.length : Int) then (pomadelaw04_flipped.l0 k x0 x1 (x5.set ((wrap64 ((wrap64 ((Int.tmod x6 x0) * x0)) + (wrap64 (Int.tdiv x6 x0)))) : Int).toNat (bt x1 x6)) (wrap64 (x6 + 1))) else (none)) else (none))))) else (none)) else (some (strOfNums x5))
def pomadelaw04_flipped.f (k : Nat) (a0 : Int) (a1 : ByteArray) : Option (ByteArray) := if 0 ≤ (a1.size : Int) then (if ((a1.size : Int) : Int).toNat ≤ 281474976710656 then (pomadelaw04_flipped.l0 k a0 a1 (List.replicate ((a1.size : Int) : Int).toNat 0) 0) else (none)) else (none)
theorem pomadelaw04_flipped.mono_l : ∀ k, (∀ y0 y1 y2 y3, LeO (pomadelaw04_flipped.l0 k y0 y1 y2 y3) (pomadelaw04_flipped.l0 (k + 1) y0 y1 y2 y3))
  | 0 => fun _ _ _ _ r h => by simp [pomadelaw04_flipped.l0] at h
  | k + 1 => by
    have ih0 := pomadelaw04_flipped.mono_l k
    · intro y0 y1 y2 y3
      unfold pomadelaw04_flipped.l0
      repeat' first
      | (with_reducible exact ih0 _ _ _ _)
      | (with_reducible exact LeO.refl _)
      | (with_reducible exact LeO.none _)
      | (with_reducible refine LeO.ite ?_ ?_)
      | (with_reducible refine LeO.bind ?_ (fun _ => ?_))
      | exact ih0 _ _ _ _
      | exact LeO.none _
      | refine LeO.ite ?_ ?_
      | refine LeO.bind ?_ (fun _ => ?_)
theorem pomadelaw04_flipped.mono : ∀ a0 a1 k, LeO (pomadelaw04_flipped.f k a0 a1) (pomadelaw04_flipped.f (k + 1) a0 a1) := by
  intro a0 a1 k
  have ih0 := pomadelaw04_flipped.mono_l k
  unfold pomadelaw04_flipped.f
  repeat' first
      | (with_reducible exact ih0 _ _ _ _)
      | (with_reducible exact LeO.refl _)
      | (with_reducible exact LeO.none _)
      | (with_reducible refine LeO.ite ?_ ?_)
      | (with_reducible refine LeO.bind ?_ (fun _ => ?_))
      | exact ih0 _ _ _ _
      | exact LeO.none _
      | refine LeO.ite ?_ ?_
      | refine LeO.bind ?_ (fun _ => ?_)
def pomadelaw04_flipped.T10 : Bool × List (List Nat × List Nat) := (true, [([], []), ([], []), ([], []), ([1, 2], [1, 2]), ([], []), ([3, 4], [3, 4]), ([], []), ([], []), ([6, 7], [6, 7]), ([5, 8], [5, 8]), ([], []), ([0, 9, 0, 1, 2, 3, 4, 5, 6, 7, 8, 9, 10], [0, 9]), ([11, 10, 0, 1, 2, 3, 4, 5, 6, 7, 8, 9, 10], [10, 11])])
def pomadelaw04_flipped.B10 : List Nat := [0, 0, 0, 6, 0, 30, 0, 0, 192, 510, 0, 2047, 4095]
theorem pomadelaw04_flipped.tab10 : rtab .any (opsOf Tryd.f23 10) = pomadelaw04_flipped.T10 := by kernel_rfl
theorem pomadelaw04_flipped.bits10 : waitsOk pomadelaw04_flipped.T10.2 pomadelaw04_flipped.B10 = true := by kernel_rfl
set_option maxHeartbeats 8000000 in
set_option maxRecDepth 100000 in
theorem pomadelaw04_flipped.calls (k : Nat) (a0 : Int) (a1 : ByteArray) (r : ByteArray) (w : World) (h : pomadelaw04_flipped.f k a0 a1 = some r) :
    Calls Tryd.prog 23 #[.int .i64 a0, .string a1] w fun e w' => e = .returned (.string r) ∧ Below w.heap.size w w' := by
  have HB := Aside0.mk (Below.refl w.heap.size w)
  have H : (if 0 ≤ (a1.size : Int) then (if ((a1.size : Int) : Int).toNat ≤ 281474976710656 then (pomadelaw04_flipped.l0 k a0 a1 (List.replicate ((a1.size : Int) : Int).toNat 0) 0) else (none)) else (none)) = some r := h
  clear h
  by_cases c3 : 0 ≤ (a1.size : Int)
  · rw [if_pos c3] at H
    have c3b0 := eq_true c3
    have c3b1 : decide (0 ≤ (a1.size : Int)) = true := decide_eq_true c3
    clear c3
    by_cases c4 : ((a1.size : Int) : Int).toNat ≤ 281474976710656
    · rw [if_pos c4] at H
      have c4b0 := eq_true c4
      have c4b1 : decide (((a1.size : Int) : Int).toNat ≤ 281474976710656) = true := decide_eq_true c4
      clear c4
      obtain ⟨y234, hy234⟩ : ∃ y_ : List Int, y_ = (List.replicate ((a1.size : Int) : Int).toNat 0) := ⟨_, rfl⟩
      replace H : (pomadelaw04_flipped.l0 k a0 a1 y234 0) = some r := by first | (rw [hy234]; with_reducible exact H) | (have H2_ := (Option.bind_some _ _).symm.trans H; rw [hy234]; with_reducible exact H2_) | (have H2_ := (Option.bind_some _ _).symm.trans H; with_reducible exact H2_) | with_reducible exact H | (rw [hy234]; exact H) | exact H
      have Ny234 := Aside0.mk hy234
      clear hy234
      have H' := Aside0.mk H
      clear H
      go_enter Tryd.func23, Tryd.ntmps23
      go_wp2_with (first | ((with_reducible refine gate_dst (N := 10) rfl ?_); refine Kd.R_make (Kd.int .u8) _ 5 rfl (N := 10) rfl 60 _ _ rfl (a1.size : Int) rfl rfl Tryd.underlying60 (.int .u8 0) 1 info5 rfl (by decide) (by omega) 0 (ok := fun _ => True) (okp := fun _ => True) rfl (fun _ hk => hk) trivial (of_decide_eq_true (by first | (with_reducible assumption) | assumption)) (Nat.le_trans (Nat.mul_le_mul_right _ (of_decide_eq_true (by first | (with_reducible assumption) | assumption) : (a1.size : Int).toNat ≤ 281474976710656)) (by omega)) (Below.refl _ _) (Nat.le_refl _) ?_; intro v235 w5 ho6 hb hg_ hnew_; clear hg_ hnew_; (first | rw [← Ny234.out] at ho6 | (simp only [Int.reduceToNat] at ho6; rw [← Ny234.out] at ho6)); have n0_ := Aside0.mk (Kd.R_lower ho6 (below_size (by repeat (first | (with_reducible first | exact HB.out | apply below_alloc | apply pw_below_drewN | apply below_drew1) | exact HB.out)))); have n1_ := Aside0.mk (below_step (by repeat (first | (with_reducible first | exact HB.out | apply below_alloc | apply pw_below_drewN | apply below_drew1) | exact HB.out)) hb); clear HB; have HO236 := n0_; have HB := n1_; clear n0_ n1_; clear hb ho6))
      go_loopg [6] k (fun kq v6 w' => ∃ (x5_1 : List Int) (x6_1 : Int), v6 = .int .i64 x6_1 ∧ Aside0 (pomadelaw04_flipped.l0 kq a0 a1 x5_1 x6_1 = some r) ∧ Aside0 (kq ≤ k) ∧ Aside0 (Kd.R (Kd.int .u8) 5 w' w.heap.size (fun _ => True) v235 x5_1) ∧ Aside0 (Below w.heap.size w w'))
      case atStart => exact ⟨(y234), (0), (by first | rfl | (simp; done) | (simp [*]; done)), H', ⟨Nat.le_refl _⟩, ⟨by (with_reducible repeat (first | apply Kd.R_alloc | apply Kd.R_drewN | apply Kd.R_drew)); exact HO236.out⟩, ⟨by repeat (first | (with_reducible first | exact HB.out | apply below_alloc | apply pw_below_drewN | apply below_drew1) | exact HB.out)⟩⟩
      case round =>
        clear H'
        try clear c2
        try clear p2
        try clear c3
        try clear c3b0
        try clear c3b1
        try clear c4
        try clear c4b0
        try clear c4b1
        obtain ⟨x5_1, x6_1, rfl, HA, HK1, HO_5, HB⟩ := hrel
        cases gk with
        | zero => exact absurd HA.out (by simp [pomadelaw04_flipped.l0])
        | succ k1 =>
          have H := HA.out
          clear HA
          simp only [pomadelaw04_flipped.l0] at H
          by_cases c7 : x6_1 < (a1.size : Int)
          · rw [if_pos c7] at H
            have c7b0 : decide (x6_1 < (a1.size : Int)) = true := decide_eq_true c7
            clear c7
            by_cases c8 : 0 ≤ x6_1
            · rw [if_pos c8] at H
              have c8b0 : decide (0 ≤ x6_1) = true := decide_eq_true c8
              clear c8
              by_cases c10 : (bt a1 x6_1) = 120
              · rw [if_pos c10] at H
                have c10b0 : ((bt a1 x6_1) == 120) = true := beq_iff_eq.mpr c10
                have c10b1 : ((bt a1 x6_1) != 120) = false := bne_eq_false_iff_eq.mpr c10
                clear c10
                by_cases c11 : a0 = 0
                · rw [if_pos c11] at H
                  exact absurd H (by simp)
                · rw [if_neg c11] at H
                  have c11b0 : (a0 == 0) = false := beq_eq_false_iff_ne.mpr c11
                  have c11b1 : (a0 != 0) = true := bne_iff_ne.mpr c11
                  obtain ⟨ji12, hji12⟩ : ∃ j_ : Int, (wrap64 ((wrap64 ((Int.tmod x6_1 a0) * a0)) + (wrap64 (Int.tdiv x6_1 a0)))) = j_ := ⟨_, rfl⟩
                  replace H : (if 0 ≤ (ji12) then (if (ji12) < (x5_1.length : Int) then (pomadelaw04_flipped.l0 k1 a0 a1 (x5_1.set ((ji12) : Int).toNat 111) (wrap64 (x6_1 + 1))) else (none)) else (none)) = some r := by first | (rw [hji12] at H; exact H) | (simp only [hji12] at H ⊢; exact H)
                  have hji12w : (IntKind.i64.wrap ((wrap64 ((Int.tmod x6_1 a0) * a0)) + (wrap64 (Int.tdiv x6_1 a0)))) = ji12 := (i64_w _).trans hji12
                  by_cases c13 : 0 ≤ (ji12)
                  · rw [if_pos c13] at H
                    have c13b0 : decide (0 ≤ (ji12)) = true := decide_eq_true c13
                    clear c13
                    by_cases c14 : (ji12) < (x5_1.length : Int)
                    · rw [if_pos c14] at H
                      have c14b0 : decide ((ji12) < (x5_1.length : Int)) = true := decide_eq_true c14
                      clear c14
                      obtain ⟨y237, hy237⟩ : ∃ y_ : List Int, y_ = (x5_1.set ((ji12) : Int).toNat 111) := ⟨_, rfl⟩
                      replace H : (pomadelaw04_flipped.l0 k1 a0 a1 y237 (wrap64 (x6_1 + 1))) = some r := by first | (rw [hy237]; with_reducible exact H) | (have H2_ := (Option.bind_some _ _).symm.trans H; rw [hy237]; with_reducible exact H2_) | (have H2_ := (Option.bind_some _ _).symm.trans H; with_reducible exact H2_) | with_reducible exact H | (rw [hy237]; exact H) | exact H
                      have Ny237 := Aside0.mk hy237
                      clear hy237
                      have H' := Aside0.mk H
                      clear H
                      have p9 : 0 ≤ (x6_1 : Int) := of_decide_eq_true (by first | (with_reducible assumption) | assumption)
                      have q9 : x6_1 < (a1.size : Int) := of_decide_eq_true (by first | (with_reducible assumption) | assumption)
                      have hx9 := bt_at a1 x6_1
                      replace p9 := eq_true p9
                      replace q9 := eq_true q9
                      try go_wp2
                      have n0_ := Aside0.mk (Kd.R_drew HO_5.out)
                      have n1_ := Aside0.mk (below_drew1 HB.out)
                      clear HO_5
                      clear HB
                      have HO_5 := n0_
                      have HB := n1_
                      clear n0_ n1_
                      have p15 : 0 ≤ ((ji12) : Int) := of_decide_eq_true (by first | (with_reducible assumption) | assumption)
                      have q15 : ((ji12) : Int) < ((x5_1.length : Int) : Int) := of_decide_eq_true (by first | (with_reducible assumption) | assumption)
                      obtain ⟨go15, co15, eo15, gb15, gl15, cl15, HG15⟩ := Kd.R_form HO_5.out (by omega)
                      (first | cases eo15 | (injection eo15 with ea_ en_ ec_; (first | subst ea_ | (injection ea_ with ea_; subst ea_)); subst ec_; clear en_))
                      have GB15 := Aside0.mk gb15
                      have GG15 := Aside0.mk HG15
                      clear gb15 gl15 HG15
                      obtain ⟨hx15_0, hf15_0⟩ := Kd.R_celln 0 HO_5.out ((ji12) : Int) p15 q15
                      replace p15 := eq_true p15
                      replace q15 := eq_true q15
                      have HP17 := Kd.R_putn HO_5.out ((ji12) : Int) 111
                      rw [← Ny237.out] at HP17
                      have HQ17 := Aside0.mk HP17
                      clear HP17
                      refine start_ (n := 13) (S := fun w' => True) (ds := [12]) #[false, false, false, false, false, false, false, false, false, false, false, false, false] (by kernel_rfl) rfl rfl trivial (fun hHeld => ?_); refine with_tabW pomadelaw04_flipped.tab10 pomadelaw04_flipped.bits10 (fun HT_ HW_ => ?_)
                      generalize wr.drew = w16 at HO_5 HB GG15 HQ17 hf15_0 hx15_0 hHeld ⊢
                      refine pure_ (i := 0) (N := some 24) (v := ?_) (a' := ?_) #[true, false, false, false, false, false, false, false, false, false, false, false, false] rfl rfl (any_of HT_.out (by kernel_rfl)) (fun _ _ _ h => h) (Or.inl ⟨by rfl, ?_⟩) ?_ ?_
                      rotate_left
                      · intro w'
                        go_simp
                        with_reducible rfl
                      rotate_left
                      · simp only [Act.put, List.setIfInBounds_toArray, List.set_cons_zero, List.set_cons_succ, i64_w, i32_w]
                        rfl
                      refine pure_ (i := 1) (N := some 25) (v := ?_) (a' := ?_) #[true, true, false, false, false, false, false, false, false, false, false, false, false] rfl rfl (any_of HT_.out (by kernel_rfl)) (fun _ _ _ h => h) (Or.inl ⟨by rfl, ?_⟩) ?_ ?_
                      rotate_left
                      · intro w'
                        go_simp
                        with_reducible rfl
                      rotate_left
                      · simp only [Act.put, List.setIfInBounds_toArray, List.set_cons_zero, List.set_cons_succ, i64_w, i32_w]
                        rfl
                      refine pure_ (i := 2) (N := some 26) (v := ?_) (a' := ?_) #[true, true, true, false, false, false, false, false, false, false, false, false, false] rfl rfl (any_of HT_.out (by kernel_rfl)) (fun _ _ _ h => h) (Or.inl ⟨by rfl, ?_⟩) ?_ ?_
                      rotate_left
                      · intro w'
                        go_simp
                        with_reducible rfl
                      rotate_left
                      · simp only [Act.put, List.setIfInBounds_toArray, List.set_cons_zero, List.set_cons_succ, i64_w, i32_w]
                        rfl
                      refine pure_ (i := 3) (N := some 27) (v := ?_) (a' := ?_) #[true, true, true, true, false, false, false, false, false, false, false, false, false] rfl rfl (any_of HT_.out (by kernel_rfl)) (fun _ _ _ h => h) (Or.inl ⟨by rfl, ?_⟩) ?_ ?_
                      rotate_left
                      · intro w'
                        go_simp
                        with_reducible rfl
                      rotate_left
                      · simp only [Act.put, List.setIfInBounds_toArray, List.set_cons_zero, List.set_cons_succ, i64_w, i32_w]
                        rfl
                      refine pure_ (i := 4) (N := some 28) (v := ?_) (a' := ?_) #[true, true, true, true, true, false, false, false, false, false, false, false, false] rfl rfl (any_of HT_.out (by kernel_rfl)) (fun _ _ _ h => h) (Or.inl ⟨by rfl, ?_⟩) ?_ ?_
                      rotate_left
                      · intro w'
                        go_simp
                        with_reducible rfl
                      rotate_left
                      · simp only [Act.put, List.setIfInBounds_toArray, List.set_cons_zero, List.set_cons_succ, i64_w, i32_w]
                        rfl
                      refine pure_ (i := 5) (N := some 29) (v := ?_) (a' := ?_) #[true, true, true, true, true, true, false, false, false, false, false, false, false] rfl rfl (any_of HT_.out (by kernel_rfl)) (fun _ _ _ h => h) (Or.inl ⟨by rfl, ?_⟩) ?_ ?_
                      rotate_left
                      · intro w'
                        go_simp
                        with_reducible rfl
                      rotate_left
                      · simp only [Act.put, List.setIfInBounds_toArray, List.set_cons_zero, List.set_cons_succ, i64_w, i32_w]
                        rfl
                      refine pure_ (i := 6) (N := some 30) (v := ?_) (a' := ?_) #[true, true, true, true, true, true, true, false, false, false, false, false, false] rfl rfl (any_of HT_.out (by kernel_rfl)) (fun _ _ _ h => h) (Or.inl ⟨by rfl, ?_⟩) ?_ ?_
                      rotate_left
                      · intro w'
                        go_simp
                        with_reducible rfl
                      rotate_left
                      · simp only [Act.put, List.setIfInBounds_toArray, List.set_cons_zero, List.set_cons_succ, i64_w, i32_w]
                        rfl
                      refine pure_ (i := 7) (N := some 31) (v := ?_) (a' := ?_) #[true, true, true, true, true, true, true, true, false, false, false, false, false] rfl rfl (any_of HT_.out (by kernel_rfl)) (fun _ _ _ h => h) (Or.inl ⟨by rfl, ?_⟩) ?_ ?_
                      rotate_left
                      · intro w'
                        go_simp
                        with_reducible rfl
                      rotate_left
                      · simp only [Act.put, List.setIfInBounds_toArray, List.set_cons_zero, List.set_cons_succ, i64_w, i32_w]
                        rfl
                      refine pure_ (i := 8) (N := some 32) (v := ?_) (a' := ?_) #[true, true, true, true, true, true, true, true, true, false, false, false, false] rfl rfl (any_of HT_.out (by kernel_rfl)) (fun _ _ _ h => h) (Or.inl ⟨by rfl, ?_⟩) ?_ ?_
                      rotate_left
                      · intro w'
                        go_simp
                        with_reducible rfl
                      rotate_left
                      · simp only [Act.put, List.setIfInBounds_toArray, List.set_cons_zero, List.set_cons_succ, i64_w, i32_w]
                        rfl
                      refine pure_ (i := 9) (N := some 33) (v := ?_) (a' := ?_) #[true, true, true, true, true, true, true, true, true, true, false, false, false] rfl rfl (any_of HT_.out (by kernel_rfl)) (fun _ _ _ h => h) (Or.inl ⟨by rfl, ?_⟩) ?_ ?_
                      rotate_left
                      · intro w'
                        go_simp
                        with_reducible rfl
                      rotate_left
                      · simp only [Act.put, List.setIfInBounds_toArray, List.set_cons_zero, List.set_cons_succ, i64_w, i32_w]
                        rfl
                      refine pure_ (i := 10) (N := some 34) (v := ?_) (a' := ?_) #[true, true, true, true, true, true, true, true, true, true, true, false, false] rfl rfl (any_of HT_.out (by kernel_rfl)) (fun _ _ _ h => h) (Or.inl ⟨by rfl, ?_⟩) ?_ ?_
                      rotate_left
                      · intro w'
                        go_simp
                        with_reducible rfl
                      rotate_left
                      · simp only [Act.put, List.setIfInBounds_toArray, List.set_cons_zero, List.set_cons_succ, i64_w, i32_w]
                        rfl
                      refine pure_ (i := 11) (N := some 35) (v := ?_) (a' := ?_) #[true, true, true, true, true, true, true, true, true, true, true, true, false] rfl rfl (any_of HT_.out (by kernel_rfl)) (fun _ _ _ h => h) (Or.inl ⟨by rfl, ?_⟩) ?_ ?_
                      rotate_left
                      · intro w'
                        go_simp
                        with_reducible rfl
                      rotate_left
                      · simp only [Act.put, List.setIfInBounds_toArray, List.set_cons_zero, List.set_cons_succ, i64_w, i32_w]
                        rfl
                      refine last_ (i := 12) (N := none) #[true, true, true, true, true, true, true, true, true, true, true, true, true] rfl rfl (one_of HT_.out (by kernel_rfl)) (by decide) (fun K hK => ?_)
                      refine skip_ (w1 := ?_) (by rfl) rfl ?_ ?_
                      rotate_left
                      · go_simp
                        rfl
                      refine hK.out _ _ ?_
                      clear hK K
                      refine done_ (done_of HT_.out (by kernel_rfl)) ?_
                      try go_wp2
                      go_roundg k1
                      case measure => have := HK1.out; omega
                      case rel => exact ⟨(y237), (wrap64 (x6_1 + 1)), (by first | rfl | (simp; done) | (simp [*]; done)), H', ⟨by have := HK1.out; omega⟩, ⟨by (with_reducible repeat (first | apply Kd.R_alloc | apply Kd.R_drewN | apply Kd.R_drew)); exact HQ17.out⟩, ⟨by repeat (first | (with_reducible first | exact HB.out | apply below_alloc | apply pw_below_drewN | apply below_drew1 | refine below_set ?_ GB15.out) | exact HB.out)⟩⟩
                    · rw [if_neg c14] at H
                      exact absurd H (by simp)
                  · rw [if_neg c13] at H
                    exact absurd H (by simp)
              · rw [if_neg c10] at H
                have c10b0 : ((bt a1 x6_1) == 120) = false := beq_eq_false_iff_ne.mpr c10
                have c10b1 : ((bt a1 x6_1) != 120) = true := bne_iff_ne.mpr c10
                by_cases c18 : (bt a1 x6_1) = 111
                · rw [if_pos c18] at H
                  have c18b0 : ((bt a1 x6_1) == 111) = true := beq_iff_eq.mpr c18
                  have c18b1 : ((bt a1 x6_1) != 111) = false := bne_eq_false_iff_eq.mpr c18
                  clear c18
                  by_cases c19 : a0 = 0
                  · rw [if_pos c19] at H
                    exact absurd H (by simp)
                  · rw [if_neg c19] at H
                    have c19b0 : (a0 == 0) = false := beq_eq_false_iff_ne.mpr c19
                    have c19b1 : (a0 != 0) = true := bne_iff_ne.mpr c19
                    obtain ⟨ji20, hji20⟩ : ∃ j_ : Int, (wrap64 ((wrap64 ((Int.tmod x6_1 a0) * a0)) + (wrap64 (Int.tdiv x6_1 a0)))) = j_ := ⟨_, rfl⟩
                    replace H : (if 0 ≤ (ji20) then (if (ji20) < (x5_1.length : Int) then (pomadelaw04_flipped.l0 k1 a0 a1 (x5_1.set ((ji20) : Int).toNat 120) (wrap64 (x6_1 + 1))) else (none)) else (none)) = some r := by first | (rw [hji20] at H; exact H) | (simp only [hji20] at H ⊢; exact H)
                    have hji20w : (IntKind.i64.wrap ((wrap64 ((Int.tmod x6_1 a0) * a0)) + (wrap64 (Int.tdiv x6_1 a0)))) = ji20 := (i64_w _).trans hji20
                    by_cases c21 : 0 ≤ (ji20)
                    · rw [if_pos c21] at H
                      have c21b0 : decide (0 ≤ (ji20)) = true := decide_eq_true c21
                      clear c21
                      by_cases c22 : (ji20) < (x5_1.length : Int)
                      · rw [if_pos c22] at H
                        have c22b0 : decide ((ji20) < (x5_1.length : Int)) = true := decide_eq_true c22
                        clear c22
                        obtain ⟨y238, hy238⟩ : ∃ y_ : List Int, y_ = (x5_1.set ((ji20) : Int).toNat 120) := ⟨_, rfl⟩
                        replace H : (pomadelaw04_flipped.l0 k1 a0 a1 y238 (wrap64 (x6_1 + 1))) = some r := by first | (rw [hy238]; with_reducible exact H) | (have H2_ := (Option.bind_some _ _).symm.trans H; rw [hy238]; with_reducible exact H2_) | (have H2_ := (Option.bind_some _ _).symm.trans H; with_reducible exact H2_) | with_reducible exact H | (rw [hy238]; exact H) | exact H
                        have Ny238 := Aside0.mk hy238
                        clear hy238
                        have H' := Aside0.mk H
                        clear H
                        have p9 : 0 ≤ (x6_1 : Int) := of_decide_eq_true (by first | (with_reducible assumption) | assumption)
                        have q9 : x6_1 < (a1.size : Int) := of_decide_eq_true (by first | (with_reducible assumption) | assumption)
                        have hx9 := bt_at a1 x6_1
                        replace p9 := eq_true p9
                        replace q9 := eq_true q9
                        try go_wp2
                        have n0_ := Aside0.mk (Kd.R_drew HO_5.out)
                        have n1_ := Aside0.mk (below_drew1 HB.out)
                        clear HO_5
                        clear HB
                        have HO_5 := n0_
                        have HB := n1_
                        clear n0_ n1_
                        have p23 : 0 ≤ ((ji20) : Int) := of_decide_eq_true (by first | (with_reducible assumption) | assumption)
                        have q23 : ((ji20) : Int) < ((x5_1.length : Int) : Int) := of_decide_eq_true (by first | (with_reducible assumption) | assumption)
                        obtain ⟨go23, co23, eo23, gb23, gl23, cl23, HG23⟩ := Kd.R_form HO_5.out (by omega)
                        (first | cases eo23 | (injection eo23 with ea_ en_ ec_; (first | subst ea_ | (injection ea_ with ea_; subst ea_)); subst ec_; clear en_))
                        have GB23 := Aside0.mk gb23
                        have GG23 := Aside0.mk HG23
                        clear gb23 gl23 HG23
                        obtain ⟨hx23_0, hf23_0⟩ := Kd.R_celln 0 HO_5.out ((ji20) : Int) p23 q23
                        replace p23 := eq_true p23
                        replace q23 := eq_true q23
                        have HP25 := Kd.R_putn HO_5.out ((ji20) : Int) 120
                        rw [← Ny238.out] at HP25
                        have HQ25 := Aside0.mk HP25
                        clear HP25
                        refine start_ (n := 13) (S := fun w' => True) (ds := [12]) #[false, false, false, false, false, false, false, false, false, false, false, false, false] (by kernel_rfl) rfl rfl trivial (fun hHeld => ?_); refine with_tabW pomadelaw04_flipped.tab10 pomadelaw04_flipped.bits10 (fun HT_ HW_ => ?_)
                        generalize wr.drew = w24 at HO_5 HB GG23 HQ25 hf23_0 hx23_0 hHeld ⊢
                        refine pure_ (i := 0) (N := some 24) (v := ?_) (a' := ?_) #[true, false, false, false, false, false, false, false, false, false, false, false, false] rfl rfl (any_of HT_.out (by kernel_rfl)) (fun _ _ _ h => h) (Or.inl ⟨by rfl, ?_⟩) ?_ ?_
                        rotate_left
                        · intro w'
                          go_simp
                          with_reducible rfl
                        rotate_left
                        · simp only [Act.put, List.setIfInBounds_toArray, List.set_cons_zero, List.set_cons_succ, i64_w, i32_w]
                          rfl
                        refine pure_ (i := 1) (N := some 25) (v := ?_) (a' := ?_) #[true, true, false, false, false, false, false, false, false, false, false, false, false] rfl rfl (any_of HT_.out (by kernel_rfl)) (fun _ _ _ h => h) (Or.inl ⟨by rfl, ?_⟩) ?_ ?_
                        rotate_left
                        · intro w'
                          go_simp
                          with_reducible rfl
                        rotate_left
                        · simp only [Act.put, List.setIfInBounds_toArray, List.set_cons_zero, List.set_cons_succ, i64_w, i32_w]
                          rfl
                        refine pure_ (i := 2) (N := some 26) (v := ?_) (a' := ?_) #[true, true, true, false, false, false, false, false, false, false, false, false, false] rfl rfl (any_of HT_.out (by kernel_rfl)) (fun _ _ _ h => h) (Or.inl ⟨by rfl, ?_⟩) ?_ ?_
                        rotate_left
                        · intro w'
                          go_simp
                          with_reducible rfl
                        rotate_left
                        · simp only [Act.put, List.setIfInBounds_toArray, List.set_cons_zero, List.set_cons_succ, i64_w, i32_w]
                          rfl
                        refine pure_ (i := 3) (N := some 27) (v := ?_) (a' := ?_) #[true, true, true, true, false, false, false, false, false, false, false, false, false] rfl rfl (any_of HT_.out (by kernel_rfl)) (fun _ _ _ h => h) (Or.inl ⟨by rfl, ?_⟩) ?_ ?_
                        rotate_left
                        · intro w'
                          go_simp
                          with_reducible rfl
                        rotate_left
                        · simp only [Act.put, List.setIfInBounds_toArray, List.set_cons_zero, List.set_cons_succ, i64_w, i32_w]
                          rfl
                        refine pure_ (i := 4) (N := some 28) (v := ?_) (a' := ?_) #[true, true, true, true, true, false, false, false, false, false, false, false, false] rfl rfl (any_of HT_.out (by kernel_rfl)) (fun _ _ _ h => h) (Or.inl ⟨by rfl, ?_⟩) ?_ ?_
                        rotate_left
                        · intro w'
                          go_simp
                          with_reducible rfl
                        rotate_left
                        · simp only [Act.put, List.setIfInBounds_toArray, List.set_cons_zero, List.set_cons_succ, i64_w, i32_w]
                          rfl
                        refine pure_ (i := 5) (N := some 29) (v := ?_) (a' := ?_) #[true, true, true, true, true, true, false, false, false, false, false, false, false] rfl rfl (any_of HT_.out (by kernel_rfl)) (fun _ _ _ h => h) (Or.inl ⟨by rfl, ?_⟩) ?_ ?_
                        rotate_left
                        · intro w'
                          go_simp
                          with_reducible rfl
                        rotate_left
                        · simp only [Act.put, List.setIfInBounds_toArray, List.set_cons_zero, List.set_cons_succ, i64_w, i32_w]
                          rfl
                        refine pure_ (i := 6) (N := some 30) (v := ?_) (a' := ?_) #[true, true, true, true, true, true, true, false, false, false, false, false, false] rfl rfl (any_of HT_.out (by kernel_rfl)) (fun _ _ _ h => h) (Or.inl ⟨by rfl, ?_⟩) ?_ ?_
                        rotate_left
                        · intro w'
                          go_simp
                          with_reducible rfl
                        rotate_left
                        · simp only [Act.put, List.setIfInBounds_toArray, List.set_cons_zero, List.set_cons_succ, i64_w, i32_w]
                          rfl
                        refine pure_ (i := 7) (N := some 31) (v := ?_) (a' := ?_) #[true, true, true, true, true, true, true, true, false, false, false, false, false] rfl rfl (any_of HT_.out (by kernel_rfl)) (fun _ _ _ h => h) (Or.inl ⟨by rfl, ?_⟩) ?_ ?_
                        rotate_left
                        · intro w'
                          go_simp
                          with_reducible rfl
                        rotate_left
                        · simp only [Act.put, List.setIfInBounds_toArray, List.set_cons_zero, List.set_cons_succ, i64_w, i32_w]
                          rfl
                        refine pure_ (i := 8) (N := some 32) (v := ?_) (a' := ?_) #[true, true, true, true, true, true, true, true, true, false, false, false, false] rfl rfl (any_of HT_.out (by kernel_rfl)) (fun _ _ _ h => h) (Or.inl ⟨by rfl, ?_⟩) ?_ ?_
                        rotate_left
                        · intro w'
                          go_simp
                          with_reducible rfl
                        rotate_left
                        · simp only [Act.put, List.setIfInBounds_toArray, List.set_cons_zero, List.set_cons_succ, i64_w, i32_w]
                          rfl
                        refine pure_ (i := 9) (N := some 33) (v := ?_) (a' := ?_) #[true, true, true, true, true, true, true, true, true, true, false, false, false] rfl rfl (any_of HT_.out (by kernel_rfl)) (fun _ _ _ h => h) (Or.inl ⟨by rfl, ?_⟩) ?_ ?_
                        rotate_left
                        · intro w'
                          go_simp
                          with_reducible rfl
                        rotate_left
                        · simp only [Act.put, List.setIfInBounds_toArray, List.set_cons_zero, List.set_cons_succ, i64_w, i32_w]
                          rfl
                        refine pure_ (i := 10) (N := some 34) (v := ?_) (a' := ?_) #[true, true, true, true, true, true, true, true, true, true, true, false, false] rfl rfl (any_of HT_.out (by kernel_rfl)) (fun _ _ _ h => h) (Or.inl ⟨by rfl, ?_⟩) ?_ ?_
                        rotate_left
                        · intro w'
                          go_simp
                          with_reducible rfl
                        rotate_left
                        · simp only [Act.put, List.setIfInBounds_toArray, List.set_cons_zero, List.set_cons_succ, i64_w, i32_w]
                          rfl
                        refine pure_ (i := 11) (N := some 35) (v := ?_) (a' := ?_) #[true, true, true, true, true, true, true, true, true, true, true, true, false] rfl rfl (any_of HT_.out (by kernel_rfl)) (fun _ _ _ h => h) (Or.inl ⟨by rfl, ?_⟩) ?_ ?_
                        rotate_left
                        · intro w'
                          go_simp
                          with_reducible rfl
                        rotate_left
                        · simp only [Act.put, List.setIfInBounds_toArray, List.set_cons_zero, List.set_cons_succ, i64_w, i32_w]
                          rfl
                        refine last_ (i := 12) (N := none) #[true, true, true, true, true, true, true, true, true, true, true, true, true] rfl rfl (one_of HT_.out (by kernel_rfl)) (by decide) (fun K hK => ?_)
                        refine skip_ (w1 := ?_) (by rfl) rfl ?_ ?_
                        rotate_left
                        · go_simp
                          rfl
                        refine hK.out _ _ ?_
                        clear hK K
                        refine done_ (done_of HT_.out (by kernel_rfl)) ?_
                        try go_wp2
                        go_roundg k1
                        case measure => have := HK1.out; omega
                        case rel => exact ⟨(y238), (wrap64 (x6_1 + 1)), (by first | rfl | (simp; done) | (simp [*]; done)), H', ⟨by have := HK1.out; omega⟩, ⟨by (with_reducible repeat (first | apply Kd.R_alloc | apply Kd.R_drewN | apply Kd.R_drew)); exact HQ25.out⟩, ⟨by repeat (first | (with_reducible first | exact HB.out | apply below_alloc | apply pw_below_drewN | apply below_drew1 | refine below_set ?_ GB23.out) | exact HB.out)⟩⟩
                      · rw [if_neg c22] at H
                        exact absurd H (by simp)
                    · rw [if_neg c21] at H
                      exact absurd H (by simp)
                · rw [if_neg c18] at H
                  have c18b0 : ((bt a1 x6_1) == 111) = false := beq_eq_false_iff_ne.mpr c18
                  have c18b1 : ((bt a1 x6_1) != 111) = true := bne_iff_ne.mpr c18
                  by_cases c26 : a0 = 0
                  · rw [if_pos c26] at H
                    exact absurd H (by simp)
                  · rw [if_neg c26] at H
                    have c26b0 : (a0 == 0) = false := beq_eq_false_iff_ne.mpr c26
                    have c26b1 : (a0 != 0) = true := bne_iff_ne.mpr c26
                    obtain ⟨ji27, hji27⟩ : ∃ j_ : Int, (wrap64 ((wrap64 ((Int.tmod x6_1 a0) * a0)) + (wrap64 (Int.tdiv x6_1 a0)))) = j_ := ⟨_, rfl⟩
                    replace H : (if 0 ≤ (ji27) then (if (ji27) < (x5_1.length : Int) then (pomadelaw04_flipped.l0 k1 a0 a1 (x5_1.set ((ji27) : Int).toNat (bt a1 x6_1)) (wrap64 (x6_1 + 1))) else (none)) else (none)) = some r := by first | (rw [hji27] at H; exact H) | (simp only [hji27] at H ⊢; exact H)
                    have hji27w : (IntKind.i64.wrap ((wrap64 ((Int.tmod x6_1 a0) * a0)) + (wrap64 (Int.tdiv x6_1 a0)))) = ji27 := (i64_w _).trans hji27
                    by_cases c28 : 0 ≤ (ji27)
                    · rw [if_pos c28] at H
                      have c28b0 : decide (0 ≤ (ji27)) = true := decide_eq_true c28
                      clear c28
                      by_cases c29 : (ji27) < (x5_1.length : Int)
                      · rw [if_pos c29] at H
                        have c29b0 : decide ((ji27) < (x5_1.length : Int)) = true := decide_eq_true c29
                        clear c29
                        obtain ⟨y239, hy239⟩ : ∃ y_ : List Int, y_ = (x5_1.set ((ji27) : Int).toNat (bt a1 x6_1)) := ⟨_, rfl⟩
                        replace H : (pomadelaw04_flipped.l0 k1 a0 a1 y239 (wrap64 (x6_1 + 1))) = some r := by first | (rw [hy239]; with_reducible exact H) | (have H2_ := (Option.bind_some _ _).symm.trans H; rw [hy239]; with_reducible exact H2_) | (have H2_ := (Option.bind_some _ _).symm.trans H; with_reducible exact H2_) | with_reducible exact H | (rw [hy239]; exact H) | exact H
                        have Ny239 := Aside0.mk hy239
                        clear hy239
                        have H' := Aside0.mk H
                        clear H
                        have p9 : 0 ≤ (x6_1 : Int) := of_decide_eq_true (by first | (with_reducible assumption) | assumption)
                        have q9 : x6_1 < (a1.size : Int) := of_decide_eq_true (by first | (with_reducible assumption) | assumption)
                        have hx9 := bt_at a1 x6_1
                        replace p9 := eq_true p9
                        replace q9 := eq_true q9
                        try go_wp2
                        have n0_ := Aside0.mk (Kd.R_drew HO_5.out)
                        have n1_ := Aside0.mk (below_drew1 HB.out)
                        clear HO_5
                        clear HB
                        have HO_5 := n0_
                        have HB := n1_
                        clear n0_ n1_
                        have p30 : 0 ≤ ((ji27) : Int) := of_decide_eq_true (by first | (with_reducible assumption) | assumption)
                        have q30 : ((ji27) : Int) < ((x5_1.length : Int) : Int) := of_decide_eq_true (by first | (with_reducible assumption) | assumption)
                        obtain ⟨go30, co30, eo30, gb30, gl30, cl30, HG30⟩ := Kd.R_form HO_5.out (by omega)
                        (first | cases eo30 | (injection eo30 with ea_ en_ ec_; (first | subst ea_ | (injection ea_ with ea_; subst ea_)); subst ec_; clear en_))
                        have GB30 := Aside0.mk gb30
                        have GG30 := Aside0.mk HG30
                        clear gb30 gl30 HG30
                        obtain ⟨hx30_0, hf30_0⟩ := Kd.R_celln 0 HO_5.out ((ji27) : Int) p30 q30
                        replace p30 := eq_true p30
                        replace q30 := eq_true q30
                        have HP32 := Kd.R_putn HO_5.out ((ji27) : Int) (bt a1 x6_1)
                        rw [← Ny239.out] at HP32
                        have HQ32 := Aside0.mk HP32
                        clear HP32
                        refine start_ (n := 13) (S := fun w' => True) (ds := [12]) #[false, false, false, false, false, false, false, false, false, false, false, false, false] (by kernel_rfl) rfl rfl trivial (fun hHeld => ?_); refine with_tabW pomadelaw04_flipped.tab10 pomadelaw04_flipped.bits10 (fun HT_ HW_ => ?_)
                        generalize wr.drew = w31 at HO_5 HB GG30 HQ32 hf30_0 hx30_0 hHeld ⊢
                        refine pure_ (i := 0) (N := some 24) (v := ?_) (a' := ?_) #[true, false, false, false, false, false, false, false, false, false, false, false, false] rfl rfl (any_of HT_.out (by kernel_rfl)) (fun _ _ _ h => h) (Or.inl ⟨by rfl, ?_⟩) ?_ ?_
                        rotate_left
                        · intro w'
                          go_simp
                          with_reducible rfl
                        rotate_left
                        · simp only [Act.put, List.setIfInBounds_toArray, List.set_cons_zero, List.set_cons_succ, i64_w, i32_w]
                          rfl
                        refine pure_ (i := 1) (N := some 25) (v := ?_) (a' := ?_) #[true, true, false, false, false, false, false, false, false, false, false, false, false] rfl rfl (any_of HT_.out (by kernel_rfl)) (fun _ _ _ h => h) (Or.inl ⟨by rfl, ?_⟩) ?_ ?_
                        rotate_left
                        · intro w'
                          go_simp
                          with_reducible rfl
                        rotate_left
                        · simp only [Act.put, List.setIfInBounds_toArray, List.set_cons_zero, List.set_cons_succ, i64_w, i32_w]
                          rfl
                        refine pure_ (i := 2) (N := some 26) (v := ?_) (a' := ?_) #[true, true, true, false, false, false, false, false, false, false, false, false, false] rfl rfl (any_of HT_.out (by kernel_rfl)) (fun _ _ _ h => h) (Or.inl ⟨by rfl, ?_⟩) ?_ ?_
                        rotate_left
                        · intro w'
                          go_simp
                          with_reducible rfl
                        rotate_left
                        · simp only [Act.put, List.setIfInBounds_toArray, List.set_cons_zero, List.set_cons_succ, i64_w, i32_w]
                          rfl
                        refine pure_ (i := 3) (N := some 27) (v := ?_) (a' := ?_) #[true, true, true, true, false, false, false, false, false, false, false, false, false] rfl rfl (any_of HT_.out (by kernel_rfl)) (fun _ _ _ h => h) (Or.inl ⟨by rfl, ?_⟩) ?_ ?_
                        rotate_left
                        · intro w'
                          go_simp
                          with_reducible rfl
                        rotate_left
                        · simp only [Act.put, List.setIfInBounds_toArray, List.set_cons_zero, List.set_cons_succ, i64_w, i32_w]
                          rfl
                        refine pure_ (i := 4) (N := some 28) (v := ?_) (a' := ?_) #[true, true, true, true, true, false, false, false, false, false, false, false, false] rfl rfl (any_of HT_.out (by kernel_rfl)) (fun _ _ _ h => h) (Or.inl ⟨by rfl, ?_⟩) ?_ ?_
                        rotate_left
                        · intro w'
                          go_simp
                          with_reducible rfl
                        rotate_left
                        · simp only [Act.put, List.setIfInBounds_toArray, List.set_cons_zero, List.set_cons_succ, i64_w, i32_w]
                          rfl
                        refine pure_ (i := 5) (N := some 29) (v := ?_) (a' := ?_) #[true, true, true, true, true, true, false, false, false, false, false, false, false] rfl rfl (any_of HT_.out (by kernel_rfl)) (fun _ _ _ h => h) (Or.inl ⟨by rfl, ?_⟩) ?_ ?_
                        rotate_left
                        · intro w'
                          go_simp
                          with_reducible rfl
                        rotate_left
                        · simp only [Act.put, List.setIfInBounds_toArray, List.set_cons_zero, List.set_cons_succ, i64_w, i32_w]
                          rfl
                        refine pure_ (i := 6) (N := some 30) (v := ?_) (a' := ?_) #[true, true, true, true, true, true, true, false, false, false, false, false, false] rfl rfl (any_of HT_.out (by kernel_rfl)) (fun _ _ _ h => h) (Or.inl ⟨by rfl, ?_⟩) ?_ ?_
                        rotate_left
                        · intro w'
                          go_simp
                          with_reducible rfl
                        rotate_left
                        · simp only [Act.put, List.setIfInBounds_toArray, List.set_cons_zero, List.set_cons_succ, i64_w, i32_w]
                          rfl
                        refine pure_ (i := 7) (N := some 31) (v := ?_) (a' := ?_) #[true, true, true, true, true, true, true, true, false, false, false, false, false] rfl rfl (any_of HT_.out (by kernel_rfl)) (fun _ _ _ h => h) (Or.inl ⟨by rfl, ?_⟩) ?_ ?_
                        rotate_left
                        · intro w'
                          go_simp
                          with_reducible rfl
                        rotate_left
                        · simp only [Act.put, List.setIfInBounds_toArray, List.set_cons_zero, List.set_cons_succ, i64_w, i32_w]
                          rfl
                        refine pure_ (i := 8) (N := some 32) (v := ?_) (a' := ?_) #[true, true, true, true, true, true, true, true, true, false, false, false, false] rfl rfl (any_of HT_.out (by kernel_rfl)) (fun _ _ _ h => h) (Or.inl ⟨by rfl, ?_⟩) ?_ ?_
                        rotate_left
                        · intro w'
                          go_simp
                          with_reducible rfl
                        rotate_left
                        · simp only [Act.put, List.setIfInBounds_toArray, List.set_cons_zero, List.set_cons_succ, i64_w, i32_w]
                          rfl
                        refine pure_ (i := 9) (N := some 33) (v := ?_) (a' := ?_) #[true, true, true, true, true, true, true, true, true, true, false, false, false] rfl rfl (any_of HT_.out (by kernel_rfl)) (fun _ _ _ h => h) (Or.inl ⟨by rfl, ?_⟩) ?_ ?_
                        rotate_left
                        · intro w'
                          go_simp
                          with_reducible rfl
                        rotate_left
                        · simp only [Act.put, List.setIfInBounds_toArray, List.set_cons_zero, List.set_cons_succ, i64_w, i32_w]
                          rfl
                        refine pure_ (i := 10) (N := some 34) (v := ?_) (a' := ?_) #[true, true, true, true, true, true, true, true, true, true, true, false, false] rfl rfl (any_of HT_.out (by kernel_rfl)) (fun _ _ _ h => h) (Or.inl ⟨by rfl, ?_⟩) ?_ ?_
                        rotate_left
                        · intro w'
                          go_simp
                          with_reducible rfl
                        rotate_left
                        · simp only [Act.put, List.setIfInBounds_toArray, List.set_cons_zero, List.set_cons_succ, i64_w, i32_w]
                          rfl
                        refine pure_ (i := 11) (N := some 35) (v := ?_) (a' := ?_) #[true, true, true, true, true, true, true, true, true, true, true, true, false] rfl rfl (any_of HT_.out (by kernel_rfl)) (fun _ _ _ h => h) (Or.inl ⟨by rfl, ?_⟩) ?_ ?_
                        rotate_left
                        · intro w'
                          go_simp
                          with_reducible rfl
                        rotate_left
                        · simp only [Act.put, List.setIfInBounds_toArray, List.set_cons_zero, List.set_cons_succ, i64_w, i32_w]
                          rfl
                        refine last_ (i := 12) (N := none) #[true, true, true, true, true, true, true, true, true, true, true, true, true] rfl rfl (one_of HT_.out (by kernel_rfl)) (by decide) (fun K hK => ?_)
                        refine skip_ (w1 := ?_) (by rfl) rfl ?_ ?_
                        rotate_left
                        · go_simp
                          rfl
                        refine hK.out _ _ ?_
                        clear hK K
                        refine done_ (done_of HT_.out (by kernel_rfl)) ?_
                        try go_wp2
                        go_roundg k1
                        case measure => have := HK1.out; omega
                        case rel => exact ⟨(y239), (wrap64 (x6_1 + 1)), (by first | rfl | (simp; done) | (simp [*]; done)), H', ⟨by have := HK1.out; omega⟩, ⟨by (with_reducible repeat (first | apply Kd.R_alloc | apply Kd.R_drewN | apply Kd.R_drew)); exact HQ32.out⟩, ⟨by repeat (first | (with_reducible first | exact HB.out | apply below_alloc | apply pw_below_drewN | apply below_drew1 | refine below_set ?_ GB30.out) | exact HB.out)⟩⟩
                      · rw [if_neg c29] at H
                        exact absurd H (by simp)
                    · rw [if_neg c28] at H
                      exact absurd H (by simp)
            · rw [if_neg c8] at H
              exact absurd H (by simp)
          · rw [if_neg c7] at H
            have c7b0 : decide (x6_1 < (a1.size : Int)) = false := decide_eq_false c7
            clear c7
            obtain rfl := Option.some.inj H
            have hcv33 := own_string (P := Tryd.prog) Tryd.underlying60 Tryd.underlying5 Tryd.underlying9 (Kd.own_of_R HO_5.out)
            go_wp2
            go_ret
            exact ⟨by first | rfl | (simp [errW_none, errW_some] <;> rfl) | (simp [*, errW_none, errW_some] <;> rfl), by repeat (first | (with_reducible first | exact HB.out | apply below_alloc | apply pw_below_drewN | apply below_drew1) | exact HB.out)⟩
    · rw [if_neg c4] at H
      exact absurd H (by simp)
  · rw [if_neg c3] at H
    exact absurd H (by simp)
end Go.Proofs.YtlmgkmmdaecpdaaDoor.Im

namespace Go.Proofs.YtlmgkmmdaecpdaaDoor.Im
open Go.RowKit Go.Proofs.YtlmgkmmdaecpdaaDoorW.PrintWords Go.Proofs.YtlmgkmmdaecpdaaDoorW.PrintLast Go.Proofs.YtlmgkmmdaecpdaaDoorW.PrintMore Go.Proofs.YtlmgkmmdaecpdaaDoor.Mi
set_option linter.unusedVariables false
def swI (c : Int) : Int := if c = 120 then 111 else if c = 111 then 120 else c
theorem swI_swI (c : Int) : swI (swI c) = c := by
  unfold swI
  by_cases h : c = 120
  · subst h; rfl
  · by_cases k : c = 111
    · subst k; rfl
    · rw [if_neg h, if_neg k, if_neg h, if_neg k]
def Flip (n : Nat) (bs bt : List Int) : Prop := ∀ a, a < n * n → bt.getD (flp n a) 0 = swI (bs.getD a 0)
theorem Flip.symm {n : Nat} {bs bt : List Int} (hn : 0 < n) (h : Flip n bs bt) : Flip n bt bs := fun a ha => by
  have := h (flp n a) (flp_lt hn ha)
  rw [flp_flp hn ha] at this
  rw [this, swI_swI]
theorem need_into {n : Nat} {bs bt : List Int} {p q : Int} {σ : Nat → Nat} (h : Into (n * n) (n * n) (NearN n) (NearN n) (okC bs (cost0 p)) (enP n p) (beP n p) (okC bt (cost0 q)) (enP n q) (beP n q) (coC bs (cost0 p)) (coC bt (cost0 q)) σ) {d : Nat} (hd : needO n bs p = some d) : ∃ e, needO n bt q = some e ∧ e ≤ d := by
  obtain ⟨⟨P, k1, k2⟩, k3⟩ := h.need (needO_need hd)
  obtain ⟨e, he⟩ := Option.isSome_iff_exists.1 (needO_ex k1 k2)
  exact ⟨e, he, k3 e (needO_need he)⟩
theorem bridge_into {n : Nat} {bs bt : List Int} {p q : Int} {σ : Nat → Nat} (h : Into (n * n) (n * n) (NearN n) (NearN n) (okP bs p) (enP n p) (beP n p) (okP bt q) (enP n q) (beP n q) Mi.one Mi.one σ) {G : List Nat} (hG : brO n bs p = some G) : ∃ H, brO n bt q = some H ∧ H.length ≤ G.length := by
  have hF := brO_first hG
  obtain ⟨k1, k2, _⟩ := h.way hF.way
  have k3 : beP n q (headN (G.map σ)) := by rw [k2]; exact h.be_ _ (hF.way.mem _ (headN_mem hF.way.ne)).1 hF.start
  obtain ⟨H, hH⟩ := Option.isSome_iff_exists.1 (brO_ex k1 k3)
  have := ((brO_first hH).best k1 k3).1
  rw [List.length_map] at this
  exact ⟨H, hH, this⟩
def More (n : Nat) (bs bt : List Int) : Prop := ∀ a, a < n * n → bt.getD a 0 = bs.getD a 0 ∨ bt.getD a 0 = 120
theorem more_into0 {n : Nat} {bs bt : List Int} (h : More n bs bt) : Into (n * n) (n * n) (NearN n) (NearN n) (okC bs (cost0 120)) (enP n 120) (beP n 120) (okC bt (cost0 120)) (enP n 120) (beP n 120) (coC bs (cost0 120)) (coC bt (cost0 120)) id :=
  ⟨fun a ha => ha, fun a b ha hb k => k, fun a ha k => by
      unfold okC at *
      rcases h a ha with e | e
      · show 0 ≤ cost0 120 (bt.getD a 0)
        rw [e]; exact k
      · show 0 ≤ cost0 120 (bt.getD a 0)
        rw [e]; exact Int.le_refl _,
    fun a ha k => k, fun a ha k => k, fun a ha k => by
      unfold coC
      rcases h a ha with e | e
      · show (cost0 120 (bt.getD a 0)).toNat ≤ _
        rw [e]; exact Nat.le_refl _
      · show (cost0 120 (bt.getD a 0)).toNat ≤ _
        rw [e]; exact Nat.zero_le _⟩
theorem more_into1 {n : Nat} {bs bt : List Int} (h : More n bs bt) : Into (n * n) (n * n) (NearN n) (NearN n) (okP bs 120) (enP n 120) (beP n 120) (okP bt 120) (enP n 120) (beP n 120) Mi.one Mi.one id :=
  ⟨fun a ha => ha, fun a b ha hb k => k, fun a ha k => by
      unfold okP at *
      rcases h a ha with e | e
      · show bt.getD a 0 = 120
        rw [e]; exact k
      · exact e,
    fun a ha k => k, fun a ha k => k, fun a ha k => Nat.le_refl _⟩
theorem more_need {n : Nat} {bs bt : List Int} (h : More n bs bt) {d : Nat} (hd : needO n bs 120 = some d) : ∃ e, needO n bt 120 = some e ∧ e ≤ d := need_into (more_into0 h) hd
theorem more_win {n : Nat} {bs bt : List Int} (hn : 0 < n) (hf : ∀ a, a < n * n → bs.getD a 0 = 120 ∨ bs.getD a 0 = 111) (h : More n bs bt) (hw : winB n bs = 120) : winB n bt = 120 := by
  rcases full_one hn hf with ⟨h1, h2, h3⟩ | ⟨h1, h2, h3⟩
  · obtain ⟨G, hG⟩ := Option.isSome_iff_exists.1 h1
    obtain ⟨H, hH, _⟩ := bridge_into (more_into1 h) hG
    unfold winB
    rw [hH, if_pos (by rfl)]
  · rw [hw] at h3
    cases h3
theorem full_zero {n : Nat} {bs : List Int} {p : Int} (hp : p = 120 ∨ p = 111) (hf : ∀ a, a < n * n → bs.getD a 0 = 120 ∨ bs.getD a 0 = 111) : (∀ G, brO n bs p = some G → needO n bs p = some 0) ∧ (brO n bs p = none → needO n bs p = none) := by
  have key : ∀ a, a < n * n → (okC bs (cost0 p) a → okP bs p a) ∧ (okP bs p a → okC bs (cost0 p) a ∧ coC bs (cost0 p) a = 0) := fun a ha => by
    unfold okC okP coC cost0
    rcases hf a ha with e | e <;> rw [e] <;> rcases hp with rfl | rfl <;> simp
  refine ⟨fun G hG => ?_, fun hN => ?_⟩
  · have hF := brO_first hG
    exact needO_some (need_zero.2 ⟨G, ⟨hF.way.ne, hF.way.chain, fun q hq => ⟨(hF.way.mem q hq).1, (key q (hF.way.mem q hq).1).2 (hF.way.mem q hq).2⟩, hF.way.fin⟩, hF.start⟩)
  · exact needO_none fun P hP => brO_no hN ⟨hP.ne, hP.chain, fun q hq => ⟨(hP.mem q hq).1, (key q (hP.mem q hq).1).1 (hP.mem q hq).2⟩, hP.fin⟩
end Go.Proofs.YtlmgkmmdaecpdaaDoor.Im

namespace Go.Proofs.YtlmgkmmdaecpdaaDoor.Im
open Go.RowKit Go.Proofs.YtlmgkmmdaecpdaaDoorW.PrintWords Go.Proofs.YtlmgkmmdaecpdaaDoorW.PrintLast Go.Proofs.YtlmgkmmdaecpdaaDoorW.PrintMore Go.Proofs.YtlmgkmmdaecpdaaDoor.Mi
set_option linter.unusedVariables false
structure Env (w : World) (mL : Int) : Prop where
  st : Steps w
  mx : w.cell? ⟨1, 0, none⟩ = some (.int .i64 mL)
theorem Env.later {w w' : World} {mL : Int} (h : Env w mL) {B : Nat} (hb : Below B w w') (hB : B = w.heap.size) : Env w' mL := by
  subst hB
  exact ⟨h.st.later hb, (hb.cell (World.block_lt_of_cell? w _ h.mx)).trans h.mx⟩
theorem alive_env {w : World} {mL : Int} (h : Env w mL) : Calls Tryd.prog 17 #[] w fun e w' => e = .returned (.bool true) ∧ Below w.heap.size w w' := alive_any w h.st mL h.mx
def pX : ByteArray := ⟨#[120]⟩
def pO : ByteArray := ⟨#[111]⟩
theorem needs_env {w : World} {mL : Int} (h : Env w mL) (n : Int) (s ps : ByteArray) (hs : s.size ≤ 9223372036854775807) (a e : Int) (hr : needsR n s ps = (a, e)) :
    Calls Tryd.prog 20 #[.int .i64 n, .string s, .string ps] w fun x w' => x = .returned (.tuple #[.int .i64 a, .int .i64 e]) ∧ Below w.heap.size w w' := by
  refine (needs_call n s ps w h.st hs).mono ?_
  rintro x w' ⟨h1, h2⟩
  rw [hr] at h2
  exact ⟨h2, h1⟩
theorem winner_env {w : World} {mL : Int} (h : Env w mL) (n : Int) (s : ByteArray) (hs : s.size ≤ 9223372036854775807) (hE : boE n s xoB = 0) (p : Int) (hp : winB n.toNat (bsOf s) = p) :
    Calls Tryd.prog 24 #[.int .i64 n, .string s] w fun x w' => ∃ G A c, x = .returned (.tuple #[.string (strP p), .slice (some A) G.length c, .int .i64 0]) ∧ brO n.toNat (bsOf s) p = some G ∧ Kd.R (Kd.int .i64) 3 w' w.heap.size (fun _ => True) (.slice (some A) G.length c) (ints G) ∧ Below w.heap.size w w' := by
  refine (winner_call n s w h.st hs).mono ?_
  rintro x w' ⟨h1, h2⟩
  rw [if_pos hE, hp] at h2
  obtain ⟨G, A, c, h3, h4, h5⟩ := h2
  exact ⟨G, A, c, h4, h3, h5, h1⟩
theorem pl_X : plB pX = true := by unfold plB pX; rw [ByteArray.toList_mk]; rfl
theorem pl_O : plB pO = true := by unfold plB pO; rw [ByteArray.toList_mk]; rfl
end Go.Proofs.YtlmgkmmdaecpdaaDoor.Im

namespace Go.Proofs.YtlmgkmmdaecpdaaDoor.Im
open Go.RowKit Go.Proofs.YtlmgkmmdaecpdaaDoorW.PrintWords Go.Proofs.YtlmgkmmdaecpdaaDoorW.PrintLast Go.Proofs.YtlmgkmmdaecpdaaDoorW.PrintMore Go.Proofs.YtlmgkmmdaecpdaaDoor.Mi
set_option linter.unusedVariables false
theorem more_data (s : ByteArray) (i : Nat) (hi : i < s.size) : (s.extract 0 i ++ ⟨#[120]⟩ ++ s.extract (i + 1) s.size).data.toList = s.data.toList.set i 120 := by
  rw [ByteArray.data_append, ByteArray.data_append, ByteArray.data_extract, ByteArray.data_extract, Array.toList_append, Array.toList_append, Array.toList_extract, Array.toList_extract]
  have hl : s.data.toList.length = s.size := Array.length_toList
  rw [List.set_eq_take_append_cons_drop, if_pos (by omega)]
  show List.take (i - 0) (List.drop 0 _) ++ [120] ++ List.take (s.size - (i + 1)) (List.drop (i + 1) _) = _
  rw [List.drop_zero, Nat.sub_zero, List.take_of_length_le (l := List.drop (i + 1) s.data.toList) (by rw [List.length_drop]; omega), List.append_assoc]
  rfl
theorem more_size (s : ByteArray) (i : Nat) (hi : i < s.size) : (s.extract 0 i ++ ⟨#[120]⟩ ++ s.extract (i + 1) s.size).size = s.size := by
  have := congrArg List.length (more_data s i hi)
  rw [List.length_set, Array.length_toList, Array.length_toList] at this
  exact this
theorem more_board {n : Nat} {s t : ByteArray} {i : Nat} (h : t.data.toList = s.data.toList.set i 120) : More n (bsOf s) (bsOf t) := by
  intro a ha
  unfold bsOf
  rw [h, List.map_set, List.getD, List.getD]
  by_cases e : a = i
  · subst e
    by_cases hl : a < (s.data.toList.map fun b => (b.toNat : Int)).length
    · rw [List.getElem?_set_self hl]; exact .inr rfl
    · rw [List.getElem?_eq_none (by rw [List.length_set]; omega), List.getElem?_eq_none (by omega)]; exact .inl rfl
  · rw [List.getElem?_set_ne (fun x => e x.symm)]; exact .inl rfl
theorem boE_more {n : Nat} {s t : ByteArray} {b : Bool} (h : boE n s (csB b) = 0) (hz : t.size = s.size) (hm : More n (bsOf s) (bsOf t)) : boE n t (csB b) = 0 := by
  obtain ⟨h1, h2, h3, h4⟩ := boE_iff.1 h
  have hsz : s.size = n * n := by rw [← Int.natCast_mul] at h3; omega
  refine boE_iff.2 ⟨h1, h2, by rw [hz]; exact h3, fun a ha => ?_⟩
  rcases hm a (by omega) with e | e
  · rw [e]; exact h4 a (by omega)
  · rw [e]; exact .inl rfl
theorem needsR_cases {n : Nat} {s ps : ByteArray} (hs : boE n s xodB = 0) (hp : plB ps = true) : (∃ d : Nat, needO n (bsOf s) (bt ps 0) = some d ∧ needsR n s ps = ((d : Int), 0)) ∨ (needO n (bsOf s) (bt ps 0) = none ∧ needsR n s ps = (0, 10)) := by
  unfold needsR
  rw [if_pos hs, if_pos hp, Int.toNat_natCast]
  cases h : needO n (bsOf s) (bt ps 0) with
  | some d => exact .inl ⟨d, rfl, rfl⟩
  | none => exact .inr ⟨rfl, rfl⟩
end Go.Proofs.YtlmgkmmdaecpdaaDoor.Im

namespace Go.Proofs.YtlmgkmmdaecpdaaDoor.Im
open Go.RowKit Go.Proofs.YtlmgkmmdaecpdaaDoorW.PrintWords Go.Proofs.YtlmgkmmdaecpdaaDoorW.PrintLast Go.Proofs.YtlmgkmmdaecpdaaDoorW.PrintMore Go.Proofs.YtlmgkmmdaecpdaaDoor.Mi
set_option linter.unusedVariables false
set_option linter.unusedSimpArgs false
theorem more_full {m : Nat} {s t : ByteArray} (h1 : boE m s xoB = 0) (h0 : boE m s xodB = 0) (hz : t.size = s.size) (hm : More m (bsOf s) (bsOf t)) :
    boE m t xoB = 0 ∧ (winB m (bsOf s) = 120 ∧ winB m (bsOf t) = 120 ∧ needO m (bsOf s) 120 = some 0 ∧ needsR m s pO = (0, 10) ∨ winB m (bsOf s) = 111 ∧ (winB m (bsOf t) = 120 ∨ winB m (bsOf t) = 111) ∧ needO m (bsOf s) 120 = none ∧ needsR m s pO = (0, 0)) := by
  have hok := boE_ok h1
  rw [Int.toNat_natCast] at hok
  have hn : 0 < m := by omega
  have hf : ∀ a, a < m * m → (bsOf s).getD a 0 = 120 ∨ (bsOf s).getD a 0 = 111 := fun a ha => full_byte h1 (by omega)
  have ht : boE m t xoB = 0 := boE_more (b := false) h1 hz hm
  have hf2 : ∀ a, a < m * m → (bsOf t).getD a 0 = 120 ∨ (bsOf t).getD a 0 = 111 := fun a ha => full_byte ht (by omega)
  refine ⟨ht, ?_⟩
  have zx := full_zero (n := m) (bs := bsOf s) (p := 120) (.inl rfl) hf
  have zo := full_zero (n := m) (bs := bsOf s) (p := 111) (.inr rfl) hf
  have ro : ∀ r, needO m (bsOf s) 111 = r → needsR m s pO = (match r with | some d => ((d : Int), 0) | none => (0, 10)) := fun r hr => by
    rcases needsR_cases h0 pl_O with ⟨d, k1, k2⟩ | ⟨k1, k2⟩
    · have : needO m (bsOf s) 111 = some d := k1
      rw [this] at hr
      subst hr
      exact k2
    · have : needO m (bsOf s) 111 = none := k1
      rw [this] at hr
      subst hr
      exact k2
  rcases full_one hn hf with ⟨k1, k2, k3⟩ | ⟨k1, k2, k3⟩
  · obtain ⟨G, hG⟩ := Option.isSome_iff_exists.1 k1
    exact .inl ⟨k3, more_win hn hf hm k3, zx.1 G hG, ro _ (zo.2 k2)⟩
  · obtain ⟨G, hG⟩ := Option.isSome_iff_exists.1 k2
    refine .inr ⟨k3, ?_, zx.2 k1, ro _ (zo.1 G hG)⟩
    rcases full_one hn hf2 with ⟨_, _, j3⟩ | ⟨_, _, j3⟩
    · exact .inl j3
    · exact .inr j3
set_option maxHeartbeats 6400000 in
set_option maxRecDepth 100000 in
theorem law_more (n : Int) (s : ByteArray) (x : Int) (w : World) (hst : Steps w) (mL : Int) (hm : w.cell? ⟨1, 0, none⟩ = some (.int .i64 mL)) (hss : s.size ≤ 9223372036854775807) (hx : (Lit.int .u8 x).wf = true) :
    Calls Tryd.prog 7 #[.int .i64 n, .string s, .int .u8 x] w fun e w' => e = .returned (.bool true) ∧ Below w.heap.size w w' := by
  have HE := Aside0.mk (Env.mk hst hm)
  clear hst hm
  by_cases h2 : 200 < s.size
  · have t1 : decide (200 < (s.size : Int)) = true := decide_eq_true (by omega)
    have t2 : decide (200 < s.size) = true := decide_eq_true h2
    clear h2
    go_enter Tryd.func7, Tryd.ntmps7
    go_wp2_with fail
    refine (alive_env HE.out).mono ?_
    rintro e w1 ⟨rfl, hb1⟩
    have HB1 := Aside0.mk hb1
    clear hb1
    go_wp2_with fail
    go_ret
    exact ⟨rfl, HB1.out⟩
  · have t1 : decide (200 < (s.size : Int)) = false := decide_eq_false (by omega)
    have t2 : decide (200 < s.size) = false := decide_eq_false h2
    have HBd := Aside0.mk (fun (b : Bool) (w1 : World) => board_any n s b w1 (by omega))
    obtain ⟨E, hE⟩ : ∃ E, boE n s (csB true) = E := ⟨_, rfl⟩
    have HB0 := Aside0.mk (hE ▸ HBd.out true w)
    by_cases h0 : E = 0
    · subst h0
      obtain ⟨k1, k2, k3, _⟩ := boE_iff.1 hE
      obtain ⟨m, rfl⟩ : ∃ m : Nat, n = m := ⟨n.toNat, by omega⟩
      have hsz : s.size = m * m := by rw [← Int.natCast_mul] at k3; omega
      have hpos : 0 < s.size := by rw [hsz]; exact Nat.mul_pos (by omega) (by omega)
      obtain ⟨y, rfl, hy⟩ : ∃ y : Nat, x = (y : Nat) ∧ y ≤ 255 := by
        have : 0 ≤ x ∧ x ≤ 255 := by
          simp [Lit.wf, IntKind.min, IntKind.max, IntKind.signed, IntKind.bits] at hx
          omega
        exact ⟨x.toNat, by omega, by omega⟩
      obtain ⟨i, hi⟩ : ∃ i, y % s.size = i := ⟨_, rfl⟩
      have hil : i < s.size := by rw [← hi]; exact Nat.mod_lt _ hpos
      obtain ⟨A, hA⟩ : ∃ A, s.extract 0 i = A := ⟨_, rfl⟩
      obtain ⟨B, hB⟩ : ∃ B, s.extract (i + 1) s.size = B := ⟨_, rfl⟩
      obtain ⟨t, ht⟩ : ∃ t, A ++ ⟨#[120]⟩ ++ B = t := ⟨_, rfl⟩
      have htz : t.size = s.size := by rw [← ht, ← hA, ← hB]; exact more_size s i hil
      have hmo : More m (bsOf s) (bsOf t) := more_board (i := i) (by rw [← ht, ← hA, ← hB]; exact more_data s i hil)
      have hAz : A.size = i := by rw [← hA, ByteArray.size_extract]; omega
      have z1 : A.size + 1 ≤ 9223372036854775807 := by omega
      have z2 : A.size + 1 + B.size ≤ 9223372036854775807 := by
        have := htz
        rw [← ht, ByteArray.size_append, ByteArray.size_append] at this
        have e : (⟨#[120]⟩ : ByteArray).size = 1 := rfl
        omega
      have hil0 : i ≤ s.size := by omega
      have hil1 : i + 1 ≤ s.size := by omega
      have hbt : boE m t xodB = 0 := boE_more (b := true) hE htz hmo
      obtain ⟨F, hF⟩ : ∃ F, boE m s (csB false) = F := ⟨_, rfl⟩
      have HB9 := Aside0.mk (fun w1 => hF ▸ HBd.out false w1)
      have HPL := Aside0.mk (fun (h0 : F = 0) => by
        subst h0
        exact (⟨hF, more_full hF hE htz hmo⟩ : boE m s xoB = 0 ∧ _))
      have hss2 : t.size ≤ 9223372036854775807 := by rw [htz]; exact hss
      have HSS := Aside0.mk hss2
      obtain ⟨b, hb⟩ : ∃ b, needsR m t pX = b := ⟨_, rfl⟩
      obtain ⟨b0, b1⟩ := b
      have HN2 := Aside0.mk (fun (w1 : World) (h : Env w1 mL) => needs_env h m t pX hss2 b0 b1 hb)
      have hrem : (y : Int) % (s.size : Int) = (i : Int) := by rw [← hi]; rfl
      rcases needsR_cases hE pl_X with ⟨d, hd, hr⟩ | ⟨hd, hr⟩
      · have hd' : needO m (bsOf s) 120 = some d := hd
        obtain ⟨e, he, hle⟩ := more_need hmo hd'
        obtain ⟨rfl, rfl⟩ : b0 = (e : Int) ∧ b1 = 0 := by
          rcases needsR_cases hbt pl_X with ⟨e2, k5, k6⟩ | ⟨k5, k6⟩
          · have k5' : needO m (bsOf t) 120 = some e2 := k5
            rw [he] at k5'
            cases k5'
            rw [hb] at k6
            exact Prod.mk.inj k6
          · have k5' : needO m (bsOf t) 120 = none := k5
            rw [he] at k5'
            cases k5'
        have g1 : decide ((d : Int) < (e : Int)) = false := decide_eq_false (by omega)
        have g2 : decide (d < e) = false := decide_eq_false (by omega)
        have g3 : decide ((d : Int) < 0) = false := decide_eq_false (by omega)
        have HN1 := Aside0.mk (fun (w1 : World) (h : Env w1 mL) => needs_env h m s pX hss d 0 hr)
        have HD := Aside0.mk hd'
        have HL := Aside0.mk hle
        clear HBd hF hb hmo hbt htz hE hd hd' hr he hle hss2 k1 k2 k3 hsz hi hAz
        go_enter Tryd.func7, Tryd.ntmps7
        go_wp2_with fail
        refine HB0.out.mono ?_
        rintro e w1 ⟨rfl, hb1⟩
        have HB1 := Aside0.mk hb1
        clear hb1
        go_wp2_with fail
        refine (HN1.out w1 (HE.out.later HB1.out rfl)).mono ?_
        rintro e w3 ⟨rfl, hb3⟩
        have HB3 := Aside0.mk (below_then HB1.out HB1.out.size hb3)
        clear hb3 HB1
        go_wp2_with fail
        go_quiet (fail)
        go_wp2_with fail
        refine (HN2.out _ (HE.out.later (pw_below_drewN HB3.out nq) rfl)).mono ?_
        rintro e w4 ⟨rfl, hb4⟩
        have HB4 := Aside0.mk (below_then (pw_below_drewN HB3.out nq) (pw_below_drewN HB3.out nq).size hb4)
        clear hb4 HB3
        go_wp2_with fail
        refine (HB9.out w4).mono ?_
        rintro e w5 ⟨rfl, hb5⟩
        have HB5 := Aside0.mk (below_then HB4.out HB4.out.size hb5)
        clear hb5 HB4
        by_cases h0 : F = 0
        · obtain ⟨e1, e2, ⟨hp, hq, hn1, r3⟩ | ⟨_, _, hn1, _⟩⟩ := HPL.out h0
          · subst h0
            have hd0 : d = 0 := by have := HD.out; rw [hn1] at this; cases this; rfl
            have he0 : e = 0 := by have := HL.out; omega
            subst hd0
            subst he0
            clear HPL hn1 HD HL
            have HN3 := Aside0.mk (fun (w1 : World) (h : Env w1 mL) => needs_env h m s pO hss 0 10 r3)
            have HW1 := Aside0.mk (fun (w1 : World) (h : Env w1 mL) => winner_env h m s hss e1 120 hp)
            have HW2 := Aside0.mk (fun (w1 : World) (h : Env w1 mL) => winner_env h m t HSS.out e2 120 hq)
            clear e1 e2 hp hq r3
            rw [show strP 120 = ⟨#[120]⟩ from rfl] at HW1
            rw [show strP 120 = ⟨#[120]⟩ from rfl] at HW2
            go_wp2_with fail
            refine (HN3.out w5 (HE.out.later HB5.out rfl)).mono ?_
            rintro e w6 ⟨rfl, hb6⟩
            have HB6 := Aside0.mk (below_then HB5.out HB5.out.size hb6)
            clear hb6 HB5
            go_wp2_with fail
            refine (HW1.out w6 (HE.out.later HB6.out rfl)).mono ?_
            rintro e w7 ⟨G, A7, c7, rfl, _, _, hb7⟩
            have HB7 := Aside0.mk (below_then HB6.out HB6.out.size hb7)
            clear hb7 HB6
            go_wp2_with fail
            refine (HW2.out w7 (HE.out.later HB7.out rfl)).mono ?_
            rintro e w8 ⟨H, A8, c8, rfl, _, _, hb8⟩
            have HB8 := Aside0.mk (below_then HB7.out HB7.out.size hb8)
            clear hb8 HB7
            go_wp2_with fail
            refine (alive_env (HE.out.later HB8.out rfl)).mono ?_
            rintro e w9 ⟨rfl, hb9⟩
            have HB9 := Aside0.mk (below_then HB8.out HB8.out.size hb9)
            clear hb9 HB8
            go_wp2_with fail
            go_ret
            exact ⟨rfl, HB9.out⟩
          · exact absurd (hn1.symm.trans HD.out) (by simp)
        · have q0 : (F == 0) = false := beq_eq_false_iff_ne.2 h0
          clear h0 HPL
          go_wp2_with fail
          refine (alive_env (HE.out.later HB5.out rfl)).mono ?_
          rintro e w6 ⟨rfl, hb6⟩
          have HB6 := Aside0.mk (below_then HB5.out HB5.out.size hb6)
          clear hb6 HB5
          go_wp2_with fail
          go_ret
          exact ⟨rfl, HB6.out⟩
      · have hd' : needO m (bsOf s) 120 = none := hd
        have HN1 := Aside0.mk (fun (w1 : World) (h : Env w1 mL) => needs_env h m s pX hss 0 10 hr)
        have HD := Aside0.mk hd'
        clear HBd hF hb hmo hbt htz hE hd hd' hr hss2 k1 k2 k3 hsz hi hAz
        go_enter Tryd.func7, Tryd.ntmps7
        go_wp2_with fail
        refine HB0.out.mono ?_
        rintro e w1 ⟨rfl, hb1⟩
        have HB1 := Aside0.mk hb1
        clear hb1
        go_wp2_with fail
        refine (HN1.out w1 (HE.out.later HB1.out rfl)).mono ?_
        rintro e w3 ⟨rfl, hb3⟩
        have HB3 := Aside0.mk (below_then HB1.out HB1.out.size hb3)
        clear hb3 HB1
        go_wp2_with fail
        go_quiet (fail)
        go_wp2_with fail
        refine (HN2.out _ (HE.out.later (pw_below_drewN HB3.out nq) rfl)).mono ?_
        rintro e w4 ⟨rfl, hb4⟩
        have HB4 := Aside0.mk (below_then (pw_below_drewN HB3.out nq) (pw_below_drewN HB3.out nq).size hb4)
        clear hb4 HB3
        go_wp2_with fail
        refine (HB9.out w4).mono ?_
        rintro e w5 ⟨rfl, hb5⟩
        have HB5 := Aside0.mk (below_then HB4.out HB4.out.size hb5)
        clear hb5 HB4
        by_cases h0 : F = 0
        · obtain ⟨e1, e2, ⟨_, _, hn1, _⟩ | ⟨hp, hq, hn1, r3⟩⟩ := HPL.out h0
          · exact absurd (HD.out.symm.trans hn1) (by simp)
          · subst h0
            clear HPL hn1 HD
            rcases hq with hq | hq
            · skip
              have HN3 := Aside0.mk (fun (w1 : World) (h : Env w1 mL) => needs_env h m s pO hss 0 0 r3)
              have HW1 := Aside0.mk (fun (w1 : World) (h : Env w1 mL) => winner_env h m s hss e1 111 hp)
              have HW2 := Aside0.mk (fun (w1 : World) (h : Env w1 mL) => winner_env h m t HSS.out e2 120 hq)
              clear e1 e2 hp hq r3
              rw [show strP 111 = ⟨#[111]⟩ from rfl] at HW1
              rw [show strP 120 = ⟨#[120]⟩ from rfl] at HW2
              go_wp2_with fail
              refine (HN3.out w5 (HE.out.later HB5.out rfl)).mono ?_
              rintro e w6 ⟨rfl, hb6⟩
              have HB6 := Aside0.mk (below_then HB5.out HB5.out.size hb6)
              clear hb6 HB5
              go_wp2_with fail
              refine (HW1.out w6 (HE.out.later HB6.out rfl)).mono ?_
              rintro e w7 ⟨G, A7, c7, rfl, _, _, hb7⟩
              have HB7 := Aside0.mk (below_then HB6.out HB6.out.size hb7)
              clear hb7 HB6
              go_wp2_with fail
              refine (HW2.out w7 (HE.out.later HB7.out rfl)).mono ?_
              rintro e w8 ⟨H, A8, c8, rfl, _, _, hb8⟩
              have HB8 := Aside0.mk (below_then HB7.out HB7.out.size hb8)
              clear hb8 HB7
              go_wp2_with fail
              refine (alive_env (HE.out.later HB8.out rfl)).mono ?_
              rintro e w9 ⟨rfl, hb9⟩
              have HB9 := Aside0.mk (below_then HB8.out HB8.out.size hb9)
              clear hb9 HB8
              go_wp2_with fail
              go_ret
              exact ⟨rfl, HB9.out⟩
            · skip
              have HN3 := Aside0.mk (fun (w1 : World) (h : Env w1 mL) => needs_env h m s pO hss 0 0 r3)
              have HW1 := Aside0.mk (fun (w1 : World) (h : Env w1 mL) => winner_env h m s hss e1 111 hp)
              have HW2 := Aside0.mk (fun (w1 : World) (h : Env w1 mL) => winner_env h m t HSS.out e2 111 hq)
              clear e1 e2 hp hq r3
              rw [show strP 111 = ⟨#[111]⟩ from rfl] at HW1
              rw [show strP 111 = ⟨#[111]⟩ from rfl] at HW2
              go_wp2_with fail
              refine (HN3.out w5 (HE.out.later HB5.out rfl)).mono ?_
              rintro e w6 ⟨rfl, hb6⟩
              have HB6 := Aside0.mk (below_then HB5.out HB5.out.size hb6)
              clear hb6 HB5
              go_wp2_with fail
              refine (HW1.out w6 (HE.out.later HB6.out rfl)).mono ?_
              rintro e w7 ⟨G, A7, c7, rfl, _, _, hb7⟩
              have HB7 := Aside0.mk (below_then HB6.out HB6.out.size hb7)
              clear hb7 HB6
              go_wp2_with fail
              refine (HW2.out w7 (HE.out.later HB7.out rfl)).mono ?_
              rintro e w8 ⟨H, A8, c8, rfl, _, _, hb8⟩
              have HB8 := Aside0.mk (below_then HB7.out HB7.out.size hb8)
              clear hb8 HB7
              go_wp2_with fail
              refine (alive_env (HE.out.later HB8.out rfl)).mono ?_
              rintro e w9 ⟨rfl, hb9⟩
              have HB9 := Aside0.mk (below_then HB8.out HB8.out.size hb9)
              clear hb9 HB8
              go_wp2_with fail
              go_ret
              exact ⟨rfl, HB9.out⟩
        · have q0 : (F == 0) = false := beq_eq_false_iff_ne.2 h0
          clear h0 HPL
          go_wp2_with fail
          refine (alive_env (HE.out.later HB5.out rfl)).mono ?_
          rintro e w6 ⟨rfl, hb6⟩
          have HB6 := Aside0.mk (below_then HB5.out HB5.out.size hb6)
          clear hb6 HB5
          go_wp2_with fail
          go_ret
          exact ⟨rfl, HB6.out⟩
    · have q0 : (E == 0) = false := beq_eq_false_iff_ne.2 h0
      clear h0 hE
      go_enter Tryd.func7, Tryd.ntmps7
      go_wp2_with fail
      refine HB0.out.mono ?_
      rintro e w1 ⟨rfl, hb1⟩
      have HB1 := Aside0.mk hb1
      clear hb1
      go_wp2_with fail
      refine (alive_env (HE.out.later HB1.out rfl)).mono ?_
      rintro e w2 ⟨rfl, hb2⟩
      have HB2 := Aside0.mk (below_then HB1.out HB1.out.size hb2)
      clear hb2
      go_wp2_with fail
      go_ret
      exact ⟨rfl, HB2.out⟩
end Go.Proofs.YtlmgkmmdaecpdaaDoor.Im

