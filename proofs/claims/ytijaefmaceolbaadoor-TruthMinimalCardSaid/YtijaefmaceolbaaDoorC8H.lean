/- Further parts of the same walk: contracts of the functions that the law reaches, each under the conditions that it states. -/
import Derived.Test.YtijaefmaceolbaaDoorC8G
namespace Go.Proofs.YtijaefmaceolbaaDoor.Im
open Go.RowKit Go.Proofs.YtijaefmaceolbaaDoorW.PrintWords Go.Proofs.YtijaefmaceolbaaDoorW.PrintLast Go.Proofs.YtijaefmaceolbaaDoorW.PrintMore
attribute [local go_sem] max2_int min2_int max_two min_two max_three min_three max_four min_four
set_option linter.unusedVariables false
set_option linter.unusedSimpArgs false
mutual
def pomadelaw01_part.l0 : Nat → List ByteArray → List Int → List ByteArray → Int → Option (List ByteArray)
  | 0, _, _, _, _ => none
  | k + 1, x0, x1, x5, x6 => if x6 < (x0.length : Int) then (if x5.length < 8796093022208 then (pomadelaw01_part.l0 k x0 x1 (x5 ++ [(⟨#[48]⟩ : ByteArray)]) (wrap64 (x6 + 1))) else (none)) else (pomadelaw01_part.l1 k x0 x1 x5 0)
def pomadelaw01_part.l1 : Nat → List ByteArray → List Int → List ByteArray → Int → Option (List ByteArray)
  | 0, _, _, _, _ => none
  | k + 1, x0, x1, x5, x7 => if x7 < (x1.length : Int) then (if 0 ≤ x7 then (if 0 ≤ (rd x1 x7) then (if (rd x1 x7) < (x0.length : Int) then (if (rd x1 x7) < (x5.length : Int) then (pomadelaw01_part.l1 k x0 x1 (x5.set ((rd x1 x7) : Int).toNat (rdOf ByteArray.empty x0 (rd x1 x7))) (wrap64 (x7 + 1))) else (none)) else (none)) else (none)) else (none)) else (some x5)
end
def pomadelaw01_part.f (k : Nat) (l0 : List ByteArray) (l1 : List Int) : Option (List ByteArray) := pomadelaw01_part.l0 k l0 l1 ([] : List ByteArray) 0
theorem pomadelaw01_part.mono_l : ∀ k, (∀ y0 y1 y2 y3, LeO (pomadelaw01_part.l0 k y0 y1 y2 y3) (pomadelaw01_part.l0 (k + 1) y0 y1 y2 y3)) ∧ (∀ y0 y1 y2 y3, LeO (pomadelaw01_part.l1 k y0 y1 y2 y3) (pomadelaw01_part.l1 (k + 1) y0 y1 y2 y3))
  | 0 => ⟨fun _ _ _ _ r h => by simp [pomadelaw01_part.l0] at h, fun _ _ _ _ r h => by simp [pomadelaw01_part.l1] at h⟩
  | k + 1 => by
    obtain ⟨ih0, ih1⟩ := pomadelaw01_part.mono_l k
    refine ⟨?_, ?_⟩
    · intro y0 y1 y2 y3
      unfold pomadelaw01_part.l0
      repeat' first
      | (with_reducible exact ih0 _ _ _ _)
      | (with_reducible exact ih1 _ _ _ _)
      | (with_reducible exact LeO.refl _)
      | (with_reducible exact LeO.none _)
      | (with_reducible refine LeO.ite ?_ ?_)
      | (with_reducible refine LeO.bind ?_ (fun _ => ?_))
      | exact ih0 _ _ _ _
      | exact ih1 _ _ _ _
      | exact LeO.none _
      | refine LeO.ite ?_ ?_
      | refine LeO.bind ?_ (fun _ => ?_)
    · intro y0 y1 y2 y3
      unfold pomadelaw01_part.l1
      repeat' first
      | (with_reducible exact ih0 _ _ _ _)
      | (with_reducible exact ih1 _ _ _ _)
      | (with_reducible exact LeO.refl _)
      | (with_reducible exact LeO.none _)
      | (with_reducible refine LeO.ite ?_ ?_)
      | (with_reducible refine LeO.bind ?_ (fun _ => ?_))
      | exact ih0 _ _ _ _
      | exact ih1 _ _ _ _
      | exact LeO.none _
      | refine LeO.ite ?_ ?_
      | refine LeO.bind ?_ (fun _ => ?_)
theorem pomadelaw01_part.mono : ∀ a0 a1 k, LeO (pomadelaw01_part.f k a0 a1) (pomadelaw01_part.f (k + 1) a0 a1) := by
  intro a0 a1 k
  obtain ⟨ih0, ih1⟩ := pomadelaw01_part.mono_l k
  unfold pomadelaw01_part.f
  repeat' first
      | (with_reducible exact ih0 _ _ _ _)
      | (with_reducible exact ih1 _ _ _ _)
      | (with_reducible exact LeO.refl _)
      | (with_reducible exact LeO.none _)
      | (with_reducible refine LeO.ite ?_ ?_)
      | (with_reducible refine LeO.bind ?_ (fun _ => ?_))
      | exact ih0 _ _ _ _
      | exact ih1 _ _ _ _
      | exact LeO.none _
      | refine LeO.ite ?_ ?_
      | refine LeO.bind ?_ (fun _ => ?_)
def pomadelaw01_part.T9 : Bool × List (List Nat × List Nat) := (true, [([], []), ([], []), ([], []), ([1, 2], [1, 2]), ([3], [3]), ([], []), ([], []), ([], []), ([6, 7], [6, 7]), ([8], [8]), ([5, 9], [5, 9]), ([10], [10]), ([0, 4, 0, 1, 2, 3, 4, 5, 6, 7, 8, 9, 10, 11], [0, 4]), ([12, 11, 0, 1, 2, 3, 4, 5, 6, 7, 8, 9, 10, 11], [11, 12])])
def pomadelaw01_part.B9 : List Nat := [0, 0, 0, 6, 14, 0, 0, 0, 192, 448, 992, 2016, 4095, 8191]
theorem pomadelaw01_part.tab9 : rtab .any (opsOf Tryd.f31 9) = pomadelaw01_part.T9 := by kernel_rfl
theorem pomadelaw01_part.bits9 : waitsOk pomadelaw01_part.T9.2 pomadelaw01_part.B9 = true := by kernel_rfl
set_option maxHeartbeats 8000000 in
set_option maxRecDepth 100000 in
theorem pomadelaw01_part.calls (k : Nat) (A0 : Option Addr) (c0 : Nat) (l0 : List ByteArray) (A1 : Option Addr) (c1 : Nat) (l1 : List Int) (r : List ByteArray) (w : World) (hr0 : Kd.C Kd.string w A0 l0.length l0) (hc0 : l0.length ≤ c0) (hr1 : Kd.C (Kd.int .i64) w A1 l1.length l1) (hc1 : l1.length ≤ c1) (h : pomadelaw01_part.f k l0 l1 = some r) :
    Calls Tryd.prog 31 #[.slice A0 l0.length c0, .slice A1 l1.length c1] w fun e w' => ∃ v0_ : Value, e = .returned (v0_) ∧ Kd.R Kd.string 9 w' w.heap.size (fun _ => True) v0_ r ∧ Below w.heap.size w w' := by
  have HR0 := Aside0.mk hr0
  have HC0 := Aside0.mk hc0
  clear hr0 hc0
  have HR1 := Aside0.mk hr1
  have HC1 := Aside0.mk hc1
  clear hr1 hc1
  have HB := Aside0.mk (Below.refl w.heap.size w)
  have H : (pomadelaw01_part.l0 k l0 l1 ([] : List ByteArray) 0) = some r := h
  clear h
  have H' := Aside0.mk H
  clear H
  go_enter Tryd.func31, Tryd.ntmps31
  go_wp2
  go_loopg [5, 6] k (fun kq v5 v6 w' => ∃ (x5_1 : List ByteArray) (x6_1 : Int), v6 = .int .i64 x6_1 ∧ Aside0 (pomadelaw01_part.l0 kq l0 l1 x5_1 x6_1 = some r) ∧ Aside0 (kq ≤ k) ∧ Aside0 (Kd.R Kd.string 9 w' w.heap.size (fun _ => True) v5 x5_1) ∧ Aside0 (Below w.heap.size w w'))
  case atStart => exact ⟨(([] : List ByteArray)), (0), (by first | rfl | (simp; done) | (simp [*]; done)), H', ⟨Nat.le_refl _⟩, ⟨by first | exact Kd.R_nil _ _ _ _ _ | exact Kd.N_nil _ _ _ _ _ | exact Kd.V_nil _ _ _ _ _ | exact Kd.Q_nil _ _ _ _ _ | exact Kd.S_nil _ _ _ _ _⟩, ⟨by repeat (first | (with_reducible first | exact HB.out | apply below_alloc | apply pw_below_drewN | apply below_drew1) | exact HB.out)⟩⟩
  case round =>
    clear H'
    try clear c1
    try clear p2
    obtain ⟨x5_1, x6_1, rfl, HA, HK1, HO_5, HB⟩ := hrel
    cases gk with
    | zero => exact absurd HA.out (by simp [pomadelaw01_part.l0])
    | succ k1 =>
      have H := HA.out
      clear HA
      simp only [pomadelaw01_part.l0] at H
      by_cases c3 : x6_1 < (l0.length : Int)
      · rw [if_pos c3] at H
        have c3b0 : decide (x6_1 < (l0.length : Int)) = true := decide_eq_true c3
        clear c3
        by_cases c4 : x5_1.length < 8796093022208
        · rw [if_pos c4] at H
          have LMc4 := Aside0.mk c4
          clear c4
          obtain ⟨y176, hy176⟩ : ∃ y_ : List ByteArray, y_ = (x5_1 ++ [(⟨#[48]⟩ : ByteArray)]) := ⟨_, rfl⟩
          replace H : (pomadelaw01_part.l0 k1 l0 l1 y176 (wrap64 (x6_1 + 1))) = some r := by first | (rw [hy176]; with_reducible exact H) | (have H2_ := (Option.bind_some _ _).symm.trans H; rw [hy176]; with_reducible exact H2_) | (have H2_ := (Option.bind_some _ _).symm.trans H; with_reducible exact H2_) | with_reducible exact H | (rw [hy176]; exact H) | exact H
          have Ny176 := Aside0.mk hy176
          clear hy176
          have H' := Aside0.mk H
          clear H
          go_wp2_with (first | ((with_reducible refine gate_builtin (b := .append) (xs := #[.tmp 14, .tmp 15]) rfl ?_); at_builtin; refine Kd.R_append Kd.string (w0 := w) w.heap.size rfl (.tmp 14) (.tmp 15) 22 9 (.string ⟨#[]⟩) 16 rfl Tryd.underlying22 info9 rfl (by decide) (by omega) u5 x5_1 (⟨#[48]⟩ : ByteArray) [.string (⟨#[48]⟩ : ByteArray)] (fun _ => True) (fun _ => False) rfl rfl ?aP (fun _ hk => hk.elim) ?aF ?aO ?aB ?aS ?aL ?_; (case aP => exact rfl); (case aB => exact (by repeat (first | (with_reducible first | exact HB.out | apply below_alloc | apply pw_below_drewN | apply below_drew1) | exact HB.out))); (case aF => exact (fun _ _ => trivial)); (case aO => exact (by (with_reducible repeat (first | apply Kd.R_alloc | apply Kd.R_drewN | apply Kd.R_drew)); exact HO_5.out)); (case aS => exact (below_size (by repeat (first | (with_reducible first | exact HB.out | apply below_alloc | apply pw_below_drewN | apply below_drew1) | exact HB.out)))); (case aL => have := LMc4.out; omega); intro v177 w5 ho hb hg hat; rw [← Ny176.out] at ho; have n0_ := Aside0.mk (hb); have n1_ := Aside0.mk (ho); clear HB; clear HO_5; have HB := n0_; have HO178 := n1_; clear n0_ n1_; clear ho hb hg hat))
          go_roundg k1
          case measure => have := HK1.out; omega
          case rel => exact ⟨(y176), (wrap64 (x6_1 + 1)), (by first | rfl | (simp; done) | (simp [*]; done)), H', ⟨by have := HK1.out; omega⟩, ⟨by (with_reducible repeat (first | apply Kd.R_alloc | apply Kd.R_drewN | apply Kd.R_drew)); exact HO178.out⟩, ⟨by repeat (first | (with_reducible first | exact HB.out | apply below_alloc | apply pw_below_drewN | apply below_drew1) | exact HB.out)⟩⟩
        · rw [if_neg c4] at H
          exact absurd H (by simp)
      · rw [if_neg c3] at H
        have c3b0 : decide (x6_1 < (l0.length : Int)) = false := decide_eq_false c3
        clear c3
        have H' := Aside0.mk H
        clear H
        go_wp2
        go_loopg [7] k1 (fun kq v7 w' => ∃ (x5_2 : List ByteArray) (x7_2 : Int), v7 = .int .i64 x7_2 ∧ Aside0 (pomadelaw01_part.l1 kq l0 l1 x5_2 x7_2 = some r) ∧ Aside0 (kq ≤ k1) ∧ Aside0 (Kd.R Kd.string 9 w' w.heap.size (fun _ => True) u5 x5_2) ∧ Aside0 (Below w.heap.size w w'))
        case atStart => exact ⟨(x5_1), (0), (by first | rfl | (simp; done) | (simp [*]; done)), H', ⟨Nat.le_refl _⟩, ⟨by (with_reducible repeat (first | apply Kd.R_alloc | apply Kd.R_drewN | apply Kd.R_drew)); exact HO_5.out⟩, ⟨by repeat (first | (with_reducible first | exact HB.out | apply below_alloc | apply pw_below_drewN | apply below_drew1) | exact HB.out)⟩⟩
        case round =>
          clear H'
          try clear c1
          try clear p2
          try clear c3
          try clear c3b0
          try clear c4
          try clear p2
          obtain ⟨x5_2, x7_2, rfl, HA, HK2, HO_5, HB⟩ := hrel
          cases gk with
          | zero => exact absurd HA.out (by simp [pomadelaw01_part.l1])
          | succ k2 =>
            have H := HA.out
            clear HA
            simp only [pomadelaw01_part.l1] at H
            by_cases c6 : x7_2 < (l1.length : Int)
            · rw [if_pos c6] at H
              have c6b0 : decide (x7_2 < (l1.length : Int)) = true := decide_eq_true c6
              clear c6
              by_cases c7 : 0 ≤ x7_2
              · rw [if_pos c7] at H
                have c7b0 : decide (0 ≤ x7_2) = true := decide_eq_true c7
                clear c7
                by_cases c8 : 0 ≤ (rd l1 x7_2)
                · rw [if_pos c8] at H
                  have c8b0 : decide (0 ≤ (rd l1 x7_2)) = true := decide_eq_true c8
                  clear c8
                  by_cases c9 : (rd l1 x7_2) < (l0.length : Int)
                  · rw [if_pos c9] at H
                    have c9b0 : decide ((rd l1 x7_2) < (l0.length : Int)) = true := decide_eq_true c9
                    clear c9
                    by_cases c10 : (rd l1 x7_2) < (x5_2.length : Int)
                    · rw [if_pos c10] at H
                      have c10b0 : decide ((rd l1 x7_2) < (x5_2.length : Int)) = true := decide_eq_true c10
                      clear c10
                      obtain ⟨y182, hy182⟩ : ∃ y_ : List ByteArray, y_ = (x5_2.set ((rd l1 x7_2) : Int).toNat (rdOf ByteArray.empty l0 (rd l1 x7_2))) := ⟨_, rfl⟩
                      replace H : (pomadelaw01_part.l1 k2 l0 l1 y182 (wrap64 (x7_2 + 1))) = some r := by first | (rw [hy182]; with_reducible exact H) | (have H2_ := (Option.bind_some _ _).symm.trans H; rw [hy182]; with_reducible exact H2_) | (have H2_ := (Option.bind_some _ _).symm.trans H; with_reducible exact H2_) | with_reducible exact H | (rw [hy182]; exact H) | exact H
                      have Ny182 := Aside0.mk hy182
                      clear hy182
                      have H' := Aside0.mk H
                      clear H
                      try go_wp2
                      have n0_ := Aside0.mk (Kd.R_drew HO_5.out)
                      have n1_ := Aside0.mk (below_drew1 HB.out)
                      clear HO_5
                      clear HB
                      have HO_5 := n0_
                      have HB := n1_
                      clear n0_ n1_
                      have p179 : 0 ≤ (x7_2 : Int) := of_decide_eq_true (by first | (with_reducible assumption) | assumption)
                      have q179 : x7_2 < (l1.length : Int) := of_decide_eq_true (by first | (with_reducible assumption) | assumption)
                      obtain ⟨ad179, e179, hx179_0⟩ := Kd.at_int HR1.out x7_2 p179 q179
                      have hw179_0 := hx179_0
                      cases e179
                      replace hx179_0 := (HB.out.cell (World.block_lt_of_cell? w _ hx179_0)).trans hx179_0
                      replace p179 := eq_true p179
                      replace q179 := eq_true q179
                      have p180 : 0 ≤ (x7_2 : Int) := of_decide_eq_true (by first | (with_reducible assumption) | assumption)
                      have q180 : x7_2 < (l1.length : Int) := of_decide_eq_true (by first | (with_reducible assumption) | assumption)
                      obtain ⟨ad180, e180, hx180_0⟩ := Kd.at_int HR1.out x7_2 p180 q180
                      have hw180_0 := hx180_0
                      obtain rfl : ad179 = ad180 := (by injection e180)
                      replace hx180_0 := (HB.out.cell (World.block_lt_of_cell? w _ hx180_0)).trans hx180_0
                      replace p180 := eq_true p180
                      replace q180 := eq_true q180
                      have p181 : 0 ≤ ((rd l1 x7_2) : Int) := of_decide_eq_true (by first | (with_reducible assumption) | assumption)
                      have q181 : (rd l1 x7_2) < (l0.length : Int) := of_decide_eq_true (by first | (with_reducible assumption) | assumption)
                      obtain ⟨ad181, e181, hx181_0⟩ := Kd.at_string HR0.out (rd l1 x7_2) p181 q181
                      have hw181_0 := hx181_0
                      cases e181
                      replace hx181_0 := (HB.out.cell (World.block_lt_of_cell? w _ hx181_0)).trans hx181_0
                      replace p181 := eq_true p181
                      replace q181 := eq_true q181
                      have p11 : 0 ≤ ((rd l1 x7_2) : Int) := of_decide_eq_true (by first | (with_reducible assumption) | assumption)
                      have q11 : ((rd l1 x7_2) : Int) < ((x5_2.length : Int) : Int) := of_decide_eq_true (by first | (with_reducible assumption) | assumption)
                      obtain ⟨go11, co11, eo11, gb11, gl11, cl11, HG11⟩ := Kd.R_form HO_5.out (by omega)
                      (first | cases eo11 | (injection eo11 with ea_ en_ ec_; (first | subst ea_ | (injection ea_ with ea_; subst ea_)); subst ec_; clear en_))
                      have GB11 := Aside0.mk gb11
                      have GG11 := Aside0.mk HG11
                      clear gb11 gl11 HG11
                      obtain ⟨hx11_0, hf11_0⟩ := Kd.R_celln (⟨#[]⟩ : ByteArray) HO_5.out ((rd l1 x7_2) : Int) p11 q11
                      replace p11 := eq_true p11
                      replace q11 := eq_true q11
                      have HP13 := Kd.R_putn HO_5.out ((rd l1 x7_2) : Int) (rdOf ByteArray.empty l0 (rd l1 x7_2))
                      rw [← Ny182.out] at HP13
                      have HQ13 := Aside0.mk HP13
                      clear HP13
                      refine start_ (n := 14) (S := fun w' => w'.cell? (ad179.add (x7_2).toNat) = some (.int .i64 (rd l1 x7_2)) ∧ w'.cell? (ad179.add (x7_2).toNat) = some (.int .i64 (rd l1 x7_2)) ∧ w'.cell? (ad181.add ((rd l1 x7_2)).toNat) = some (.string (rdOf ByteArray.empty l0 (rd l1 x7_2)))) (ds := [13]) #[false, false, false, false, false, false, false, false, false, false, false, false, false, false] (by kernel_rfl) rfl rfl ⟨((HB.out.cell (World.block_lt_of_cell? w _ hw179_0)).trans hw179_0), ((HB.out.cell (World.block_lt_of_cell? w _ hw180_0)).trans hw180_0), ((HB.out.cell (World.block_lt_of_cell? w _ hw181_0)).trans hw181_0)⟩ (fun hHeld => ?_); refine with_tabW pomadelaw01_part.tab9 pomadelaw01_part.bits9 (fun HT_ HW_ => ?_)
                      generalize wr.drew = w12 at HO_5 HB GG11 HQ13 hf11_0 hx11_0 hx179_0 hx180_0 hx181_0 hHeld ⊢
                      refine pure_ (i := 0) (N := some 23) (v := ?_) (a' := ?_) #[true, false, false, false, false, false, false, false, false, false, false, false, false, false] rfl rfl (any_of HT_.out (by kernel_rfl)) (fun _ _ _ h => h) (Or.inl ⟨by rfl, ?_⟩) ?_ ?_
                      rotate_left
                      · intro w'
                        go_simp
                        with_reducible rfl
                      rotate_left
                      · simp only [Act.put, List.setIfInBounds_toArray, List.set_cons_zero, List.set_cons_succ, i64_w, i32_w]
                        rfl
                      refine pure_ (i := 1) (N := some 24) (v := ?_) (a' := ?_) #[true, true, false, false, false, false, false, false, false, false, false, false, false, false] rfl rfl (any_of HT_.out (by kernel_rfl)) (fun _ _ _ h => h) (Or.inl ⟨by rfl, ?_⟩) ?_ ?_
                      rotate_left
                      · intro w'
                        go_simp
                        with_reducible rfl
                      rotate_left
                      · simp only [Act.put, List.setIfInBounds_toArray, List.set_cons_zero, List.set_cons_succ, i64_w, i32_w]
                        rfl
                      refine pure_ (i := 2) (N := some 25) (v := ?_) (a' := ?_) #[true, true, true, false, false, false, false, false, false, false, false, false, false, false] rfl rfl (any_of HT_.out (by kernel_rfl)) (fun _ _ _ h => h) (Or.inl ⟨by rfl, ?_⟩) ?_ ?_
                      rotate_left
                      · intro w'
                        go_simp
                        with_reducible rfl
                      rotate_left
                      · simp only [Act.put, List.setIfInBounds_toArray, List.set_cons_zero, List.set_cons_succ, i64_w, i32_w]
                        rfl
                      refine pure_ (i := 3) (N := some 26) (v := ?_) (a' := ?_) #[true, true, true, true, false, false, false, false, false, false, false, false, false, false] rfl rfl (any_of HT_.out (by kernel_rfl)) (fun _ _ _ h => h) (Or.inl ⟨by rfl, ?_⟩) ?_ ?_
                      rotate_left
                      · intro w'
                        go_simp
                        with_reducible rfl
                      rotate_left
                      · simp only [Act.put, List.setIfInBounds_toArray, List.set_cons_zero, List.set_cons_succ, i64_w, i32_w]
                        rfl
                      refine pure_ (i := 5) (N := some 28) (v := ?_) (a' := ?_) #[true, true, true, true, false, true, false, false, false, false, false, false, false, false] rfl rfl (any_of HT_.out (by kernel_rfl)) (fun _ _ _ h => h) (Or.inl ⟨by rfl, ?_⟩) ?_ ?_
                      rotate_left
                      · intro w'
                        go_simp
                        with_reducible rfl
                      rotate_left
                      · simp only [Act.put, List.setIfInBounds_toArray, List.set_cons_zero, List.set_cons_succ, i64_w, i32_w]
                        rfl
                      refine pure_ (i := 6) (N := some 29) (v := ?_) (a' := ?_) #[true, true, true, true, false, true, true, false, false, false, false, false, false, false] rfl rfl (any_of HT_.out (by kernel_rfl)) (fun _ _ _ h => h) (Or.inl ⟨by rfl, ?_⟩) ?_ ?_
                      rotate_left
                      · intro w'
                        go_simp
                        with_reducible rfl
                      rotate_left
                      · simp only [Act.put, List.setIfInBounds_toArray, List.set_cons_zero, List.set_cons_succ, i64_w, i32_w]
                        rfl
                      refine pure_ (i := 7) (N := some 30) (v := ?_) (a' := ?_) #[true, true, true, true, false, true, true, true, false, false, false, false, false, false] rfl rfl (any_of HT_.out (by kernel_rfl)) (fun _ _ _ h => h) (Or.inl ⟨by rfl, ?_⟩) ?_ ?_
                      rotate_left
                      · intro w'
                        go_simp
                        with_reducible rfl
                      rotate_left
                      · simp only [Act.put, List.setIfInBounds_toArray, List.set_cons_zero, List.set_cons_succ, i64_w, i32_w]
                        rfl
                      refine pure_ (i := 8) (N := some 31) (v := ?_) (a' := ?_) #[true, true, true, true, false, true, true, true, true, false, false, false, false, false] rfl rfl (any_of HT_.out (by kernel_rfl)) (fun _ _ _ h => h) (Or.inl ⟨by rfl, ?_⟩) ?_ ?_
                      rotate_left
                      · intro w'
                        go_simp
                        with_reducible rfl
                      rotate_left
                      · simp only [Act.put, List.setIfInBounds_toArray, List.set_cons_zero, List.set_cons_succ, i64_w, i32_w]
                        rfl
                      refine take_ (i := 4) (N := some 27) (v := ?_) (a' := ?_) #[true, true, true, true, true, true, true, true, true, false, false, false, false, false] rfl rfl (take_ofW HT_.out HW_.out (by kernel_rfl)) (fun _ _ _ h => h) (Or.inl ⟨by rfl, ?_⟩) hHeld ?_ ?_
                      rotate_left
                      · rintro w' ⟨s0, s1, s2⟩
                        go_simp
                        with_reducible rfl
                      rotate_left
                      · simp only [Act.put, List.setIfInBounds_toArray, List.set_cons_zero, List.set_cons_succ, i64_w, i32_w]
                        rfl
                      refine take_ (i := 9) (N := some 32) (v := ?_) (a' := ?_) #[true, true, true, true, true, true, true, true, true, true, false, false, false, false] rfl rfl (take_ofW HT_.out HW_.out (by kernel_rfl)) (fun _ _ _ h => h) (Or.inl ⟨by rfl, ?_⟩) hHeld ?_ ?_
                      rotate_left
                      · rintro w' ⟨s0, s1, s2⟩
                        go_simp
                        with_reducible rfl
                      rotate_left
                      · simp only [Act.put, List.setIfInBounds_toArray, List.set_cons_zero, List.set_cons_succ, i64_w, i32_w]
                        rfl
                      refine pure_ (i := 10) (N := some 33) (v := ?_) (a' := ?_) #[true, true, true, true, true, true, true, true, true, true, true, false, false, false] rfl rfl (any_of HT_.out (by kernel_rfl)) (fun _ _ _ h => h) (Or.inl ⟨by rfl, ?_⟩) ?_ ?_
                      rotate_left
                      · intro w'
                        go_simp
                        with_reducible rfl
                      rotate_left
                      · simp only [Act.put, List.setIfInBounds_toArray, List.set_cons_zero, List.set_cons_succ, i64_w, i32_w]
                        rfl
                      refine take_ (i := 11) (N := some 34) (v := ?_) (a' := ?_) #[true, true, true, true, true, true, true, true, true, true, true, true, false, false] rfl rfl (take_ofW HT_.out HW_.out (by kernel_rfl)) (fun _ _ _ h => h) (Or.inl ⟨by rfl, ?_⟩) hHeld ?_ ?_
                      rotate_left
                      · rintro w' ⟨s0, s1, s2⟩
                        go_simp
                        with_reducible rfl
                      rotate_left
                      · simp only [Act.put, List.setIfInBounds_toArray, List.set_cons_zero, List.set_cons_succ, i64_w, i32_w]
                        rfl
                      refine pure_ (i := 12) (N := some 35) (v := ?_) (a' := ?_) #[true, true, true, true, true, true, true, true, true, true, true, true, true, false] rfl rfl (any_of HT_.out (by kernel_rfl)) (fun _ _ _ h => h) (Or.inl ⟨by rfl, ?_⟩) ?_ ?_
                      rotate_left
                      · intro w'
                        go_simp
                        with_reducible rfl
                      rotate_left
                      · simp only [Act.put, List.setIfInBounds_toArray, List.set_cons_zero, List.set_cons_succ, i64_w, i32_w]
                        rfl
                      refine last_ (i := 13) (N := none) #[true, true, true, true, true, true, true, true, true, true, true, true, true, true] rfl rfl (one_of HT_.out (by kernel_rfl)) (by decide) (fun K hK => ?_)
                      refine skip_ (w1 := ?_) (by rfl) rfl ?_ ?_
                      rotate_left
                      · go_simp
                        rfl
                      refine hK.out _ _ ?_
                      clear hK K
                      refine done_ (done_of HT_.out (by kernel_rfl)) ?_
                      try go_wp2
                      go_roundg k2
                      case measure => have := HK1.out; have := HK2.out; omega
                      case rel => exact ⟨(y182), (wrap64 (x7_2 + 1)), (by first | rfl | (simp; done) | (simp [*]; done)), H', ⟨by have := HK1.out; have := HK2.out; omega⟩, ⟨by (with_reducible repeat (first | apply Kd.R_alloc | apply Kd.R_drewN | apply Kd.R_drew)); exact HQ13.out⟩, ⟨by repeat (first | (with_reducible first | exact HB.out | apply below_alloc | apply pw_below_drewN | apply below_drew1 | refine below_set ?_ GB11.out) | exact HB.out)⟩⟩
                    · rw [if_neg c10] at H
                      exact absurd H (by simp)
                  · rw [if_neg c9] at H
                    exact absurd H (by simp)
                · rw [if_neg c8] at H
                  exact absurd H (by simp)
              · rw [if_neg c7] at H
                exact absurd H (by simp)
            · rw [if_neg c6] at H
              have c6b0 : decide (x7_2 < (l1.length : Int)) = false := decide_eq_false c6
              clear c6
              obtain rfl := Option.some.inj H
              go_wp2
              go_ret
              exact ⟨_, by first | rfl | (simp [errW_none, errW_some] <;> rfl) | (simp [*, errW_none, errW_some] <;> rfl), by (with_reducible repeat (first | apply Kd.R_alloc | apply Kd.R_drewN | apply Kd.R_drew)); exact HO_5.out, by repeat (first | (with_reducible first | exact HB.out | apply below_alloc | apply pw_below_drewN | apply below_drew1) | exact HB.out)⟩
mutual
def pomadelaw01_without.l0 : Nat → List (List Int) → List Int → Int → List Bool → Int → Option (List Int)
  | 0, _, _, _, _, _ => none
  | k + 1, x0, x1, x2, x7, x8 => if x8 < (x1.length : Int) then (if 0 ≤ x8 then (if 0 ≤ (rd x1 x8) then (if (rd x1 x8) < (x7.length : Int) then (pomadelaw01_without.l0 k x0 x1 x2 (x7.set ((rd x1 x8) : Int).toNat ((rd x1 x8) != x2)) (wrap64 (x8 + 1))) else (none)) else (none)) else (none)) else (pomadelaw01_without.l1 k x0 x7 true)
def pomadelaw01_without.l1 : Nat → List (List Int) → List Bool → Bool → Option (List Int)
  | 0, _, _, _ => none
  | k + 1, x0, x7, x9 => if x9 = true then (pomadelaw01_without.l2 k x0 x7 false 0) else (pomadelaw01_without.l4 k x0 x7 ([] : List Int) 0)
def pomadelaw01_without.l2 : Nat → List (List Int) → List Bool → Bool → Int → Option (List Int)
  | 0, _, _, _, _ => none
  | k + 1, x0, x7, x9, x10 => if x10 < (x0.length : Int) then (pomadelaw01_without.l3 k x0 x7 x9 x10 0) else (pomadelaw01_without.l1 k x0 x7 x9)
def pomadelaw01_without.l3 : Nat → List (List Int) → List Bool → Bool → Int → Int → Option (List Int)
  | 0, _, _, _, _, _ => none
  | k + 1, x0, x7, x9, x10, x11 => if x11 < (x0.length : Int) then (if 0 ≤ x10 then (if x10 < (x7.length : Int) then (if rdOf false x7 x10 = true then (if 0 ≤ x11 then (if x11 < (x7.length : Int) then (if rdOf false x7 x11 = true then (pomadelaw01_without.l3 k x0 x7 x9 x10 (wrap64 (x11 + 1))) else (if x10 < (x0.length : Int) then (if x11 < ((rd_L2 x0 x10).length : Int) then (if (rd (rd_L2 x0 x10) x11) = 0 then (pomadelaw01_without.l3 k x0 x7 x9 x10 (wrap64 (x11 + 1))) else (pomadelaw01_without.l3 k x0 (x7.set (x10 : Int).toNat false) true x10 (wrap64 (x11 + 1)))) else (none)) else (none))) else (none)) else (none)) else (pomadelaw01_without.l3 k x0 x7 x9 x10 (wrap64 (x11 + 1)))) else (none)) else (none)) else (pomadelaw01_without.l2 k x0 x7 x9 (wrap64 (x10 + 1)))
def pomadelaw01_without.l4 : Nat → List (List Int) → List Bool → List Int → Int → Option (List Int)
  | 0, _, _, _, _ => none
  | k + 1, x0, x7, x12, x13 => if x13 < (x0.length : Int) then (if 0 ≤ x13 then (if x13 < (x7.length : Int) then (if rdOf false x7 x13 = true then (if x12.length < 17592186044416 then (pomadelaw01_without.l4 k x0 x7 (x12 ++ [x13]) (wrap64 (x13 + 1))) else (none)) else (pomadelaw01_without.l4 k x0 x7 x12 (wrap64 (x13 + 1)))) else (none)) else (none)) else (some x12)
end
def pomadelaw01_without.f (k : Nat) (l0 : List (List Int)) (l1 : List Int) (a2 : Int) : Option (List Int) := if 0 ≤ (l0.length : Int) then (if ((l0.length : Int) : Int).toNat ≤ 281474976710656 then (pomadelaw01_without.l0 k l0 l1 a2 (List.replicate ((l0.length : Int) : Int).toNat false) 0) else (none)) else (none)
theorem pomadelaw01_without.mono_l : ∀ k, (∀ y0 y1 y2 y3 y4, LeO (pomadelaw01_without.l0 k y0 y1 y2 y3 y4) (pomadelaw01_without.l0 (k + 1) y0 y1 y2 y3 y4)) ∧ (∀ y0 y1 y2, LeO (pomadelaw01_without.l1 k y0 y1 y2) (pomadelaw01_without.l1 (k + 1) y0 y1 y2)) ∧ (∀ y0 y1 y2 y3, LeO (pomadelaw01_without.l2 k y0 y1 y2 y3) (pomadelaw01_without.l2 (k + 1) y0 y1 y2 y3)) ∧ (∀ y0 y1 y2 y3 y4, LeO (pomadelaw01_without.l3 k y0 y1 y2 y3 y4) (pomadelaw01_without.l3 (k + 1) y0 y1 y2 y3 y4)) ∧ (∀ y0 y1 y2 y3, LeO (pomadelaw01_without.l4 k y0 y1 y2 y3) (pomadelaw01_without.l4 (k + 1) y0 y1 y2 y3))
  | 0 => ⟨fun _ _ _ _ _ r h => by simp [pomadelaw01_without.l0] at h, fun _ _ _ r h => by simp [pomadelaw01_without.l1] at h, fun _ _ _ _ r h => by simp [pomadelaw01_without.l2] at h, fun _ _ _ _ _ r h => by simp [pomadelaw01_without.l3] at h, fun _ _ _ _ r h => by simp [pomadelaw01_without.l4] at h⟩
  | k + 1 => by
    obtain ⟨ih0, ih1, ih2, ih3, ih4⟩ := pomadelaw01_without.mono_l k
    refine ⟨?_, ?_, ?_, ?_, ?_⟩
    · intro y0 y1 y2 y3 y4
      unfold pomadelaw01_without.l0
      repeat' first
      | (with_reducible exact ih0 _ _ _ _ _)
      | (with_reducible exact ih1 _ _ _)
      | (with_reducible exact ih2 _ _ _ _)
      | (with_reducible exact ih3 _ _ _ _ _)
      | (with_reducible exact ih4 _ _ _ _)
      | (with_reducible exact LeO.refl _)
      | (with_reducible exact LeO.none _)
      | (with_reducible refine LeO.ite ?_ ?_)
      | (with_reducible refine LeO.bind ?_ (fun _ => ?_))
      | exact ih0 _ _ _ _ _
      | exact ih1 _ _ _
      | exact ih2 _ _ _ _
      | exact ih3 _ _ _ _ _
      | exact ih4 _ _ _ _
      | exact LeO.none _
      | refine LeO.ite ?_ ?_
      | refine LeO.bind ?_ (fun _ => ?_)
    · intro y0 y1 y2
      unfold pomadelaw01_without.l1
      repeat' first
      | (with_reducible exact ih0 _ _ _ _ _)
      | (with_reducible exact ih1 _ _ _)
      | (with_reducible exact ih2 _ _ _ _)
      | (with_reducible exact ih3 _ _ _ _ _)
      | (with_reducible exact ih4 _ _ _ _)
      | (with_reducible exact LeO.refl _)
      | (with_reducible exact LeO.none _)
      | (with_reducible refine LeO.ite ?_ ?_)
      | (with_reducible refine LeO.bind ?_ (fun _ => ?_))
      | exact ih0 _ _ _ _ _
      | exact ih1 _ _ _
      | exact ih2 _ _ _ _
      | exact ih3 _ _ _ _ _
      | exact ih4 _ _ _ _
      | exact LeO.none _
      | refine LeO.ite ?_ ?_
      | refine LeO.bind ?_ (fun _ => ?_)
    · intro y0 y1 y2 y3
      unfold pomadelaw01_without.l2
      repeat' first
      | (with_reducible exact ih0 _ _ _ _ _)
      | (with_reducible exact ih1 _ _ _)
      | (with_reducible exact ih2 _ _ _ _)
      | (with_reducible exact ih3 _ _ _ _ _)
      | (with_reducible exact ih4 _ _ _ _)
      | (with_reducible exact LeO.refl _)
      | (with_reducible exact LeO.none _)
      | (with_reducible refine LeO.ite ?_ ?_)
      | (with_reducible refine LeO.bind ?_ (fun _ => ?_))
      | exact ih0 _ _ _ _ _
      | exact ih1 _ _ _
      | exact ih2 _ _ _ _
      | exact ih3 _ _ _ _ _
      | exact ih4 _ _ _ _
      | exact LeO.none _
      | refine LeO.ite ?_ ?_
      | refine LeO.bind ?_ (fun _ => ?_)
    · intro y0 y1 y2 y3 y4
      unfold pomadelaw01_without.l3
      repeat' first
      | (with_reducible exact ih0 _ _ _ _ _)
      | (with_reducible exact ih1 _ _ _)
      | (with_reducible exact ih2 _ _ _ _)
      | (with_reducible exact ih3 _ _ _ _ _)
      | (with_reducible exact ih4 _ _ _ _)
      | (with_reducible exact LeO.refl _)
      | (with_reducible exact LeO.none _)
      | (with_reducible refine LeO.ite ?_ ?_)
      | (with_reducible refine LeO.bind ?_ (fun _ => ?_))
      | exact ih0 _ _ _ _ _
      | exact ih1 _ _ _
      | exact ih2 _ _ _ _
      | exact ih3 _ _ _ _ _
      | exact ih4 _ _ _ _
      | exact LeO.none _
      | refine LeO.ite ?_ ?_
      | refine LeO.bind ?_ (fun _ => ?_)
    · intro y0 y1 y2 y3
      unfold pomadelaw01_without.l4
      repeat' first
      | (with_reducible exact ih0 _ _ _ _ _)
      | (with_reducible exact ih1 _ _ _)
      | (with_reducible exact ih2 _ _ _ _)
      | (with_reducible exact ih3 _ _ _ _ _)
      | (with_reducible exact ih4 _ _ _ _)
      | (with_reducible exact LeO.refl _)
      | (with_reducible exact LeO.none _)
      | (with_reducible refine LeO.ite ?_ ?_)
      | (with_reducible refine LeO.bind ?_ (fun _ => ?_))
      | exact ih0 _ _ _ _ _
      | exact ih1 _ _ _
      | exact ih2 _ _ _ _
      | exact ih3 _ _ _ _ _
      | exact ih4 _ _ _ _
      | exact LeO.none _
      | refine LeO.ite ?_ ?_
      | refine LeO.bind ?_ (fun _ => ?_)
theorem pomadelaw01_without.mono : ∀ a0 a1 a2 k, LeO (pomadelaw01_without.f k a0 a1 a2) (pomadelaw01_without.f (k + 1) a0 a1 a2) := by
  intro a0 a1 a2 k
  obtain ⟨ih0, ih1, ih2, ih3, ih4⟩ := pomadelaw01_without.mono_l k
  unfold pomadelaw01_without.f
  repeat' first
      | (with_reducible exact ih0 _ _ _ _ _)
      | (with_reducible exact ih1 _ _ _)
      | (with_reducible exact ih2 _ _ _ _)
      | (with_reducible exact ih3 _ _ _ _ _)
      | (with_reducible exact ih4 _ _ _ _)
      | (with_reducible exact LeO.refl _)
      | (with_reducible exact LeO.none _)
      | (with_reducible refine LeO.ite ?_ ?_)
      | (with_reducible refine LeO.bind ?_ (fun _ => ?_))
      | exact ih0 _ _ _ _ _
      | exact ih1 _ _ _
      | exact ih2 _ _ _ _
      | exact ih3 _ _ _ _ _
      | exact ih4 _ _ _ _
      | exact LeO.none _
      | refine LeO.ite ?_ ?_
      | refine LeO.bind ?_ (fun _ => ?_)
def pomadelaw01_without.T5 : Bool × List (List Nat × List Nat) := (true, [([], []), ([], []), ([], []), ([1, 2], [1, 2]), ([3], [3]), ([], []), ([], []), ([5, 6], [5, 6]), ([7], [7]), ([], []), ([8, 9], [8, 9]), ([0, 4, 0, 1, 2, 3, 4, 5, 6, 7, 8, 9, 10], [0, 4]), ([11, 10, 0, 1, 2, 3, 4, 5, 6, 7, 8, 9, 10], [10, 11])])
def pomadelaw01_without.B5 : List Nat := [0, 0, 0, 6, 14, 0, 0, 96, 224, 0, 992, 2047, 4095]
theorem pomadelaw01_without.tab5 : rtab .any (opsOf Tryd.f32 5) = pomadelaw01_without.T5 := by kernel_rfl
theorem pomadelaw01_without.bits5 : waitsOk pomadelaw01_without.T5.2 pomadelaw01_without.B5 = true := by kernel_rfl
set_option maxHeartbeats 8000000 in
set_option maxRecDepth 100000 in
theorem pomadelaw01_without.calls (k : Nat) (A0 : Option Addr) (c0 : Nat) (l0 : List (List Int)) (A1 : Option Addr) (c1 : Nat) (l1 : List Int) (a2 : Int) (r : List Int) (w : World) (hr0 : Kd.C (Kd.slice 3 (Kd.int .i64)) w A0 l0.length l0) (hc0 : l0.length ≤ c0) (hr1 : Kd.C (Kd.int .i64) w A1 l1.length l1) (hc1 : l1.length ≤ c1) (h : pomadelaw01_without.f k l0 l1 a2 = some r) :
    Calls Tryd.prog 32 #[.slice A0 l0.length c0, .slice A1 l1.length c1, .int .i64 a2] w fun e w' => ∃ v0_ : Value, e = .returned (v0_) ∧ Kd.R (Kd.int .i64) 3 w' w.heap.size (fun _ => True) v0_ r ∧ Below w.heap.size w w' := by
  have HR0 := Aside0.mk hr0
  have HC0 := Aside0.mk hc0
  clear hr0 hc0
  have HR1 := Aside0.mk hr1
  have HC1 := Aside0.mk hc1
  clear hr1 hc1
  have HB := Aside0.mk (Below.refl w.heap.size w)
  have H : (if 0 ≤ (l0.length : Int) then (if ((l0.length : Int) : Int).toNat ≤ 281474976710656 then (pomadelaw01_without.l0 k l0 l1 a2 (List.replicate ((l0.length : Int) : Int).toNat false) 0) else (none)) else (none)) = some r := h
  clear h
  by_cases c4 : 0 ≤ (l0.length : Int)
  · rw [if_pos c4] at H
    have c4b0 := eq_true c4
    have c4b1 : decide (0 ≤ (l0.length : Int)) = true := decide_eq_true c4
    clear c4
    by_cases c5 : ((l0.length : Int) : Int).toNat ≤ 281474976710656
    · rw [if_pos c5] at H
      have c5b0 := eq_true c5
      have c5b1 : decide (((l0.length : Int) : Int).toNat ≤ 281474976710656) = true := decide_eq_true c5
      clear c5
      obtain ⟨y183, hy183⟩ : ∃ y_ : List Bool, y_ = (List.replicate ((l0.length : Int) : Int).toNat false) := ⟨_, rfl⟩
      replace H : (pomadelaw01_without.l0 k l0 l1 a2 y183 0) = some r := by first | (rw [hy183]; with_reducible exact H) | (have H2_ := (Option.bind_some _ _).symm.trans H; rw [hy183]; with_reducible exact H2_) | (have H2_ := (Option.bind_some _ _).symm.trans H; with_reducible exact H2_) | with_reducible exact H | (rw [hy183]; exact H) | exact H
      have Ny183 := Aside0.mk hy183
      clear hy183
      have H' := Aside0.mk H
      clear H
      go_enter Tryd.func32, Tryd.ntmps32
      go_wp2_with (first | ((with_reducible refine gate_dst (N := 16) rfl ?_); refine Kd.R_make Kd.bool _ 4 rfl (N := 16) rfl 41 _ _ rfl (l0.length : Int) rfl rfl Tryd.underlying41 (.bool false) 1 info4 rfl (by decide) (by omega) false (ok := fun _ => True) (okp := fun _ => True) rfl (fun _ hk => hk) trivial (of_decide_eq_true (by first | (with_reducible assumption) | assumption)) (Nat.le_trans (Nat.mul_le_mul_right _ (of_decide_eq_true (by first | (with_reducible assumption) | assumption) : (l0.length : Int).toNat ≤ 281474976710656)) (by omega)) (Below.refl _ _) (Nat.le_refl _) ?_; intro v184 w6 ho7 hb hg_ hnew_; clear hg_ hnew_; (first | rw [← Ny183.out] at ho7 | (simp only [Int.reduceToNat] at ho7; rw [← Ny183.out] at ho7)); have n0_ := Aside0.mk (Kd.R_lower ho7 (below_size (by repeat (first | (with_reducible first | exact HB.out | apply below_alloc | apply pw_below_drewN | apply below_drew1) | exact HB.out)))); have n1_ := Aside0.mk (below_step (by repeat (first | (with_reducible first | exact HB.out | apply below_alloc | apply pw_below_drewN | apply below_drew1) | exact HB.out)) hb); clear HB; have HO185 := n0_; have HB := n1_; clear n0_ n1_; clear hb ho7))
      go_loopg [8] k (fun kq v8 w' => ∃ (x7_1 : List Bool) (x8_1 : Int), v8 = .int .i64 x8_1 ∧ Aside0 (pomadelaw01_without.l0 kq l0 l1 a2 x7_1 x8_1 = some r) ∧ Aside0 (kq ≤ k) ∧ Aside0 (Kd.R Kd.bool 4 w' w.heap.size (fun _ => True) v184 x7_1) ∧ Aside0 (Below w.heap.size w w'))
      case atStart => exact ⟨(y183), (0), (by first | rfl | (simp; done) | (simp [*]; done)), H', ⟨Nat.le_refl _⟩, ⟨by (with_reducible repeat (first | apply Kd.R_alloc | apply Kd.R_drewN | apply Kd.R_drew)); exact HO185.out⟩, ⟨by repeat (first | (with_reducible first | exact HB.out | apply below_alloc | apply pw_below_drewN | apply below_drew1) | exact HB.out)⟩⟩
      case round =>
        clear H'
        try clear c1
        try clear p2
        try clear c3
        try clear c4
        try clear c4b0
        try clear c4b1
        try clear c5
        try clear c5b0
        try clear c5b1
        obtain ⟨x7_1, x8_1, rfl, HA, HK1, HO_7, HB⟩ := hrel
        cases gk with
        | zero => exact absurd HA.out (by simp [pomadelaw01_without.l0])
        | succ k1 =>
          have H := HA.out
          clear HA
          simp only [pomadelaw01_without.l0] at H
          by_cases c8 : x8_1 < (l1.length : Int)
          · rw [if_pos c8] at H
            have c8b0 : decide (x8_1 < (l1.length : Int)) = true := decide_eq_true c8
            clear c8
            by_cases c9 : 0 ≤ x8_1
            · rw [if_pos c9] at H
              have c9b0 : decide (0 ≤ x8_1) = true := decide_eq_true c9
              clear c9
              by_cases c10 : 0 ≤ (rd l1 x8_1)
              · rw [if_pos c10] at H
                have c10b0 : decide (0 ≤ (rd l1 x8_1)) = true := decide_eq_true c10
                clear c10
                by_cases c11 : (rd l1 x8_1) < (x7_1.length : Int)
                · rw [if_pos c11] at H
                  have c11b0 : decide ((rd l1 x8_1) < (x7_1.length : Int)) = true := decide_eq_true c11
                  clear c11
                  obtain ⟨y188, hy188⟩ : ∃ y_ : List Bool, y_ = (x7_1.set ((rd l1 x8_1) : Int).toNat ((rd l1 x8_1) != a2)) := ⟨_, rfl⟩
                  replace H : (pomadelaw01_without.l0 k1 l0 l1 a2 y188 (wrap64 (x8_1 + 1))) = some r := by first | (rw [hy188]; with_reducible exact H) | (have H2_ := (Option.bind_some _ _).symm.trans H; rw [hy188]; with_reducible exact H2_) | (have H2_ := (Option.bind_some _ _).symm.trans H; with_reducible exact H2_) | with_reducible exact H | (rw [hy188]; exact H) | exact H
                  have Ny188 := Aside0.mk hy188
                  clear hy188
                  have H' := Aside0.mk H
                  clear H
                  try go_wp2
                  have n0_ := Aside0.mk (Kd.R_drew HO_7.out)
                  have n1_ := Aside0.mk (below_drew1 HB.out)
                  clear HO_7
                  clear HB
                  have HO_7 := n0_
                  have HB := n1_
                  clear n0_ n1_
                  have p186 : 0 ≤ (x8_1 : Int) := of_decide_eq_true (by first | (with_reducible assumption) | assumption)
                  have q186 : x8_1 < (l1.length : Int) := of_decide_eq_true (by first | (with_reducible assumption) | assumption)
                  obtain ⟨ad186, e186, hx186_0⟩ := Kd.at_int HR1.out x8_1 p186 q186
                  have hw186_0 := hx186_0
                  cases e186
                  replace hx186_0 := (HB.out.cell (World.block_lt_of_cell? w _ hx186_0)).trans hx186_0
                  replace p186 := eq_true p186
                  replace q186 := eq_true q186
                  have p187 : 0 ≤ (x8_1 : Int) := of_decide_eq_true (by first | (with_reducible assumption) | assumption)
                  have q187 : x8_1 < (l1.length : Int) := of_decide_eq_true (by first | (with_reducible assumption) | assumption)
                  obtain ⟨ad187, e187, hx187_0⟩ := Kd.at_int HR1.out x8_1 p187 q187
                  have hw187_0 := hx187_0
                  obtain rfl : ad186 = ad187 := (by injection e187)
                  replace hx187_0 := (HB.out.cell (World.block_lt_of_cell? w _ hx187_0)).trans hx187_0
                  replace p187 := eq_true p187
                  replace q187 := eq_true q187
                  have p12 : 0 ≤ ((rd l1 x8_1) : Int) := of_decide_eq_true (by first | (with_reducible assumption) | assumption)
                  have q12 : ((rd l1 x8_1) : Int) < ((x7_1.length : Int) : Int) := of_decide_eq_true (by first | (with_reducible assumption) | assumption)
                  obtain ⟨go12, co12, eo12, gb12, gl12, cl12, HG12⟩ := Kd.R_form HO_7.out (by omega)
                  (first | cases eo12 | (injection eo12 with ea_ en_ ec_; (first | subst ea_ | (injection ea_ with ea_; subst ea_)); subst ec_; clear en_))
                  have GB12 := Aside0.mk gb12
                  have GG12 := Aside0.mk HG12
                  clear gb12 gl12 HG12
                  obtain ⟨hx12_0, hf12_0⟩ := Kd.R_celln false HO_7.out ((rd l1 x8_1) : Int) p12 q12
                  replace p12 := eq_true p12
                  replace q12 := eq_true q12
                  have HP14 := Kd.R_putn HO_7.out ((rd l1 x8_1) : Int) ((rd l1 x8_1) != a2)
                  rw [← Ny188.out] at HP14
                  have HQ14 := Aside0.mk HP14
                  clear HP14
                  refine start_ (n := 13) (S := fun w' => w'.cell? (ad186.add (x8_1).toNat) = some (.int .i64 (rd l1 x8_1)) ∧ w'.cell? (ad186.add (x8_1).toNat) = some (.int .i64 (rd l1 x8_1))) (ds := [12]) #[false, false, false, false, false, false, false, false, false, false, false, false, false] (by kernel_rfl) rfl rfl ⟨((HB.out.cell (World.block_lt_of_cell? w _ hw186_0)).trans hw186_0), ((HB.out.cell (World.block_lt_of_cell? w _ hw187_0)).trans hw187_0)⟩ (fun hHeld => ?_); refine with_tabW pomadelaw01_without.tab5 pomadelaw01_without.bits5 (fun HT_ HW_ => ?_)
                  generalize wr.drew = w13 at HO_7 HB GG12 HQ14 hf12_0 hx12_0 hx186_0 hx187_0 hHeld ⊢
                  refine pure_ (i := 0) (N := some 23) (v := ?_) (a' := ?_) #[true, false, false, false, false, false, false, false, false, false, false, false, false] rfl rfl (any_of HT_.out (by kernel_rfl)) (fun _ _ _ h => h) (Or.inl ⟨by rfl, ?_⟩) ?_ ?_
                  rotate_left
                  · intro w'
                    go_simp
                    with_reducible rfl
                  rotate_left
                  · simp only [Act.put, List.setIfInBounds_toArray, List.set_cons_zero, List.set_cons_succ, i64_w, i32_w]
                    rfl
                  refine pure_ (i := 1) (N := some 24) (v := ?_) (a' := ?_) #[true, true, false, false, false, false, false, false, false, false, false, false, false] rfl rfl (any_of HT_.out (by kernel_rfl)) (fun _ _ _ h => h) (Or.inl ⟨by rfl, ?_⟩) ?_ ?_
                  rotate_left
                  · intro w'
                    go_simp
                    with_reducible rfl
                  rotate_left
                  · simp only [Act.put, List.setIfInBounds_toArray, List.set_cons_zero, List.set_cons_succ, i64_w, i32_w]
                    rfl
                  refine pure_ (i := 2) (N := some 25) (v := ?_) (a' := ?_) #[true, true, true, false, false, false, false, false, false, false, false, false, false] rfl rfl (any_of HT_.out (by kernel_rfl)) (fun _ _ _ h => h) (Or.inl ⟨by rfl, ?_⟩) ?_ ?_
                  rotate_left
                  · intro w'
                    go_simp
                    with_reducible rfl
                  rotate_left
                  · simp only [Act.put, List.setIfInBounds_toArray, List.set_cons_zero, List.set_cons_succ, i64_w, i32_w]
                    rfl
                  refine pure_ (i := 3) (N := some 26) (v := ?_) (a' := ?_) #[true, true, true, true, false, false, false, false, false, false, false, false, false] rfl rfl (any_of HT_.out (by kernel_rfl)) (fun _ _ _ h => h) (Or.inl ⟨by rfl, ?_⟩) ?_ ?_
                  rotate_left
                  · intro w'
                    go_simp
                    with_reducible rfl
                  rotate_left
                  · simp only [Act.put, List.setIfInBounds_toArray, List.set_cons_zero, List.set_cons_succ, i64_w, i32_w]
                    rfl
                  refine pure_ (i := 5) (N := some 28) (v := ?_) (a' := ?_) #[true, true, true, true, false, true, false, false, false, false, false, false, false] rfl rfl (any_of HT_.out (by kernel_rfl)) (fun _ _ _ h => h) (Or.inl ⟨by rfl, ?_⟩) ?_ ?_
                  rotate_left
                  · intro w'
                    go_simp
                    with_reducible rfl
                  rotate_left
                  · simp only [Act.put, List.setIfInBounds_toArray, List.set_cons_zero, List.set_cons_succ, i64_w, i32_w]
                    rfl
                  refine pure_ (i := 6) (N := some 29) (v := ?_) (a' := ?_) #[true, true, true, true, false, true, true, false, false, false, false, false, false] rfl rfl (any_of HT_.out (by kernel_rfl)) (fun _ _ _ h => h) (Or.inl ⟨by rfl, ?_⟩) ?_ ?_
                  rotate_left
                  · intro w'
                    go_simp
                    with_reducible rfl
                  rotate_left
                  · simp only [Act.put, List.setIfInBounds_toArray, List.set_cons_zero, List.set_cons_succ, i64_w, i32_w]
                    rfl
                  refine pure_ (i := 7) (N := some 30) (v := ?_) (a' := ?_) #[true, true, true, true, false, true, true, true, false, false, false, false, false] rfl rfl (any_of HT_.out (by kernel_rfl)) (fun _ _ _ h => h) (Or.inl ⟨by rfl, ?_⟩) ?_ ?_
                  rotate_left
                  · intro w'
                    go_simp
                    with_reducible rfl
                  rotate_left
                  · simp only [Act.put, List.setIfInBounds_toArray, List.set_cons_zero, List.set_cons_succ, i64_w, i32_w]
                    rfl
                  refine pure_ (i := 9) (N := some 32) (v := ?_) (a' := ?_) #[true, true, true, true, false, true, true, true, false, true, false, false, false] rfl rfl (any_of HT_.out (by kernel_rfl)) (fun _ _ _ h => h) (Or.inl ⟨by rfl, ?_⟩) ?_ ?_
                  rotate_left
                  · intro w'
                    go_simp
                    with_reducible rfl
                  rotate_left
                  · simp only [Act.put, List.setIfInBounds_toArray, List.set_cons_zero, List.set_cons_succ, i64_w, i32_w]
                    rfl
                  refine take_ (i := 4) (N := some 27) (v := ?_) (a' := ?_) #[true, true, true, true, true, true, true, true, false, true, false, false, false] rfl rfl (take_ofW HT_.out HW_.out (by kernel_rfl)) (fun _ _ _ h => h) (Or.inl ⟨by rfl, ?_⟩) hHeld ?_ ?_
                  rotate_left
                  · rintro w' ⟨s0, s1⟩
                    go_simp
                    with_reducible rfl
                  rotate_left
                  · simp only [Act.put, List.setIfInBounds_toArray, List.set_cons_zero, List.set_cons_succ, i64_w, i32_w]
                    rfl
                  refine take_ (i := 8) (N := some 31) (v := ?_) (a' := ?_) #[true, true, true, true, true, true, true, true, true, true, false, false, false] rfl rfl (take_ofW HT_.out HW_.out (by kernel_rfl)) (fun _ _ _ h => h) (Or.inl ⟨by rfl, ?_⟩) hHeld ?_ ?_
                  rotate_left
                  · rintro w' ⟨s0, s1⟩
                    go_simp
                    with_reducible rfl
                  rotate_left
                  · simp only [Act.put, List.setIfInBounds_toArray, List.set_cons_zero, List.set_cons_succ, i64_w, i32_w]
                    rfl
                  refine pure_ (i := 10) (N := some 33) (v := ?_) (a' := ?_) #[true, true, true, true, true, true, true, true, true, true, true, false, false] rfl rfl (any_of HT_.out (by kernel_rfl)) (fun _ _ _ h => h) (Or.inl ⟨by rfl, ?_⟩) ?_ ?_
                  rotate_left
                  · intro w'
                    go_simp
                    with_reducible rfl
                  rotate_left
                  · simp only [Act.put, List.setIfInBounds_toArray, List.set_cons_zero, List.set_cons_succ, i64_w, i32_w]
                    rfl
                  refine pure_ (i := 11) (N := some 34) (v := ?_) (a' := ?_) #[true, true, true, true, true, true, true, true, true, true, true, true, false] rfl rfl (any_of HT_.out (by kernel_rfl)) (fun _ _ _ h => h) (Or.inl ⟨by rfl, ?_⟩) ?_ ?_
                  rotate_left
                  · intro w'
                    go_simp
                    with_reducible rfl
                  rotate_left
                  · simp only [Act.put, List.setIfInBounds_toArray, List.set_cons_zero, List.set_cons_succ, i64_w, i32_w]
                    rfl
                  refine last_ (i := 12) (N := none) #[true, true, true, true, true, true, true, true, true, true, true, true, true] rfl rfl (one_of HT_.out (by kernel_rfl)) (by decide) (fun K hK => ?_)
                  refine skip_ (w1 := ?_) (by rfl) rfl ?_ ?_
                  rotate_left
                  · go_simp
                    rfl
                  refine hK.out _ _ ?_
                  clear hK K
                  refine done_ (done_of HT_.out (by kernel_rfl)) ?_
                  try go_wp2
                  go_roundg k1
                  case measure => have := HK1.out; omega
                  case rel => exact ⟨(y188), (wrap64 (x8_1 + 1)), (by first | rfl | (simp; done) | (simp [*]; done)), H', ⟨by have := HK1.out; omega⟩, ⟨by (with_reducible repeat (first | apply Kd.R_alloc | apply Kd.R_drewN | apply Kd.R_drew)); exact HQ14.out⟩, ⟨by repeat (first | (with_reducible first | exact HB.out | apply below_alloc | apply pw_below_drewN | apply below_drew1 | refine below_set ?_ GB12.out) | exact HB.out)⟩⟩
                · rw [if_neg c11] at H
                  exact absurd H (by simp)
              · rw [if_neg c10] at H
                exact absurd H (by simp)
            · rw [if_neg c9] at H
              exact absurd H (by simp)
          · rw [if_neg c8] at H
            have c8b0 : decide (x8_1 < (l1.length : Int)) = false := decide_eq_false c8
            clear c8
            have H' := Aside0.mk H
            clear H
            go_wp2
            go_loopg [9] k1 (fun kq v9 w' => ∃ (x7_2 : List Bool) (x9_2 : Bool), v9 = .bool x9_2 ∧ Aside0 (pomadelaw01_without.l1 kq l0 x7_2 x9_2 = some r) ∧ Aside0 (kq ≤ k1) ∧ Aside0 (Kd.R Kd.bool 4 w' w.heap.size (fun _ => True) v184 x7_2) ∧ Aside0 (Below w.heap.size w w'))
            case atStart => exact ⟨(x7_1), (true), (by first | rfl | (simp; done) | (simp [*]; done)), H', ⟨Nat.le_refl _⟩, ⟨by (with_reducible repeat (first | apply Kd.R_alloc | apply Kd.R_drewN | apply Kd.R_drew)); exact HO_7.out⟩, ⟨by repeat (first | (with_reducible first | exact HB.out | apply below_alloc | apply pw_below_drewN | apply below_drew1) | exact HB.out)⟩⟩
            case round =>
              clear H'
              try clear c1
              try clear p1
              try clear q1
              try clear hx1
              try clear p2
              try clear c3
              try clear c4
              try clear c4b0
              try clear c4b1
              try clear c5
              try clear c5b0
              try clear c5b1
              try clear p6
              try clear c8
              try clear c8b0
              try clear c9
              try clear c9b0
              try clear c10
              try clear c10b0
              try clear c11
              try clear c11b0
              try clear p12
              try clear q12
              try clear hx12
              try clear hf12
              try clear hx12_0
              try clear hx186_0
              try clear hx187_0
              try clear p12
              try clear p186
              try clear p187
              try clear p2
              try clear q12
              try clear q186
              try clear q187
              obtain ⟨x7_2, x9_2, rfl, HA, HK2, HO_7, HB⟩ := hrel
              cases gk with
              | zero => exact absurd HA.out (by simp [pomadelaw01_without.l1])
              | succ k2 =>
                have H := HA.out
                clear HA
                simp only [pomadelaw01_without.l1] at H
                by_cases c15 : x9_2 = true
                · subst c15
                  have H1 : (pomadelaw01_without.l2 k2 l0 x7_2 false 0) = some r := by rw [if_pos rfl] at H; exact H
                  clear H
                  have H := H1
                  clear H1
                  have H' := Aside0.mk H
                  clear H
                  go_wp2
                  go_loopg [9, 10] k2 (fun kq v9 v10 w' => ∃ (x7_3 : List Bool) (x9_3 : Bool) (x10_3 : Int), v9 = .bool x9_3 ∧ v10 = .int .i64 x10_3 ∧ Aside0 (pomadelaw01_without.l2 kq l0 x7_3 x9_3 x10_3 = some r) ∧ Aside0 (kq ≤ k2) ∧ Aside0 (Kd.R Kd.bool 4 w' w.heap.size (fun _ => True) v184 x7_3) ∧ Aside0 (Below w.heap.size w w'))
                  case atStart => exact ⟨(x7_2), (false), (0), (by first | rfl | (simp; done) | (simp [*]; done)), (by first | rfl | (simp; done) | (simp [*]; done)), H', ⟨Nat.le_refl _⟩, ⟨by (with_reducible repeat (first | apply Kd.R_alloc | apply Kd.R_drewN | apply Kd.R_drew)); exact HO_7.out⟩, ⟨by repeat (first | (with_reducible first | exact HB.out | apply below_alloc | apply pw_below_drewN | apply below_drew1) | exact HB.out)⟩⟩
                  case round =>
                    clear H'
                    try clear c1
                    try clear p1
                    try clear q1
                    try clear hx1
                    try clear p2
                    try clear c3
                    try clear c4
                    try clear c4b0
                    try clear c4b1
                    try clear c5
                    try clear c5b0
                    try clear c5b1
                    try clear p6
                    try clear c8
                    try clear c8b0
                    try clear c9
                    try clear c9b0
                    try clear c10
                    try clear c10b0
                    try clear c11
                    try clear c11b0
                    try clear p12
                    try clear q12
                    try clear hx12
                    try clear hf12
                    try clear c15
                    try clear hx12_0
                    try clear hx186_0
                    try clear hx187_0
                    try clear p1
                    try clear p12
                    try clear p186
                    try clear p187
                    try clear p2
                    try clear p6
                    try clear q1
                    try clear q12
                    try clear q186
                    try clear q187
                    obtain ⟨x7_3, x9_3, x10_3, rfl, rfl, HA, HK3, HO_7, HB⟩ := hrel
                    cases gk with
                    | zero => exact absurd HA.out (by simp [pomadelaw01_without.l2])
                    | succ k3 =>
                      have H := HA.out
                      clear HA
                      simp only [pomadelaw01_without.l2] at H
                      by_cases c16 : x10_3 < (l0.length : Int)
                      · rw [if_pos c16] at H
                        have c16b0 : decide (x10_3 < (l0.length : Int)) = true := decide_eq_true c16
                        clear c16
                        have H' := Aside0.mk H
                        clear H
                        go_wp2
                        go_loopg [9, 11] k3 (fun kq v9 v11 w' => ∃ (x7_4 : List Bool) (x9_4 : Bool) (x11_4 : Int), v9 = .bool x9_4 ∧ v11 = .int .i64 x11_4 ∧ Aside0 (pomadelaw01_without.l3 kq l0 x7_4 x9_4 x10_3 x11_4 = some r) ∧ Aside0 (kq ≤ k3) ∧ Aside0 (Kd.R Kd.bool 4 w' w.heap.size (fun _ => True) v184 x7_4) ∧ Aside0 (Below w.heap.size w w'))
                        case atStart => exact ⟨(x7_3), (x9_3), (0), (by first | rfl | (simp; done) | (simp [*]; done)), (by first | rfl | (simp; done) | (simp [*]; done)), H', ⟨Nat.le_refl _⟩, ⟨by (with_reducible repeat (first | apply Kd.R_alloc | apply Kd.R_drewN | apply Kd.R_drew)); exact HO_7.out⟩, ⟨by repeat (first | (with_reducible first | exact HB.out | apply below_alloc | apply pw_below_drewN | apply below_drew1) | exact HB.out)⟩⟩
                        case round =>
                          clear H'
                          try clear c1
                          try clear p1
                          try clear q1
                          try clear hx1
                          try clear p2
                          try clear c3
                          try clear c4
                          try clear c4b0
                          try clear c4b1
                          try clear c5
                          try clear c5b0
                          try clear c5b1
                          try clear p6
                          try clear c8
                          try clear c8b0
                          try clear c9
                          try clear c9b0
                          try clear c10
                          try clear c10b0
                          try clear c11
                          try clear c11b0
                          try clear p12
                          try clear q12
                          try clear hx12
                          try clear hf12
                          try clear c15
                          try clear c16
                          try clear c16b0
                          try clear hx12_0
                          try clear hx186_0
                          try clear hx187_0
                          try clear p1
                          try clear p12
                          try clear p186
                          try clear p187
                          try clear p2
                          try clear p6
                          try clear q1
                          try clear q12
                          try clear q186
                          try clear q187
                          obtain ⟨x7_4, x9_4, x11_4, rfl, rfl, HA, HK4, HO_7, HB⟩ := hrel
                          cases gk with
                          | zero => exact absurd HA.out (by simp [pomadelaw01_without.l3])
                          | succ k4 =>
                            have H := HA.out
                            clear HA
                            simp only [pomadelaw01_without.l3] at H
                            by_cases c17 : x11_4 < (l0.length : Int)
                            · rw [if_pos c17] at H
                              have c17b0 : decide (x11_4 < (l0.length : Int)) = true := decide_eq_true c17
                              clear c17
                              by_cases c18 : 0 ≤ x10_3
                              · rw [if_pos c18] at H
                                have c18b0 : decide (0 ≤ x10_3) = true := decide_eq_true c18
                                clear c18
                                by_cases c19 : x10_3 < (x7_4.length : Int)
                                · rw [if_pos c19] at H
                                  have c19b0 : decide (x10_3 < (x7_4.length : Int)) = true := decide_eq_true c19
                                  clear c19
                                  obtain ⟨bq20, hbq20⟩ : ∃ b_ : Bool, b_ = (rdOf false x7_4 x10_3) := ⟨_, rfl⟩
                                  replace H : (if bq20 = true then (if 0 ≤ x11_4 then (if x11_4 < (x7_4.length : Int) then (if rdOf false x7_4 x11_4 = true then (pomadelaw01_without.l3 k4 l0 x7_4 x9_4 x10_3 (wrap64 (x11_4 + 1))) else (if x10_3 < (l0.length : Int) then (if x11_4 < ((rd_L2 l0 x10_3).length : Int) then (if (rd (rd_L2 l0 x10_3) x11_4) = 0 then (pomadelaw01_without.l3 k4 l0 x7_4 x9_4 x10_3 (wrap64 (x11_4 + 1))) else (pomadelaw01_without.l3 k4 l0 (x7_4.set (x10_3 : Int).toNat false) true x10_3 (wrap64 (x11_4 + 1)))) else (none)) else (none))) else (none)) else (none)) else (pomadelaw01_without.l3 k4 l0 x7_4 x9_4 x10_3 (wrap64 (x11_4 + 1)))) = some r := by rw [← hbq20] at H; exact H
                                  have Nbq20 := Aside0.mk hbq20
                                  clear hbq20
                                  by_cases c21 : bq20 = true
                                  · subst c21
                                    have H1 : (if 0 ≤ x11_4 then (if x11_4 < (x7_4.length : Int) then (if rdOf false x7_4 x11_4 = true then (pomadelaw01_without.l3 k4 l0 x7_4 x9_4 x10_3 (wrap64 (x11_4 + 1))) else (if x10_3 < (l0.length : Int) then (if x11_4 < ((rd_L2 l0 x10_3).length : Int) then (if (rd (rd_L2 l0 x10_3) x11_4) = 0 then (pomadelaw01_without.l3 k4 l0 x7_4 x9_4 x10_3 (wrap64 (x11_4 + 1))) else (pomadelaw01_without.l3 k4 l0 (x7_4.set (x10_3 : Int).toNat false) true x10_3 (wrap64 (x11_4 + 1)))) else (none)) else (none))) else (none)) else (none)) = some r := by rw [if_pos rfl] at H; exact H
                                    clear H
                                    have H := H1
                                    clear H1
                                    by_cases c22 : 0 ≤ x11_4
                                    · rw [if_pos c22] at H
                                      have c22b0 : decide (0 ≤ x11_4) = true := decide_eq_true c22
                                      clear c22
                                      by_cases c23 : x11_4 < (x7_4.length : Int)
                                      · rw [if_pos c23] at H
                                        have c23b0 : decide (x11_4 < (x7_4.length : Int)) = true := decide_eq_true c23
                                        clear c23
                                        obtain ⟨bq24, hbq24⟩ : ∃ b_ : Bool, b_ = (rdOf false x7_4 x11_4) := ⟨_, rfl⟩
                                        replace H : (if bq24 = true then (pomadelaw01_without.l3 k4 l0 x7_4 x9_4 x10_3 (wrap64 (x11_4 + 1))) else (if x10_3 < (l0.length : Int) then (if x11_4 < ((rd_L2 l0 x10_3).length : Int) then (if (rd (rd_L2 l0 x10_3) x11_4) = 0 then (pomadelaw01_without.l3 k4 l0 x7_4 x9_4 x10_3 (wrap64 (x11_4 + 1))) else (pomadelaw01_without.l3 k4 l0 (x7_4.set (x10_3 : Int).toNat false) true x10_3 (wrap64 (x11_4 + 1)))) else (none)) else (none))) = some r := by rw [← hbq24] at H; exact H
                                        have Nbq24 := Aside0.mk hbq24
                                        clear hbq24
                                        by_cases c25 : bq24 = true
                                        · subst c25
                                          have H1 : (pomadelaw01_without.l3 k4 l0 x7_4 x9_4 x10_3 (wrap64 (x11_4 + 1))) = some r := by rw [if_pos rfl] at H; exact H
                                          clear H
                                          have H := H1
                                          clear H1
                                          have H' := Aside0.mk H
                                          clear H
                                          obtain ⟨Ao26, co26, eo26⟩ := Kd.R_slice HO_7.out
                                          subst eo26
                                          have p189 : 0 ≤ (x10_3 : Int) := of_decide_eq_true (by first | (with_reducible assumption) | assumption)
                                          have q189 : x10_3 < (x7_4.length : Int) := of_decide_eq_true (by first | (with_reducible assumption) | assumption)
                                          obtain ⟨ad189, e189, hx189_0⟩ := Kd.at_bool (Kd.R_reads' HO_7.out).2.2 x10_3 p189 q189
                                          (try rw [← Nbq20.out] at hx189_0)
                                          (try rw [← Nbq24.out] at hx189_0)
                                          cases e189
                                          replace p189 := eq_true p189
                                          replace q189 := eq_true q189
                                          have p190 : 0 ≤ (x11_4 : Int) := of_decide_eq_true (by first | (with_reducible assumption) | assumption)
                                          have q190 : x11_4 < (x7_4.length : Int) := of_decide_eq_true (by first | (with_reducible assumption) | assumption)
                                          obtain ⟨ad190, e190, hx190_0⟩ := Kd.at_bool (Kd.R_reads' HO_7.out).2.2 x11_4 p190 q190
                                          (try rw [← Nbq20.out] at hx190_0)
                                          (try rw [← Nbq24.out] at hx190_0)
                                          obtain rfl : ad189 = ad190 := (by injection e190)
                                          replace p190 := eq_true p190
                                          replace q190 := eq_true q190
                                          go_wp2
                                          go_roundg k4
                                          case measure => have := HK1.out; have := HK2.out; have := HK3.out; have := HK4.out; omega
                                          case rel => exact ⟨(x7_4), (x9_4), (wrap64 (x11_4 + 1)), (by first | rfl | (simp; done) | (simp [*]; done)), (by first | rfl | (simp; done) | (simp [*]; done)), H', ⟨by have := HK1.out; have := HK2.out; have := HK3.out; have := HK4.out; omega⟩, ⟨by (with_reducible repeat (first | apply Kd.R_alloc | apply Kd.R_drewN | apply Kd.R_drew)); exact HO_7.out⟩, ⟨by repeat (first | (with_reducible first | exact HB.out | apply below_alloc | apply pw_below_drewN | apply below_drew1) | exact HB.out)⟩⟩
                                        · replace c25 := Bool.eq_false_iff.mpr c25
                                          subst c25
                                          have H1 : (if x10_3 < (l0.length : Int) then (if x11_4 < ((rd_L2 l0 x10_3).length : Int) then (if (rd (rd_L2 l0 x10_3) x11_4) = 0 then (pomadelaw01_without.l3 k4 l0 x7_4 x9_4 x10_3 (wrap64 (x11_4 + 1))) else (pomadelaw01_without.l3 k4 l0 (x7_4.set (x10_3 : Int).toNat false) true x10_3 (wrap64 (x11_4 + 1)))) else (none)) else (none)) = some r := by rw [if_neg (show ¬ (false = true) by decide)] at H; exact H
                                          clear H
                                          have H := H1
                                          clear H1
                                          by_cases c27 : x10_3 < (l0.length : Int)
                                          · rw [if_pos c27] at H
                                            have c27b0 : decide (x10_3 < (l0.length : Int)) = true := decide_eq_true c27
                                            clear c27
                                            by_cases c28 : x11_4 < ((rd_L2 l0 x10_3).length : Int)
                                            · rw [if_pos c28] at H
                                              have c28b0 : decide (x11_4 < ((rd_L2 l0 x10_3).length : Int)) = true := decide_eq_true c28
                                              clear c28
                                              by_cases c29 : (rd (rd_L2 l0 x10_3) x11_4) = 0
                                              · rw [if_pos c29] at H
                                                have c29b0 : ((rd (rd_L2 l0 x10_3) x11_4) == 0) = true := beq_iff_eq.mpr c29
                                                have c29b1 : ((rd (rd_L2 l0 x10_3) x11_4) != 0) = false := bne_eq_false_iff_eq.mpr c29
                                                clear c29
                                                have H' := Aside0.mk H
                                                clear H
                                                obtain ⟨Ao30, co30, eo30⟩ := Kd.R_slice HO_7.out
                                                subst eo30
                                                have p189 : 0 ≤ (x10_3 : Int) := of_decide_eq_true (by first | (with_reducible assumption) | assumption)
                                                have q189 : x10_3 < (x7_4.length : Int) := of_decide_eq_true (by first | (with_reducible assumption) | assumption)
                                                obtain ⟨ad189, e189, hx189_0⟩ := Kd.at_bool (Kd.R_reads' HO_7.out).2.2 x10_3 p189 q189
                                                (try rw [← Nbq20.out] at hx189_0)
                                                (try rw [← Nbq24.out] at hx189_0)
                                                cases e189
                                                replace p189 := eq_true p189
                                                replace q189 := eq_true q189
                                                have p190 : 0 ≤ (x11_4 : Int) := of_decide_eq_true (by first | (with_reducible assumption) | assumption)
                                                have q190 : x11_4 < (x7_4.length : Int) := of_decide_eq_true (by first | (with_reducible assumption) | assumption)
                                                obtain ⟨ad190, e190, hx190_0⟩ := Kd.at_bool (Kd.R_reads' HO_7.out).2.2 x11_4 p190 q190
                                                (try rw [← Nbq20.out] at hx190_0)
                                                (try rw [← Nbq24.out] at hx190_0)
                                                obtain rfl : ad189 = ad190 := (by injection e190)
                                                replace p190 := eq_true p190
                                                replace q190 := eq_true q190
                                                have p191 : 0 ≤ (x10_3 : Int) := of_decide_eq_true (by first | (with_reducible assumption) | assumption)
                                                have q191 : x10_3 < (l0.length : Int) := of_decide_eq_true (by first | (with_reducible assumption) | assumption)
                                                obtain ⟨ad191, A191_0, c191_0, e191, hx191_0, hl191_0, hi191_0⟩ := at_L2 HR0.out x10_3 p191 q191
                                                cases e191
                                                replace hx191_0 := (HB.out.cell (World.block_lt_of_cell? w _ hx191_0)).trans hx191_0
                                                have HR191_0 := Aside0.mk hi191_0
                                                have HC191_0 := Aside0.mk hl191_0
                                                clear hi191_0 hl191_0
                                                replace p191 := eq_true p191
                                                replace q191 := eq_true q191
                                                have p192 : 0 ≤ (x11_4 : Int) := of_decide_eq_true (by first | (with_reducible assumption) | assumption)
                                                have q192 : x11_4 < ((rd_L2 l0 x10_3).length : Int) := of_decide_eq_true (by first | (with_reducible assumption) | assumption)
                                                obtain ⟨ad192, e192, hx192_0⟩ := Kd.at_int HR191_0.out x11_4 p192 q192
                                                cases e192
                                                replace hx192_0 := (HB.out.cell (World.block_lt_of_cell? w _ hx192_0)).trans hx192_0
                                                replace p192 := eq_true p192
                                                replace q192 := eq_true q192
                                                go_wp2
                                                go_roundg k4
                                                case measure => have := HK1.out; have := HK2.out; have := HK3.out; have := HK4.out; omega
                                                case rel => exact ⟨(x7_4), (x9_4), (wrap64 (x11_4 + 1)), (by first | rfl | (simp; done) | (simp [*]; done)), (by first | rfl | (simp; done) | (simp [*]; done)), H', ⟨by have := HK1.out; have := HK2.out; have := HK3.out; have := HK4.out; omega⟩, ⟨by (with_reducible repeat (first | apply Kd.R_alloc | apply Kd.R_drewN | apply Kd.R_drew)); exact HO_7.out⟩, ⟨by repeat (first | (with_reducible first | exact HB.out | apply below_alloc | apply pw_below_drewN | apply below_drew1) | exact HB.out)⟩⟩
                                              · rw [if_neg c29] at H
                                                have c29b0 : ((rd (rd_L2 l0 x10_3) x11_4) == 0) = false := beq_eq_false_iff_ne.mpr c29
                                                have c29b1 : ((rd (rd_L2 l0 x10_3) x11_4) != 0) = true := bne_iff_ne.mpr c29
                                                obtain ⟨y193, hy193⟩ : ∃ y_ : List Bool, y_ = (x7_4.set (x10_3 : Int).toNat false) := ⟨_, rfl⟩
                                                replace H : (pomadelaw01_without.l3 k4 l0 y193 true x10_3 (wrap64 (x11_4 + 1))) = some r := by first | (rw [hy193]; with_reducible exact H) | (have H2_ := (Option.bind_some _ _).symm.trans H; rw [hy193]; with_reducible exact H2_) | (have H2_ := (Option.bind_some _ _).symm.trans H; with_reducible exact H2_) | with_reducible exact H | (rw [hy193]; exact H) | exact H
                                                have Ny193 := Aside0.mk hy193
                                                clear hy193
                                                have H' := Aside0.mk H
                                                clear H
                                                obtain ⟨Ao32, co32, eo32⟩ := Kd.R_slice HO_7.out
                                                subst eo32
                                                have p189 : 0 ≤ (x10_3 : Int) := of_decide_eq_true (by first | (with_reducible assumption) | assumption)
                                                have q189 : x10_3 < (x7_4.length : Int) := of_decide_eq_true (by first | (with_reducible assumption) | assumption)
                                                obtain ⟨ad189, e189, hx189_0⟩ := Kd.at_bool (Kd.R_reads' HO_7.out).2.2 x10_3 p189 q189
                                                (try rw [← Nbq20.out] at hx189_0)
                                                (try rw [← Nbq24.out] at hx189_0)
                                                cases e189
                                                replace p189 := eq_true p189
                                                replace q189 := eq_true q189
                                                have p190 : 0 ≤ (x11_4 : Int) := of_decide_eq_true (by first | (with_reducible assumption) | assumption)
                                                have q190 : x11_4 < (x7_4.length : Int) := of_decide_eq_true (by first | (with_reducible assumption) | assumption)
                                                obtain ⟨ad190, e190, hx190_0⟩ := Kd.at_bool (Kd.R_reads' HO_7.out).2.2 x11_4 p190 q190
                                                (try rw [← Nbq20.out] at hx190_0)
                                                (try rw [← Nbq24.out] at hx190_0)
                                                obtain rfl : ad189 = ad190 := (by injection e190)
                                                replace p190 := eq_true p190
                                                replace q190 := eq_true q190
                                                have p191 : 0 ≤ (x10_3 : Int) := of_decide_eq_true (by first | (with_reducible assumption) | assumption)
                                                have q191 : x10_3 < (l0.length : Int) := of_decide_eq_true (by first | (with_reducible assumption) | assumption)
                                                obtain ⟨ad191, A191_0, c191_0, e191, hx191_0, hl191_0, hi191_0⟩ := at_L2 HR0.out x10_3 p191 q191
                                                cases e191
                                                replace hx191_0 := (HB.out.cell (World.block_lt_of_cell? w _ hx191_0)).trans hx191_0
                                                have HR191_0 := Aside0.mk hi191_0
                                                have HC191_0 := Aside0.mk hl191_0
                                                clear hi191_0 hl191_0
                                                replace p191 := eq_true p191
                                                replace q191 := eq_true q191
                                                have p192 : 0 ≤ (x11_4 : Int) := of_decide_eq_true (by first | (with_reducible assumption) | assumption)
                                                have q192 : x11_4 < ((rd_L2 l0 x10_3).length : Int) := of_decide_eq_true (by first | (with_reducible assumption) | assumption)
                                                obtain ⟨ad192, e192, hx192_0⟩ := Kd.at_int HR191_0.out x11_4 p192 q192
                                                cases e192
                                                replace hx192_0 := (HB.out.cell (World.block_lt_of_cell? w _ hx192_0)).trans hx192_0
                                                replace p192 := eq_true p192
                                                replace q192 := eq_true q192
                                                have p31 : 0 ≤ (x10_3 : Int) := of_decide_eq_true (by first | (with_reducible assumption) | assumption)
                                                have q31 : (x10_3 : Int) < ((x7_4.length : Int) : Int) := of_decide_eq_true (by first | (with_reducible assumption) | assumption)
                                                obtain ⟨go31, co31, eo31, gb31, gl31, cl31, HG31⟩ := Kd.R_form HO_7.out (by omega)
                                                (first | cases eo31 | (injection eo31 with ea_ en_ ec_; (first | subst ea_ | (injection ea_ with ea_; subst ea_)); subst ec_; clear en_))
                                                have GB31 := Aside0.mk gb31
                                                have GG31 := Aside0.mk HG31
                                                clear gb31 gl31 HG31
                                                (first | simp only [add_plain] at hx189_0 | skip)
                                                (first | simp only [add_plain] at hx190_0 | skip)
                                                obtain ⟨hx31_0, hf31_0⟩ := Kd.R_celln false HO_7.out (x10_3 : Int) p31 q31
                                                replace p31 := eq_true p31
                                                replace q31 := eq_true q31
                                                have HP33 := Kd.R_putg HO_7.out (x10_3 : Int) false
                                                go_wp2_with (first | ((with_reducible refine gate_store (t := 4) (p := 71) rfl ?_); refine store_event (t := 4) (p := 71) (v := ?vo_w34) (w1 := (wr.setCell ⟨go31, (x10_3 : Int).toNat, none⟩ (.bool false))) ?hg ?ho ?hn ?hr ?_; (case ho => rfl); (case hg => rfl); (case hn => rfl); (case hr => first | (go_simp; done) | (go_simp; rfl)); intro w34 hw; have hg : wr.grownBy w34 (some go31) := (by rw [hw]; exact HP33.2); have hp_ : Kd.R Kd.bool 4 w34 w.heap.size (fun _ => True) (.slice (some ⟨go31, 0, none⟩) x7_4.length co32) y193 := (by rw [hw, Ny193.out]; exact HP33.1); clear HP33; have n0_ := Aside0.mk (hp_); have n1_ := Aside0.mk ((by rw [hw]; exact below_set (HB.out) GB31.out : Below w.heap.size w w34)); clear HO_7; clear HB; have HO_7 := n0_; have HB := n1_; clear n0_ n1_; clear hg hw hp_))
                                                go_roundg k4
                                                case measure => have := HK1.out; have := HK2.out; have := HK3.out; have := HK4.out; omega
                                                case rel => exact ⟨(y193), (true), (wrap64 (x11_4 + 1)), (by first | rfl | (simp; done) | (simp [*]; done)), (by first | rfl | (simp; done) | (simp [*]; done)), H', ⟨by have := HK1.out; have := HK2.out; have := HK3.out; have := HK4.out; omega⟩, ⟨by (with_reducible repeat (first | apply Kd.R_alloc | apply Kd.R_drewN | apply Kd.R_drew)); exact HO_7.out⟩, ⟨by repeat (first | (with_reducible first | exact HB.out | apply below_alloc | apply pw_below_drewN | apply below_drew1) | exact HB.out)⟩⟩
                                            · rw [if_neg c28] at H
                                              exact absurd H (by simp)
                                          · rw [if_neg c27] at H
                                            exact absurd H (by simp)
                                      · rw [if_neg c23] at H
                                        exact absurd H (by simp)
                                    · rw [if_neg c22] at H
                                      exact absurd H (by simp)
                                  · replace c21 := Bool.eq_false_iff.mpr c21
                                    subst c21
                                    have H1 : (pomadelaw01_without.l3 k4 l0 x7_4 x9_4 x10_3 (wrap64 (x11_4 + 1))) = some r := by rw [if_neg (show ¬ (false = true) by decide)] at H; exact H
                                    clear H
                                    have H := H1
                                    clear H1
                                    have H' := Aside0.mk H
                                    clear H
                                    obtain ⟨Ao35, co35, eo35⟩ := Kd.R_slice HO_7.out
                                    subst eo35
                                    have p189 : 0 ≤ (x10_3 : Int) := of_decide_eq_true (by first | (with_reducible assumption) | assumption)
                                    have q189 : x10_3 < (x7_4.length : Int) := of_decide_eq_true (by first | (with_reducible assumption) | assumption)
                                    obtain ⟨ad189, e189, hx189_0⟩ := Kd.at_bool (Kd.R_reads' HO_7.out).2.2 x10_3 p189 q189
                                    (try rw [← Nbq20.out] at hx189_0)
                                    cases e189
                                    replace p189 := eq_true p189
                                    replace q189 := eq_true q189
                                    go_wp2
                                    go_roundg k4
                                    case measure => have := HK1.out; have := HK2.out; have := HK3.out; have := HK4.out; omega
                                    case rel => exact ⟨(x7_4), (x9_4), (wrap64 (x11_4 + 1)), (by first | rfl | (simp; done) | (simp [*]; done)), (by first | rfl | (simp; done) | (simp [*]; done)), H', ⟨by have := HK1.out; have := HK2.out; have := HK3.out; have := HK4.out; omega⟩, ⟨by (with_reducible repeat (first | apply Kd.R_alloc | apply Kd.R_drewN | apply Kd.R_drew)); exact HO_7.out⟩, ⟨by repeat (first | (with_reducible first | exact HB.out | apply below_alloc | apply pw_below_drewN | apply below_drew1) | exact HB.out)⟩⟩
                                · rw [if_neg c19] at H
                                  exact absurd H (by simp)
                              · rw [if_neg c18] at H
                                exact absurd H (by simp)
                            · rw [if_neg c17] at H
                              have c17b0 : decide (x11_4 < (l0.length : Int)) = false := decide_eq_false c17
                              clear c17
                              have H' := Aside0.mk H
                              clear H
                              go_wp2
                              go_roundg k4
                              case measure => have := HK1.out; have := HK2.out; have := HK3.out; have := HK4.out; omega
                              case rel => exact ⟨(x7_4), (x9_4), (wrap64 (x10_3 + 1)), (by first | rfl | (simp; done) | (simp [*]; done)), (by first | rfl | (simp; done) | (simp [*]; done)), H', ⟨by have := HK1.out; have := HK2.out; have := HK3.out; have := HK4.out; omega⟩, ⟨by (with_reducible repeat (first | apply Kd.R_alloc | apply Kd.R_drewN | apply Kd.R_drew)); exact HO_7.out⟩, ⟨by repeat (first | (with_reducible first | exact HB.out | apply below_alloc | apply pw_below_drewN | apply below_drew1) | exact HB.out)⟩⟩
                      · rw [if_neg c16] at H
                        have c16b0 : decide (x10_3 < (l0.length : Int)) = false := decide_eq_false c16
                        clear c16
                        have H' := Aside0.mk H
                        clear H
                        go_wp2
                        go_roundg k3
                        case measure => have := HK1.out; have := HK2.out; have := HK3.out; omega
                        case rel => exact ⟨(x7_3), (x9_3), (by first | rfl | (simp; done) | (simp [*]; done)), H', ⟨by have := HK1.out; have := HK2.out; have := HK3.out; omega⟩, ⟨by (with_reducible repeat (first | apply Kd.R_alloc | apply Kd.R_drewN | apply Kd.R_drew)); exact HO_7.out⟩, ⟨by repeat (first | (with_reducible first | exact HB.out | apply below_alloc | apply pw_below_drewN | apply below_drew1) | exact HB.out)⟩⟩
                · replace c15 := Bool.eq_false_iff.mpr c15
                  subst c15
                  have H1 : (pomadelaw01_without.l4 k2 l0 x7_2 ([] : List Int) 0) = some r := by rw [if_neg (show ¬ (false = true) by decide)] at H; exact H
                  clear H
                  have H := H1
                  clear H1
                  have H' := Aside0.mk H
                  clear H
                  go_wp2
                  go_loopg [12, 13] k2 (fun kq v12 v13 w' => ∃ (x12_3 : List Int) (x13_3 : Int), v13 = .int .i64 x13_3 ∧ Aside0 (pomadelaw01_without.l4 kq l0 x7_2 x12_3 x13_3 = some r) ∧ Aside0 (kq ≤ k2) ∧ Aside0 (Kd.R Kd.bool 4 w' w.heap.size (fun _ => True) v184 x7_2) ∧ Aside0 (Kd.R (Kd.int .i64) 3 w' w.heap.size (fun _ => True) v12 x12_3) ∧ Aside0 (Below w.heap.size w w'))
                  case atStart => exact ⟨(([] : List Int)), (0), (by first | rfl | (simp; done) | (simp [*]; done)), H', ⟨Nat.le_refl _⟩, ⟨by (with_reducible repeat (first | apply Kd.R_alloc | apply Kd.R_drewN | apply Kd.R_drew)); exact HO_7.out⟩, ⟨by first | exact Kd.R_nil _ _ _ _ _ | exact Kd.N_nil _ _ _ _ _ | exact Kd.V_nil _ _ _ _ _ | exact Kd.Q_nil _ _ _ _ _ | exact Kd.S_nil _ _ _ _ _⟩, ⟨by repeat (first | (with_reducible first | exact HB.out | apply below_alloc | apply pw_below_drewN | apply below_drew1) | exact HB.out)⟩⟩
                  case round =>
                    clear H'
                    try clear c1
                    try clear p1
                    try clear q1
                    try clear hx1
                    try clear c2
                    try clear p2
                    try clear q2
                    try clear c3
                    try clear p3
                    try clear q3
                    try clear hx3
                    try clear hf3
                    try clear c4
                    try clear c4b0
                    try clear c4b1
                    try clear c5
                    try clear c5b0
                    try clear c5b1
                    try clear p6
                    try clear c8
                    try clear c8b0
                    try clear c9
                    try clear c9b0
                    try clear c10
                    try clear c10b0
                    try clear c11
                    try clear c11b0
                    try clear p12
                    try clear q12
                    try clear hx12
                    try clear hf12
                    try clear c15
                    try clear c16
                    try clear c16b0
                    try clear c17
                    try clear c17b0
                    try clear c18
                    try clear c18b0
                    try clear p18
                    try clear q18
                    try clear hx18
                    try clear c19
                    try clear c19b0
                    try clear p19
                    try clear q19
                    try clear hx19
                    try clear q20
                    try clear c21
                    try clear c22
                    try clear c22b0
                    try clear c23
                    try clear c23b0
                    try clear q24
                    try clear c25
                    try clear c27
                    try clear c27b0
                    try clear c28
                    try clear c28b0
                    try clear c29
                    try clear c29b0
                    try clear c29b1
                    try clear p31
                    try clear q31
                    try clear hx31
                    try clear hf31
                    try clear hx12_0
                    try clear hx186_0
                    try clear hx187_0
                    try clear hx189_0
                    try clear hx190_0
                    try clear hx191_0
                    try clear hx192_0
                    try clear hx31_0
                    try clear p1
                    try clear p12
                    try clear p186
                    try clear p187
                    try clear p189
                    try clear p190
                    try clear p191
                    try clear p192
                    try clear p2
                    try clear p31
                    try clear p6
                    try clear q1
                    try clear q12
                    try clear q186
                    try clear q187
                    try clear q189
                    try clear q190
                    try clear q191
                    try clear q192
                    try clear q31
                    obtain ⟨x12_3, x13_3, rfl, HA, HK3, HO_7, HO_12, HB⟩ := hrel
                    cases gk with
                    | zero => exact absurd HA.out (by simp [pomadelaw01_without.l4])
                    | succ k3 =>
                      have H := HA.out
                      clear HA
                      simp only [pomadelaw01_without.l4] at H
                      by_cases c36 : x13_3 < (l0.length : Int)
                      · rw [if_pos c36] at H
                        have c36b0 : decide (x13_3 < (l0.length : Int)) = true := decide_eq_true c36
                        clear c36
                        by_cases c37 : 0 ≤ x13_3
                        · rw [if_pos c37] at H
                          have c37b0 : decide (0 ≤ x13_3) = true := decide_eq_true c37
                          clear c37
                          by_cases c38 : x13_3 < (x7_2.length : Int)
                          · rw [if_pos c38] at H
                            have c38b0 : decide (x13_3 < (x7_2.length : Int)) = true := decide_eq_true c38
                            clear c38
                            obtain ⟨bq39, hbq39⟩ : ∃ b_ : Bool, b_ = (rdOf false x7_2 x13_3) := ⟨_, rfl⟩
                            replace H : (if bq39 = true then (if x12_3.length < 17592186044416 then (pomadelaw01_without.l4 k3 l0 x7_2 (x12_3 ++ [x13_3]) (wrap64 (x13_3 + 1))) else (none)) else (pomadelaw01_without.l4 k3 l0 x7_2 x12_3 (wrap64 (x13_3 + 1)))) = some r := by rw [← hbq39] at H; exact H
                            have Nbq39 := Aside0.mk hbq39
                            clear hbq39
                            by_cases c40 : bq39 = true
                            · subst c40
                              have H1 : (if x12_3.length < 17592186044416 then (pomadelaw01_without.l4 k3 l0 x7_2 (x12_3 ++ [x13_3]) (wrap64 (x13_3 + 1))) else (none)) = some r := by rw [if_pos rfl] at H; exact H
                              clear H
                              have H := H1
                              clear H1
                              by_cases c41 : x12_3.length < 17592186044416
                              · rw [if_pos c41] at H
                                have LMc41 := Aside0.mk c41
                                clear c41
                                obtain ⟨y195, hy195⟩ : ∃ y_ : List Int, y_ = (x12_3 ++ [x13_3]) := ⟨_, rfl⟩
                                replace H : (pomadelaw01_without.l4 k3 l0 x7_2 y195 (wrap64 (x13_3 + 1))) = some r := by first | (rw [hy195]; with_reducible exact H) | (have H2_ := (Option.bind_some _ _).symm.trans H; rw [hy195]; with_reducible exact H2_) | (have H2_ := (Option.bind_some _ _).symm.trans H; with_reducible exact H2_) | with_reducible exact H | (rw [hy195]; exact H) | exact H
                                have Ny195 := Aside0.mk hy195
                                clear hy195
                                have H' := Aside0.mk H
                                clear H
                                obtain ⟨Ao42, co42, eo42⟩ := Kd.R_slice HO_7.out
                                subst eo42
                                have p194 : 0 ≤ (x13_3 : Int) := of_decide_eq_true (by first | (with_reducible assumption) | assumption)
                                have q194 : x13_3 < (x7_2.length : Int) := of_decide_eq_true (by first | (with_reducible assumption) | assumption)
                                obtain ⟨ad194, e194, hx194_0⟩ := Kd.at_bool (Kd.R_reads' HO_7.out).2.2 x13_3 p194 q194
                                (try rw [← Nbq39.out] at hx194_0)
                                cases e194
                                replace p194 := eq_true p194
                                replace q194 := eq_true q194
                                go_wp2_with (first | ((with_reducible refine gate_builtin (b := .append) (xs := #[.tmp 82, .tmp 84]) rfl ?_); at_builtin; refine Kd.R_append (Kd.int .i64) (w0 := w) w.heap.size rfl (.tmp 82) (.tmp 84) 25 3 (.int .i64 0) 8 rfl Tryd.underlying25 info3 rfl (by decide) (by omega) u12 x12_3 x13_3 [.int .i64 x13_3] (fun _ => True) (fun _ => False) rfl rfl ?aP (fun _ hk => hk.elim) ?aF ?aO ?aB ?aS ?aL ?_; (case aP => exact rfl); (case aB => exact (by repeat (first | (with_reducible first | exact HB.out | apply below_alloc | apply pw_below_drewN | apply below_drew1) | exact HB.out))); (case aF => exact (fun _ _ => trivial)); (case aO => exact (by (with_reducible repeat (first | apply Kd.R_alloc | apply Kd.R_drewN | apply Kd.R_drew)); exact HO_12.out)); (case aS => exact (below_size (by repeat (first | (with_reducible first | exact HB.out | apply below_alloc | apply pw_below_drewN | apply below_drew1) | exact HB.out)))); (case aL => have := LMc41.out; omega); intro v196 w43 ho hb hg hat; rw [← Ny195.out] at ho; have n0_ := Aside0.mk (Kd.R_over' (by (with_reducible repeat (first | apply Kd.R_alloc | apply Kd.R_drewN | apply Kd.R_drew)); exact HO_7.out) (Kd.R_typed (by (with_reducible repeat (first | apply Kd.R_alloc | apply Kd.R_drewN | apply Kd.R_drew)); exact HO_12.out)) (by decide) hg); have n1_ := Aside0.mk (hb); have n2_ := Aside0.mk (ho); clear HO_7; clear HB; clear HO_12; have HO_7 := n0_; have HB := n1_; have HO197 := n2_; clear n0_ n1_ n2_; clear ho hb hg hat))
                                go_roundg k3
                                case measure => have := HK1.out; have := HK2.out; have := HK3.out; omega
                                case rel => exact ⟨(y195), (wrap64 (x13_3 + 1)), (by first | rfl | (simp; done) | (simp [*]; done)), H', ⟨by have := HK1.out; have := HK2.out; have := HK3.out; omega⟩, ⟨by (with_reducible repeat (first | apply Kd.R_alloc | apply Kd.R_drewN | apply Kd.R_drew)); exact HO_7.out⟩, ⟨by (with_reducible repeat (first | apply Kd.R_alloc | apply Kd.R_drewN | apply Kd.R_drew)); exact HO197.out⟩, ⟨by repeat (first | (with_reducible first | exact HB.out | apply below_alloc | apply pw_below_drewN | apply below_drew1) | exact HB.out)⟩⟩
                              · rw [if_neg c41] at H
                                exact absurd H (by simp)
                            · replace c40 := Bool.eq_false_iff.mpr c40
                              subst c40
                              have H1 : (pomadelaw01_without.l4 k3 l0 x7_2 x12_3 (wrap64 (x13_3 + 1))) = some r := by rw [if_neg (show ¬ (false = true) by decide)] at H; exact H
                              clear H
                              have H := H1
                              clear H1
                              have H' := Aside0.mk H
                              clear H
                              obtain ⟨Ao44, co44, eo44⟩ := Kd.R_slice HO_7.out
                              subst eo44
                              have p194 : 0 ≤ (x13_3 : Int) := of_decide_eq_true (by first | (with_reducible assumption) | assumption)
                              have q194 : x13_3 < (x7_2.length : Int) := of_decide_eq_true (by first | (with_reducible assumption) | assumption)
                              obtain ⟨ad194, e194, hx194_0⟩ := Kd.at_bool (Kd.R_reads' HO_7.out).2.2 x13_3 p194 q194
                              (try rw [← Nbq39.out] at hx194_0)
                              cases e194
                              replace p194 := eq_true p194
                              replace q194 := eq_true q194
                              go_wp2
                              go_roundg k3
                              case measure => have := HK1.out; have := HK2.out; have := HK3.out; omega
                              case rel => exact ⟨(x12_3), (wrap64 (x13_3 + 1)), (by first | rfl | (simp; done) | (simp [*]; done)), H', ⟨by have := HK1.out; have := HK2.out; have := HK3.out; omega⟩, ⟨by (with_reducible repeat (first | apply Kd.R_alloc | apply Kd.R_drewN | apply Kd.R_drew)); exact HO_7.out⟩, ⟨by (with_reducible repeat (first | apply Kd.R_alloc | apply Kd.R_drewN | apply Kd.R_drew)); exact HO_12.out⟩, ⟨by repeat (first | (with_reducible first | exact HB.out | apply below_alloc | apply pw_below_drewN | apply below_drew1) | exact HB.out)⟩⟩
                          · rw [if_neg c38] at H
                            exact absurd H (by simp)
                        · rw [if_neg c37] at H
                          exact absurd H (by simp)
                      · rw [if_neg c36] at H
                        have c36b0 : decide (x13_3 < (l0.length : Int)) = false := decide_eq_false c36
                        clear c36
                        obtain rfl := Option.some.inj H
                        go_wp2
                        go_ret
                        exact ⟨_, by first | rfl | (simp [errW_none, errW_some] <;> rfl) | (simp [*, errW_none, errW_some] <;> rfl), by (with_reducible repeat (first | apply Kd.R_alloc | apply Kd.R_drewN | apply Kd.R_drew)); exact HO_12.out, by repeat (first | (with_reducible first | exact HB.out | apply below_alloc | apply pw_below_drewN | apply below_drew1) | exact HB.out)⟩
    · rw [if_neg c5] at H
      exact absurd H (by simp)
  · rw [if_neg c4] at H
    exact absurd H (by simp)
end Go.Proofs.YtijaefmaceolbaaDoor.Im

namespace Go.Proofs.YtijaefmaceolbaaDoor.Im
open Go.RowKit Go.Proofs.YtijaefmaceolbaaDoorW.PrintWords Go.Proofs.YtijaefmaceolbaaDoorW.PrintLast Go.Proofs.YtijaefmaceolbaaDoorW.PrintMore Go.Proofs.YtijaefmaceolbaaDoor.Tr
set_option linter.unusedVariables false
set_option linter.unusedSimpArgs false
def partL (L : List (List UInt8)) (s : Nat) : List (List UInt8) := (List.range L.length).map fun i => if s.testBit i then L.getD i [] else [48]
theorem partL_len (L : List (List UInt8)) (s : Nat) : (partL L s).length = L.length := by simp [partL]
theorem parse_zero (n : Nat) : parseO n [48] = some (.con false) ∧ parseE n [48] = 0 := by
  have h : parseO n [48] = some (.con false) := rfl
  refine ⟨h, ?_⟩
  unfold parseE
  rw [h]
  rfl
theorem firstE_all {n : Nat} : ∀ {l : List (List UInt8)}, (∀ s ∈ l, parseE n s = 0) → firstE n l = 0
  | [], _ => rfl
  | s :: l, h => by
    rw [firstE, if_pos (h s (by simp))]
    exact firstE_all (fun t ht => h t (by simp [ht]))
theorem part_sys {L : List (List UInt8)} (h0 : sysE L = 0) (s : Nat) : sysE (partL L s) = 0 ∧ sysF (partL L s) = partF (sysF L) L.length s := by
  have S := sys_ok h0
  have hf : firstE L.length L = 0 := by
    unfold sysE at h0
    rwa [if_neg (by have := S.n10; omega), if_neg (by have := S.pos; omega)] at h0
  have hall := firstE_ok hf
  constructor
  · unfold sysE
    rw [partL_len, if_neg (by have := S.n10; omega), if_neg (by have := S.pos; omega)]
    refine firstE_all fun t ht => ?_
    unfold partL at ht
    obtain ⟨i, hi, rfl⟩ := List.mem_map.1 ht
    have hi := List.mem_range.1 hi
    split
    · exact hall _ (by rw [List.getD_eq_getElem?_getD, List.getElem?_eq_getElem hi]; exact List.getElem_mem hi)
    · exact (parse_zero _).2
  · unfold sysF partF
    rw [partL_len]
    unfold partL
    rw [List.map_map]
    apply List.map_congr_left
    intro i hi
    have hi := List.mem_range.1 hi
    show (parseO L.length (if s.testBit i then L.getD i [] else [48])).getD (.con false) = _
    by_cases hb : s.testBit i = true
    · rw [if_pos hb, if_pos hb]
      simp [fmA, hi]
    · rw [if_neg hb, if_neg hb]
      rfl
theorem part_l0 (L : List (List UInt8)) (M : List Int) (hL : L.length ≤ 10) (r : List ByteArray) (hr : Gives (fun k => pomadelaw01_part.l1 k (L.map strL) M (List.replicate L.length (strL [48])) 0) r) : ∀ (d i : Nat), i + d = L.length → Gives (fun k => pomadelaw01_part.l0 k (L.map strL) M (List.replicate i (strL [48])) i) r
  | 0, i, h => by
    obtain rfl : i = L.length := by omega
    exact hr.step fun k hk => by
      simp only [pomadelaw01_part.l0]
      rw [if_neg (by rw [List.length_map]; omega)]
      exact hk
  | d + 1, i, h => (part_l0 L M hL r hr d (i + 1) (by omega)).step fun k hk => by
    simp only [pomadelaw01_part.l0]
    have e : List.replicate i (strL [48]) ++ [(⟨#[48]⟩ : ByteArray)] = List.replicate (i + 1) (strL [48]) := by rw [List.replicate_succ']; rfl
    rw [if_pos (by rw [List.length_map]; omega), if_pos (by rw [List.length_replicate]; omega), e, wr_succ i (by omega)]
    exact hk
def prtX (L : List (List UInt8)) (M : List Nat) (q : Nat) : List ByteArray := (List.range L.length).map fun i => if i ∈ M.take q then strL (L.getD i []) else strL [48]
theorem prtX_len (L : List (List UInt8)) (M : List Nat) (q : Nat) : (prtX L M q).length = L.length := by simp [prtX]
theorem prtX_set {L : List (List UInt8)} {M : List Nat} {q : Nat} (hq : q < M.length) : (prtX L M q).set (M.getD q 0) (strL (L.getD (M.getD q 0) [])) = prtX L M (q + 1) := by
  apply List.ext_getElem
  · rw [List.length_set, prtX_len, prtX_len]
  · intro i h1 h2
    rw [prtX_len] at h2
    have hm : M.getD q 0 = M[q] := by simp [hq]
    rw [List.getElem_set]
    have ht : (i ∈ M.take (q + 1)) ↔ (i ∈ M.take q ∨ i = M[q]) := by
      rw [List.take_succ_eq_append_getElem hq, List.mem_append, List.mem_singleton]
    simp only [prtX, List.getElem_map, List.getElem_range]
    by_cases he : M.getD q 0 = i
    · rw [if_pos he, if_pos (ht.2 (.inr (by rw [← hm]; exact he.symm))), he]
    · rw [if_neg he]
      by_cases hi : i ∈ M.take q
      · rw [if_pos hi, if_pos (ht.2 (.inl hi))]
      · rw [if_neg hi, if_neg (fun h => (ht.1 h).elim hi (fun h => he (by rw [hm]; exact h.symm)))]
theorem part_l1 (L : List (List UInt8)) (M : List Nat) (hL : L.length ≤ 10) (hM : ∀ x ∈ M, x < L.length) (hm : M.length ≤ 12) : ∀ (d q : Nat), q + d = M.length → Gives (fun k => pomadelaw01_part.l1 k (L.map strL) (ints M) (prtX L M q) q) (prtX L M M.length)
  | 0, q, h => Gives.now fun k => by
    simp only [pomadelaw01_part.l1]
    rw [if_neg (by rw [ints_length]; omega), show q = M.length by omega]
  | d + 1, q, h => (part_l1 L M hL hM hm d (q + 1) (by omega)).step fun k hk => by
    have hq : q < M.length := by omega
    have hx : M.getD q 0 < L.length := hM _ (by rw [List.getD_eq_getElem?_getD, List.getElem?_eq_getElem hq]; exact List.getElem_mem hq)
    simp only [pomadelaw01_part.l1]
    have e : ∀ m : Nat, m < L.length → rdOf ByteArray.empty (L.map strL) ((m : Nat) : Int) = strL (L.getD m []) := fun m hm => by simp [rdOf, hm]
    rw [if_pos (by rw [ints_length]; omega), if_pos (by omega), rd_ints, if_pos (by omega), if_pos (by rw [List.length_map]; omega), if_pos (by rw [prtX_len]; omega), e _ hx, Int.toNat_natCast, prtX_set hq, wr_succ q (by omega)]
    exact hk
theorem prtX_all {L : List (List UInt8)} {s : Nat} (hs : s < 4096) : prtX L (memL s) (memL s).length = (partL L s).map strL := by
  unfold prtX partL
  rw [List.take_of_length_le (Nat.le_refl _), List.map_map]
  apply List.map_congr_left
  intro i _
  show _ = strL (if s.testBit i then L.getD i [] else [48])
  by_cases hb : s.testBit i = true
  · rw [if_pos ((memL_mem hs i).2 hb), if_pos hb]
  · rw [if_neg (fun h => hb ((memL_mem hs i).1 h)), if_neg hb]
theorem part_any (L : List (List UInt8)) (hL : L.length ≤ 10) (s : Nat) (hs : s < 4096) (hsn : s < 2 ^ L.length) (w : World) (A B : Option Addr) (c d : Nat) (hA : Kd.C Kd.string w A L.length (L.map strL)) (hc : L.length ≤ c) (hB : Kd.C (Kd.int .i64) w B (memL s).length (ints (memL s))) (hd : (memL s).length ≤ d) :
    Calls Tryd.prog 31 #[.slice A L.length c, .slice B (memL s).length d] w fun e w' => ∃ A2 c2, e = .returned (.slice A2 L.length c2) ∧ L.length ≤ c2 ∧ Kd.C Kd.string w' A2 (partL L s).length ((partL L s).map strL) ∧ Below w.heap.size w w' := by
  have h1 := part_l1 L (memL s) hL (fun x hx => mem_n hs hsn x hx) (memL_len s) (memL s).length 0 (by omega)
  have e0 : prtX L (memL s) 0 = List.replicate L.length (strL [48]) := by
    unfold prtX
    rw [List.take_zero]
    apply List.ext_getElem
    · simp
    · intro i h2 h3; simp
  rw [e0, prtX_all hs] at h1
  obtain ⟨k, hk⟩ := part_l0 L (ints (memL s)) hL _ h1 L.length 0 (by omega)
  have e : pomadelaw01_part.f k (L.map strL) (ints (memL s)) = some ((partL L s).map strL) := hk k (Nat.le_refl _)
  have := pomadelaw01_part.calls k A c (L.map strL) B d (ints (memL s)) _ w (by rw [List.length_map]; exact hA) (by rw [List.length_map]; exact hc) (by rw [ints_length]; exact hB) (by rw [ints_length]; exact hd) e
  rw [List.length_map, ints_length] at this
  refine this.mono fun e w' ⟨v, h1, h2, h3⟩ => ?_
  obtain ⟨A2, c2, rfl, h4, h5⟩ := Kd.R_reads h2
  rw [List.length_map, partL_len] at h1 h4
  rw [List.length_map] at h5
  exact ⟨A2, c2, h1, h4, h5, h3⟩
def stW (oc : Nat → Nat → Bool) (st : List Bool × Bool) (i k : Nat) : List Bool × Bool := if st.1.getD i false && (!st.1.getD k false && oc i k) then (st.1.set i false, true) else st
def rowW (oc : Nat → Nat → Bool) (i : Nat) : Nat → List Bool × Bool → Nat → List Bool × Bool
  | 0, st, _ => st
  | d + 1, st, k => rowW oc i d (stW oc st i k) (k + 1)
def allW (oc : Nat → Nat → Bool) (n : Nat) : Nat → List Bool × Bool → Nat → List Bool × Bool
  | 0, st, _ => st
  | d + 1, st, i => allW oc n d (rowW oc i n st 0) (i + 1)
structure RelW (N : Nat) (st st' : List Bool × Bool) : Prop where
  len : st'.1.length = st.1.length
  sub : ∀ y, st'.1.getD y false = true → st.1.getD y false = true
  up : st.2 = true → st'.2 = true
  same : st'.2 = false → st' = st
  le : cntB N st'.1 ≤ cntB N st.1
  less : st'.2 = true → st.2 = true ∨ cntB N st'.1 < cntB N st.1
theorem RelW.refl (N : Nat) (st : List Bool × Bool) : RelW N st st := ⟨rfl, fun _ h => h, id, fun _ => rfl, Nat.le_refl _, fun h => .inl h⟩
theorem RelW.trans {N : Nat} {a b c : List Bool × Bool} (h : RelW N a b) (k : RelW N b c) : RelW N a c :=
  ⟨k.len.trans h.len, fun y hy => h.sub y (k.sub y hy), fun x => k.up (h.up x), fun x => by
    have e := k.same x
    rw [e] at x ⊢
    exact h.same x, Nat.le_trans k.le h.le, fun x => by
    rcases k.less x with h1 | h1
    · rcases h.less h1 with h2 | h2
      · exact .inl h2
      · exact .inr (Nat.lt_of_le_of_lt k.le h2)
    · exact .inr (Nat.lt_of_lt_of_le h1 h.le)⟩
theorem getD_set {L : List Bool} {i y : Nat} {b : Bool} (hi : i < L.length) : (L.set i b).getD y false = if y = i then b else L.getD y false := by
  rw [List.getD_eq_getElem?_getD, List.getElem?_set]
  by_cases h : i = y
  · subst h; rw [if_pos rfl, if_pos rfl, if_pos hi]; rfl
  · rw [if_neg h, if_neg (fun e => h e.symm), List.getD_eq_getElem?_getD]
theorem stW_rel {oc : Nat → Nat → Bool} {N : Nat} {st : List Bool × Bool} {i k : Nat} (hl : st.1.length = N) (hi : i < N) : RelW N st (stW oc st i k) := by
  unfold stW
  split
  · rename_i hc
    rw [Bool.and_eq_true] at hc
    have hi' : i < st.1.length := by omega
    have hless : cntB N (st.1.set i false) < cntB N st.1 := by
      have e1 : cntB N (st.1.set i false) = (List.range N).countP (fun y => st.1.getD y false && !(y == i)) := by
        unfold cntB
        apply List.countP_congr
        intro y _
        rw [getD_set hi']
        by_cases h : y = i
        · subst h; simp
        · rw [if_neg h]; simp [h]
      have e2 := countP_part (fun y => st.1.getD y false) (fun y => !(y == i)) (List.range N)
      have e3 : 0 < (List.range N).countP (fun y => st.1.getD y false && !!(y == i)) := by
        rw [List.countP_pos_iff]
        exact ⟨i, List.mem_range.2 hi, by rw [hc.1]; simp⟩
      rw [e1]
      show _ < (List.range N).countP _
      omega
    exact ⟨by simp, fun y hy => by
      rw [getD_set hi'] at hy
      split at hy
      · cases hy
      · exact hy, fun _ => rfl, fun h => (by cases h), Nat.le_of_lt hless, fun _ => .inr hless⟩
  · exact RelW.refl _ _
theorem rowW_rel {oc : Nat → Nat → Bool} {N i : Nat} (hi : i < N) : ∀ (d k : Nat) (st : List Bool × Bool), st.1.length = N → RelW N st (rowW oc i d st k)
  | 0, _, st, _ => RelW.refl _ _
  | d + 1, k, st, hl => by
    have h := stW_rel (oc := oc) (k := k) hl hi
    exact h.trans (rowW_rel hi d (k + 1) _ (by rw [h.len]; exact hl))
theorem allW_rel {oc : Nat → Nat → Bool} {N : Nat} : ∀ (d i : Nat) (st : List Bool × Bool), st.1.length = N → i + d = N → RelW N st (allW oc N d st i)
  | 0, _, st, _, _ => RelW.refl _ _
  | d + 1, i, st, hl, h => by
    have h1 := rowW_rel (oc := oc) (show i < N by omega) N 0 st hl
    exact h1.trans (allW_rel d (i + 1) _ (by rw [h1.len]; exact hl) (by omega))
theorem rowW_no {oc : Nat → Nat → Bool} {N i : Nat} (hi : i < N) : ∀ (d k : Nat) (st : List Bool × Bool), st.1.length = N → (rowW oc i d st k).2 = false → ∀ k', k ≤ k' → k' < k + d → (st.1.getD i false && (!st.1.getD k' false && oc i k')) = false
  | 0, k, st, _, _, k', h1, h2 => by omega
  | d + 1, k, st, hl, hf, k', h1, h2 => by
    have hr := stW_rel (oc := oc) (k := k) hl hi
    have hf2 : (rowW oc i d (stW oc st i k) (k + 1)).2 = false := hf
    have hs : (stW oc st i k).2 = false := by
      cases hh : (stW oc st i k).2
      · rfl
      · have := (rowW_rel (oc := oc) hi d (k + 1) (stW oc st i k) (by rw [hr.len]; exact hl)).up hh
        rw [hf2] at this; cases this
    have he := hr.same hs
    rcases Nat.eq_or_lt_of_le h1 with h3 | h3
    · subst h3
      cases hc : (st.1.getD i false && (!st.1.getD k false && oc i k))
      · rfl
      · unfold stW at hs
        rw [if_pos hc] at hs
        cases hs
    · rw [he] at hf2
      exact rowW_no hi d (k + 1) st hl hf2 k' h3 (by omega)
theorem allW_no {oc : Nat → Nat → Bool} {N : Nat} : ∀ (d i : Nat) (st : List Bool × Bool), st.1.length = N → i + d = N → (allW oc N d st i).2 = false → ∀ i', i ≤ i' → i' < N → ∀ k, k < N → (st.1.getD i' false && (!st.1.getD k false && oc i' k)) = false
  | 0, i, st, _, h, _, i', h1, h2, _, _ => by omega
  | d + 1, i, st, hl, h, hf, i', h1, h2, k, hk => by
    have hi : i < N := by omega
    have hr := rowW_rel (oc := oc) hi N 0 st hl
    have hf2 : (allW oc N d (rowW oc i N st 0) (i + 1)).2 = false := hf
    have hs : (rowW oc i N st 0).2 = false := by
      cases hh : (rowW oc i N st 0).2
      · rfl
      · have := (allW_rel (oc := oc) (N := N) d (i + 1) (rowW oc i N st 0) (by rw [hr.len]; exact hl) (by omega)).up hh
        rw [hf2] at this; cases this
    rcases Nat.eq_or_lt_of_le h1 with h3 | h3
    · subst h3
      exact rowW_no hi N 0 st hl hs k (Nat.zero_le _) (by omega)
    · rw [hr.same hs] at hf2
      exact allW_no d (i + 1) st hl (by omega) hf2 i' h3 h2 k hk
end Go.Proofs.YtijaefmaceolbaaDoor.Im

namespace Go.Proofs.YtijaefmaceolbaaDoor.Im
open Go.RowKit Go.Proofs.YtijaefmaceolbaaDoorW.PrintWords Go.Proofs.YtijaefmaceolbaaDoorW.PrintLast Go.Proofs.YtijaefmaceolbaaDoorW.PrintMore Go.Proofs.YtijaefmaceolbaaDoor.Tr
set_option linter.unusedVariables false
set_option linter.unusedSimpArgs false
def ocB (fs : List Fm) (i k : Nat) : Bool := occ k (fmA fs i)
theorem cdS_occ (fs : List Fm) (i k : Nat) : (cdS (sgF fs i k) = 0) ↔ ocB fs i k = false := by
  have h := occ_sign k (fmA fs i) false false
  have e : sgF fs i k = (evn k (fmA fs i) false false, odn k (fmA fs i) false false) := by
    show (false || evn k (fmA fs i) false false, false || odn k (fmA fs i) false false) = _
    rw [Bool.false_or, Bool.false_or]
  unfold ocB
  rw [e, ← h]
  cases evn k (fmA fs i) false false <;> cases odn k (fmA fs i) false false <;> simp [cdS]
theorem rdL2_sg {fs : List Fm} {n i : Nat} (hi : i < n) : rd_L2 (sgL fs n) (i : Int) = cdL n (sgF fs i) := by simp [rd_L2, sgL, hi]
theorem rd_cdL {n k : Nat} {z : Sg} (hk : k < n) : rd (cdL n z) (k : Int) = cdS (z k) := by simp [rd, cdL, hk]
theorem rdOf_getD (L : List Bool) (i : Nat) : rdOf false L (i : Int) = L.getD i false := by simp [rdOf]
section
variable {fs : List Fm} {n : Nat} {r : List Int}
theorem wo_l3 (hn : n ≤ 10) {i : Nat} (hi : i < n) : ∀ (d k : Nat) (st : List Bool × Bool), k + d = n → st.1.length = n → Gives (fun m => pomadelaw01_without.l2 m (sgL fs n) (rowW (ocB fs) i d st k).1 (rowW (ocB fs) i d st k).2 ((i + 1 : Nat) : Int)) r →
    Gives (fun m => pomadelaw01_without.l3 m (sgL fs n) st.1 st.2 i k) r
  | 0, k, st, h, hl, hr => hr.step fun m hm => by
    simp only [pomadelaw01_without.l3]
    rw [if_neg (by simp [sgL]; omega), wr_succ i (by omega)]
    exact hm
  | d + 1, k, st, h, hl, hr => by
    have hlen : ((sgL fs n).length : Int) = (n : Int) := by simp [sgL]
    have hcl : ((cdL n (sgF fs i)).length : Int) = (n : Int) := by simp [cdL]
    have hrel := stW_rel (oc := ocB fs) (k := k) hl hi
    have ih := wo_l3 hn hi d (k + 1) (stW (ocB fs) st i k) (by omega) (by rw [hrel.len]; exact hl) hr
    refine ih.step fun m hm => ?_
    simp only [pomadelaw01_without.l3]
    rw [if_pos (by rw [hlen]; omega), if_pos (by omega), if_pos (by omega), rdOf_getD, rdOf_getD]
    unfold stW at hm
    cases h1 : st.1.getD i false
    · rw [h1, Bool.false_and, if_neg (by simp)] at hm
      rw [if_neg (by simp), wr_succ k (by omega)]
      exact hm
    · rw [if_pos rfl, if_pos (by omega), if_pos (by omega)]
      cases h2 : st.1.getD k false
      · rw [if_neg (by simp), if_pos (by rw [hlen]; omega), rdL2_sg hi, if_pos (by rw [hcl]; omega), rd_cdL (by omega)]
        cases h3 : ocB fs i k
        · rw [if_pos ((cdS_occ fs i k).2 h3), wr_succ k (by omega)]
          rw [h1, h2, h3, Bool.not_false, Bool.true_and, Bool.true_and, if_neg (by simp)] at hm
          exact hm
        · rw [if_neg (fun e => by rw [(cdS_occ fs i k).1 e] at h3; cases h3), wr_succ k (by omega), Int.toNat_natCast]
          rw [h1, h2, h3, Bool.not_false, Bool.true_and, Bool.true_and, if_pos rfl] at hm
          exact hm
      · rw [if_pos rfl, wr_succ k (by omega)]
        rw [h1, h2, Bool.not_true, Bool.false_and, Bool.true_and, if_neg (by simp)] at hm
        exact hm
theorem wo_l2 (hn : n ≤ 10) : ∀ (d i : Nat) (st : List Bool × Bool), i + d = n → st.1.length = n → Gives (fun m => pomadelaw01_without.l1 m (sgL fs n) (allW (ocB fs) n d st i).1 (allW (ocB fs) n d st i).2) r →
    Gives (fun m => pomadelaw01_without.l2 m (sgL fs n) st.1 st.2 i) r
  | 0, i, st, h, hl, hr => hr.step fun m hm => by
    simp only [pomadelaw01_without.l2]
    rw [if_neg (by simp [sgL]; omega)]
    exact hm
  | d + 1, i, st, h, hl, hr => by
    have hi : i < n := by omega
    have hrel := rowW_rel (oc := ocB fs) hi n 0 st hl
    have h1 := wo_l2 hn d (i + 1) (rowW (ocB fs) i n st 0) (by omega) (by rw [hrel.len]; exact hl) hr
    have h2 := wo_l3 hn hi n 0 st (by omega) hl h1
    refine h2.step fun m hm => ?_
    simp only [pomadelaw01_without.l2]
    rw [if_pos (by simp [sgL]; omega)]
    exact hm
def lefM (L : List Bool) (d i : Nat) : List Nat := (List.range' i d).filter fun y => L.getD y false
theorem wo_l4 (hn : n ≤ 10) (L : List Bool) (hl : L.length = n) : ∀ (d i : Nat) (acc : List Nat), i + d = n → acc.length ≤ i → Gives (fun m => pomadelaw01_without.l4 m (sgL fs n) L (ints acc) i) (ints (acc ++ lefM L d i))
  | 0, i, acc, h, ha => Gives.now fun m => by
    simp only [pomadelaw01_without.l4]
    rw [if_neg (by simp [sgL]; omega)]
    simp [lefM]
  | d + 1, i, acc, h, ha => by
    have hlen : ((sgL fs n).length : Int) = (n : Int) := by simp [sgL]
    cases hb : L.getD i false
    · have ih := wo_l4 hn L hl d (i + 1) acc (by omega) (by omega)
      have e : lefM L (d + 1) i = lefM L d (i + 1) := by unfold lefM; rw [List.range'_succ, List.filter_cons_of_neg (by rw [hb]; simp)]
      rw [e]
      exact ih.step fun m hm => by
        simp only [pomadelaw01_without.l4]
        rw [if_pos (by rw [hlen]; omega), if_pos (by omega), if_pos (by omega), rdOf_getD, if_neg (by rw [hb]; simp), wr_succ i (by omega)]
        exact hm
    · have ih := wo_l4 hn L hl d (i + 1) (acc ++ [i]) (by omega) (by simp; omega)
      have e : acc ++ lefM L (d + 1) i = (acc ++ [i]) ++ lefM L d (i + 1) := by unfold lefM; rw [List.range'_succ, List.filter_cons_of_pos (p := fun y => L.getD y false) hb, List.append_assoc]; rfl
      rw [e]
      exact ih.step fun m hm => by
        simp only [pomadelaw01_without.l4]
        rw [if_pos (by rw [hlen]; omega), if_pos (by omega), if_pos (by omega), rdOf_getD, if_pos hb, if_pos (by rw [ints_length]; omega), wr_succ i (by omega), ints_snoc']
        exact hm
theorem wo_l1 (hn : n ≤ 10) : ∀ (m : Nat) (L : List Bool), L.length = n → cntB n L ≤ m → ∃ L' : List Bool, L'.length = n ∧ (∀ y, L'.getD y false = true → L.getD y false = true) ∧ (∀ i, i < n → ∀ k, k < n → (L'.getD i false && (!L'.getD k false && ocB fs i k)) = false) ∧
    Gives (fun q => pomadelaw01_without.l1 q (sgL fs n) L true) (ints (lefM L' n 0)) := by
  intro m
  induction m with
  | zero =>
    intro L hl hm
    have hrel := allW_rel (oc := ocB fs) (N := n) n 0 (L, false) hl (by omega)
    have hf : (allW (ocB fs) n n (L, false) 0).2 = false := by
      cases hh : (allW (ocB fs) n n (L, false) 0).2
      · rfl
      · rcases hrel.less hh with h | h
        · cases h
        · have : cntB n (L, false).1 = cntB n L := rfl
          omega
    have he := hrel.same hf
    refine ⟨L, hl, fun _ h => h, fun i hi k hk => allW_no n 0 (L, false) hl (by omega) hf i (Nat.zero_le _) hi k hk, ?_⟩
    have h4 := wo_l4 (fs := fs) hn L hl n 0 [] (by omega) (by simp)
    rw [List.nil_append] at h4
    have h1 : Gives (fun q => pomadelaw01_without.l1 q (sgL fs n) (allW (ocB fs) n n (L, false) 0).1 (allW (ocB fs) n n (L, false) 0).2) (ints (lefM L n 0)) := by
      rw [he]
      exact h4.step fun q hq => by
        simp only [pomadelaw01_without.l1]
        rw [if_neg (by simp)]
        exact hq
    exact (wo_l2 hn n 0 (L, false) (by omega) hl h1).step fun q hq => by
      simp only [pomadelaw01_without.l1]
      rw [if_pos trivial]
      exact hq
  | succ m ih =>
    intro L hl hm
    have hrel := allW_rel (oc := ocB fs) (N := n) n 0 (L, false) hl (by omega)
    cases hf : (allW (ocB fs) n n (L, false) 0).2
    · have he := hrel.same hf
      refine ⟨L, hl, fun _ h => h, fun i hi k hk => allW_no n 0 (L, false) hl (by omega) hf i (Nat.zero_le _) hi k hk, ?_⟩
      have h4 := wo_l4 (fs := fs) hn L hl n 0 [] (by omega) (by simp)
      rw [List.nil_append] at h4
      have h1 : Gives (fun q => pomadelaw01_without.l1 q (sgL fs n) (allW (ocB fs) n n (L, false) 0).1 (allW (ocB fs) n n (L, false) 0).2) (ints (lefM L n 0)) := by
        rw [he]
        exact h4.step fun q hq => by
          simp only [pomadelaw01_without.l1]
          rw [if_neg (by simp)]
          exact hq
      exact (wo_l2 hn n 0 (L, false) (by omega) hl h1).step fun q hq => by
        simp only [pomadelaw01_without.l1]
        rw [if_pos trivial]
        exact hq
    · have hless : cntB n (allW (ocB fs) n n (L, false) 0).1 < cntB n L := by
        rcases hrel.less hf with h | h
        · cases h
        · exact h
      obtain ⟨L', h1, h2, h3, h4⟩ := ih (allW (ocB fs) n n (L, false) 0).1 (by rw [hrel.len]; exact hl) (by omega)
      refine ⟨L', h1, fun y hy => hrel.sub y (h2 y hy), h3, ?_⟩
      have h5 : Gives (fun q => pomadelaw01_without.l1 q (sgL fs n) (allW (ocB fs) n n (L, false) 0).1 (allW (ocB fs) n n (L, false) 0).2) (ints (lefM L' n 0)) := by rw [hf]; exact h4
      exact (wo_l2 hn n 0 (L, false) (by omega) hl h5).step fun q hq => by
        simp only [pomadelaw01_without.l1]
        rw [if_pos trivial]
        exact hq
def wosX (n : Nat) (M : List Nat) (x q : Nat) : List Bool := (List.range n).map fun i => decide (i ∈ M.take q) && decide (i ≠ x)
theorem wosX_len (M : List Nat) (x q : Nat) : (wosX n M x q).length = n := by simp [wosX]
theorem wosX_set {M : List Nat} {x q : Nat} (hq : q < M.length) : (wosX n M x q).set (M.getD q 0) (decide (M.getD q 0 ≠ x)) = wosX n M x (q + 1) := by
  apply List.ext_getElem
  · rw [List.length_set, wosX_len, wosX_len]
  · intro i h1 h2
    have hm : M.getD q 0 = M[q] := by simp [hq]
    rw [List.getElem_set]
    have ht : (i ∈ M.take (q + 1)) ↔ (i ∈ M.take q ∨ i = M[q]) := by
      rw [List.take_succ_eq_append_getElem hq, List.mem_append, List.mem_singleton]
    simp only [wosX, List.getElem_map, List.getElem_range]
    by_cases he : M.getD q 0 = i
    · rw [if_pos he, decide_eq_true (ht.2 (.inr (by rw [← hm]; exact he.symm))), Bool.true_and, he]
    · rw [if_neg he]
      by_cases hi : i ∈ M.take q
      · rw [decide_eq_true hi, decide_eq_true (ht.2 (.inl hi))]
      · rw [decide_eq_false hi, decide_eq_false (fun h => (ht.1 h).elim hi (fun h => he (by rw [hm]; exact h.symm)))]
theorem wo_l0 (hn : n ≤ 10) (M : List Nat) (hM : ∀ y ∈ M, y < n) (hm : M.length ≤ 12) (x : Nat) (hr : Gives (fun q => pomadelaw01_without.l1 q (sgL fs n) (wosX n M x M.length) true) r) : ∀ (d q : Nat), q + d = M.length → Gives (fun k => pomadelaw01_without.l0 k (sgL fs n) (ints M) (x : Nat) (wosX n M x q) q) r
  | 0, q, h => by
    obtain rfl : q = M.length := by omega
    exact hr.step fun k hk => by
      simp only [pomadelaw01_without.l0]
      rw [if_neg (by rw [ints_length]; omega)]
      exact hk
  | d + 1, q, h => (wo_l0 hn M hM hm x hr d (q + 1) (by omega)).step fun k hk => by
    have hq : q < M.length := by omega
    have hx : M.getD q 0 < n := hM _ (by rw [List.getD_eq_getElem?_getD, List.getElem?_eq_getElem hq]; exact List.getElem_mem hq)
    have e : (((M.getD q 0 : Nat) : Int) != (x : Int)) = decide (M.getD q 0 ≠ x) := by
      by_cases h : M.getD q 0 = x
      · rw [h]; simp
      · rw [decide_eq_true h, bne_iff_ne]; omega
    simp only [pomadelaw01_without.l0]
    rw [if_pos (by rw [ints_length]; omega), if_pos (by omega), rd_ints, if_pos (by omega), if_pos (by rw [wosX_len]; omega), e, Int.toNat_natCast, wosX_set hq, wr_succ q (by omega)]
    exact hk
end
theorem without_g {n : Nat} {fs : List Fm} (S : Tr.Sys n fs) {s : Nat} (hs : s < 4096) (hsn : s < 2 ^ n) {x : Nat} (hx : s.testBit x = true) : ∃ b, b < 2 ^ n ∧ Clo fs n b ∧ subN b s ∧ b ≠ s ∧ Gives (fun k => pomadelaw01_without.f k (sgL fs n) (ints (memL s)) (x : Nat)) (ints (memL b)) := by
  have n10 := S.n10
  have hM : ∀ y ∈ memL s, y < n := fun y hy => mem_n hs hsn y hy
  have hW : ∀ y, (wosX n (memL s) x (memL s).length).getD y false = true → s.testBit y = true ∧ y ≠ x := fun y hy => by
    rcases Nat.lt_or_ge y n with h | h
    · unfold wosX at hy
      rw [getD_map _ _ h, List.take_of_length_le (Nat.le_refl _), Bool.and_eq_true, decide_eq_true_eq, decide_eq_true_eq] at hy
      exact ⟨(memL_mem hs y).1 hy.1, hy.2⟩
    · rw [List.getD_eq_getElem?_getD, List.getElem?_eq_none (by rw [wosX_len]; exact h)] at hy
      cases hy
  obtain ⟨L', h1, h2, h3, h4⟩ := wo_l1 (fs := fs) n10 _ (wosX n (memL s) x (memL s).length) (wosX_len _ _ _) (Nat.le_refl _)
  have h5 := wo_l0 n10 (memL s) hM (memL_len s) x h4 (memL s).length 0 (by omega)
  obtain ⟨b, hb, hbi⟩ := bits_of (fun y => L'.getD y false) n
  have hbit : ∀ y, b.testBit y = L'.getD y false := fun y => by
    rcases Nat.lt_or_ge y n with h | h
    · exact hbi y h
    · rw [Nat.testBit_lt_two_pow (Nat.lt_of_lt_of_le hb (Nat.pow_le_pow_right (by decide) h)), List.getD_eq_getElem?_getD, List.getElem?_eq_none (by omega)]
      rfl
  have hb40 : b < 4096 := Nat.lt_of_lt_of_le hb (Nat.pow_le_pow_right (by decide) (by omega) : 2 ^ n ≤ 2 ^ 12)
  have hmem : lefM L' n 0 = memL b := by
    have hp : (lefM L' n 0).Pairwise (· < ·) := (List.pairwise_lt_range' (s := 0) (n := n)).filter _
    refine sorted_same hp (memF_sorted b _ _) fun y => ?_
    unfold lefM
    rw [List.mem_filter, List.mem_range'_1, memL_mem hb40, hbit]
    constructor
    · exact fun h => h.2
    · intro h
      refine ⟨⟨Nat.zero_le _, ?_⟩, h⟩
      rcases Nat.lt_or_ge y n with h6 | h6
      · omega
      · rw [List.getD_eq_getElem?_getD, List.getElem?_eq_none (by omega)] at h; cases h
  rw [hmem] at h5
  have hsub : subN b s := fun y hy => (hW y (h2 y (by rw [← hbit]; exact hy))).1
  refine ⟨b, hb, fun i hi hbi2 j hj => ?_, hsub, fun e => ?_, ?_⟩
  · have hjn := occ_low (fmA_low S i) hj
    have := h3 i hi j hjn
    rw [← hbit, ← hbit, hbi2, Bool.true_and] at this
    have ho : ocB fs i j = true := hj
    rw [ho, Bool.and_true] at this
    simpa using this
  · have := (hW x (h2 x (by rw [← hbit, e]; exact hx))).2
    exact this rfl
  · have e0 : wosX n (memL s) x 0 = List.replicate n false := by
      unfold wosX
      apply List.ext_getElem
      · simp
      · intro i h6 h7; simp
    rw [e0] at h5
    have hlen : (sgL fs n).length = n := by simp [sgL]
    exact h5.map fun k hk => by
      simp only [pomadelaw01_without.f]
      rw [hlen, if_pos (by omega), if_pos (by omega), Int.toNat_natCast]
      exact hk
where
  sorted_same : ∀ {a b : List Nat}, a.Pairwise (· < ·) → b.Pairwise (· < ·) → (∀ x, x ∈ a ↔ x ∈ b) → a = b
    | [], [], _, _, _ => rfl
    | [], y :: b, _, _, h => by have := (h y).2 List.mem_cons_self; cases this
    | x :: a, [], _, _, h => by have := (h x).1 List.mem_cons_self; cases this
    | x :: a, y :: b, ha, hb, h => by
      rw [List.pairwise_cons] at ha hb
      have e : x = y := by
        have h1 := (h x).1 List.mem_cons_self
        have h2 := (h y).2 List.mem_cons_self
        rcases List.mem_cons.1 h1 with h3 | h3
        · exact h3
        · rcases List.mem_cons.1 h2 with h4 | h4
          · exact h4.symm
          · have := hb.1 x h3; have := ha.1 y h4; omega
      subst e
      rw [sorted_same ha.2 hb.2 (fun z => ?_)]
      constructor
      · intro hz
        rcases List.mem_cons.1 ((h z).1 (List.mem_cons_of_mem _ hz)) with h1 | h1
        · have := ha.1 z hz; omega
        · exact h1
      · intro hz
        rcases List.mem_cons.1 ((h z).2 (List.mem_cons_of_mem _ hz)) with h1 | h1
        · have := hb.1 z hz; omega
        · exact h1
end Go.Proofs.YtijaefmaceolbaaDoor.Im

namespace Go.Proofs.YtijaefmaceolbaaDoor.Im
open Go.RowKit Go.Proofs.YtijaefmaceolbaaDoorW.PrintWords Go.Proofs.YtijaefmaceolbaaDoorW.PrintLast Go.Proofs.YtijaefmaceolbaaDoorW.PrintMore Go.Proofs.YtijaefmaceolbaaDoor.Tr
set_option linter.unusedVariables false
set_option linter.unusedSimpArgs false
theorem without_any {n : Nat} {fs : List Fm} (S : Tr.Sys n fs) {s : Nat} (hs : s < 4096) (hsn : s < 2 ^ n) {x : Nat} (hx : s.testBit x = true) : ∃ b, b < 2 ^ n ∧ Clo fs n b ∧ subN b s ∧ b ≠ s ∧
    ∀ (w : World) (A B : Option Addr) (c d : Nat), Kd.C (Kd.slice 3 (Kd.int .i64)) w A n (sgL fs n) → n ≤ c → Kd.C (Kd.int .i64) w B (memL s).length (ints (memL s)) → (memL s).length ≤ d →
      Calls Tryd.prog 32 #[.slice A n c, .slice B (memL s).length d, .int .i64 (x : Nat)] w (fun e w' => ∃ A2 c2, e = .returned (.slice A2 (memL b).length c2) ∧ (memL b).length ≤ c2 ∧ Kd.C (Kd.int .i64) w' A2 (memL b).length (ints (memL b)) ∧ Below w.heap.size w w') := by
  obtain ⟨b, h1, h2, h3, h4, k, hk⟩ := without_g S hs hsn hx
  refine ⟨b, h1, h2, h3, h4, fun w A B c d hA hc hB hd => ?_⟩
  have hl : (sgL fs n).length = n := by simp [sgL]
  have := pomadelaw01_without.calls k A c (sgL fs n) B d (ints (memL s)) (x : Nat) _ w (by rw [hl]; exact hA) (by rw [hl]; exact hc) (by rw [ints_length]; exact hB) (by rw [ints_length]; exact hd) (hk k (Nat.le_refl _))
  rw [hl, ints_length] at this
  refine this.mono fun e w' ⟨v, h1, h2, h3⟩ => ?_
  obtain ⟨A2, c2, rfl, h5, h6⟩ := Kd.R_reads h2
  rw [ints_length] at h1 h5 h6
  exact ⟨A2, c2, h1, h5, h6, h3⟩
theorem conL_nil {n : Nat} {fs : List Fm} (S : Tr.Sys n fs) : conL n fs = [] ↔ consL fs = [] := by
  rw [List.eq_nil_iff_forall_not_mem, List.eq_nil_iff_forall_not_mem]
  exact forall_congr' fun v => by rw [mem_conL S, mem_consL]
theorem core_cases {n : Nat} {fs : List Fm} (S : Tr.Sys n fs) : (coreV n fs = none ∧ 0 < (conL n fs).length) ∨ ∃ s, coreV n fs = some (memL s) ∧ MinBad fs n s ∧ (conL n fs).length = 0 := by
  by_cases h : ∃ s, MinBad fs n s
  · right
    obtain ⟨cs, hcs⟩ : ∃ cs : List Nat, ∀ m, m ∈ cs ↔ MinBad fs n m := by
      classical
      exact ⟨(List.range (2 ^ n)).filter fun m => decide (MinBad fs n m), fun m => by
        rw [List.mem_filter, List.mem_range, decide_eq_true_eq]
        exact ⟨fun h => h.2, fun h => ⟨h.1.2.1, h⟩⟩⟩
    obtain ⟨s, hs⟩ := h
    obtain ⟨c, _, hc⟩ := core_of_list hcs (List.length_pos_of_mem ((hcs s).2 hs))
    have e := coreV_some hc
    obtain ⟨t, ht, rfl, _⟩ := hc
    refine ⟨t, e, ht, ?_⟩
    rw [(conL_nil S).2 ((none_bad S).2 ⟨t, ht.1⟩)]
    rfl
  · left
    refine ⟨coreV_none fun s hs => h ⟨s, hs⟩, ?_⟩
    rcases Nat.eq_zero_or_pos (conL n fs).length with h0 | h0
    · obtain ⟨s, hs⟩ := (none_bad S).1 ((conL_nil S).1 (List.length_eq_zero_iff.1 h0))
      obtain ⟨m, hm, _⟩ := min_below s s (Nat.le_refl _) hs
      exact absurd ⟨m, hm⟩ h
    · exact h0
theorem partc_eq {L : List (List UInt8)} (h0 : sysE L = 0) (s : Nat) : countO (partL L s) = ((((conL L.length (partF (sysF L) L.length s)).length : Nat) : Int), 0) := by
  obtain ⟨h1, h2⟩ := part_sys h0 s
  unfold countO
  rw [if_pos h1, h2, partL_len]
  rfl
theorem partc_call {L : List (List UInt8)} (h0 : sysE L = 0) (s : Nat) (w : World) (A : Option Addr) (c : Nat) (hr : Kd.C Kd.string w A L.length ((partL L s).map strL)) :
    Calls Tryd.prog 25 #[.slice A L.length c] w (OutI ((((conL L.length (partF (sysF L) L.length s)).length : Nat) : Int), 0) w) := by
  have := count_call (partL L s) w A c (by rw [partL_len]; exact hr)
  rw [partL_len, partc_eq h0] at this
  exact this
theorem partc_zero {L : List (List UInt8)} (h0 : sysE L = 0) {s : Nat} (hm : MinBad (sysF L) L.length s) : (conL L.length (partF (sysF L) L.length s)).length = 0 := by
  have S := sys_ok h0
  have h := fun h => hm.1.2.2.2 ((part_hol S hm.1.2.1).1 h)
  rw [(conL_nil (partF_sys S s)).2 (Classical.not_not.1 h)]
  rfl
theorem partc_pos {L : List (List UInt8)} (h0 : sysE L = 0) {s b : Nat} (hm : MinBad (sysF L) L.length s) (h1 : b < 2 ^ L.length) (h2 : Clo (sysF L) L.length b) (h3 : subN b s) (h4 : b ≠ s) : 0 < (conL L.length (partF (sysF L) L.length b)).length := by
  have S := sys_ok h0
  have h := (part_hol S h1).2 (min_part hm h1 h2 h3 h4)
  rcases Nat.eq_zero_or_pos (conL L.length (partF (sysF L) L.length b)).length with h5 | h5
  · exact absurd ((conL_nil (partF_sys S b)).1 (List.length_eq_zero_iff.1 h5)) h
  · exact h5
def inX (n : Nat) (M : List Nat) (q : Nat) : List Bool := (List.range n).map fun i => decide (i ∈ M.take q)
theorem inX_zero (n : Nat) (M : List Nat) : inX n M 0 = List.replicate n false := by
  unfold inX
  apply List.ext_getElem
  · simp
  · intro i h1 h2; simp
theorem inX_set {n : Nat} {M : List Nat} {q : Nat} (hq : q < M.length) : (inX n M q).set (M.getD q 0) true = inX n M (q + 1) := by
  apply List.ext_getElem
  · simp [inX]
  · intro i h1 h2
    have hm : M.getD q 0 = M[q] := by simp [hq]
    rw [List.getElem_set]
    have ht : (i ∈ M.take (q + 1)) ↔ (i ∈ M.take q ∨ i = M[q]) := by
      rw [List.take_succ_eq_append_getElem hq, List.mem_append, List.mem_singleton]
    simp only [inX, List.getElem_map, List.getElem_range]
    by_cases he : M.getD q 0 = i
    · rw [if_pos he, decide_eq_true (ht.2 (.inr (by rw [← hm]; exact he.symm)))]
    · rw [if_neg he]
      by_cases hi : i ∈ M.take q
      · rw [decide_eq_true hi, decide_eq_true (ht.2 (.inl hi))]
      · rw [decide_eq_false hi, decide_eq_false (fun h => (ht.1 h).elim hi (fun h => he (by rw [hm]; exact h.symm)))]
theorem inX_all {n s : Nat} (hs : s < 4096) : inX n (memL s) (memL s).length = (List.range n).map fun i => s.testBit i := by
  unfold inX
  rw [List.take_of_length_le (Nat.le_refl _)]
  apply List.map_congr_left
  intro i _
  cases h : s.testBit i
  · exact decide_eq_false fun hh => by rw [(memL_mem hs i).1 hh] at h; cases h
  · exact decide_eq_true ((memL_mem hs i).2 h)
theorem memL_less {s q : Nat} (hq : q + 1 < (memL s).length) : (memL s).getD q 0 < (memL s).getD (q + 1) 0 := by
  have h := List.pairwise_iff_getElem.1 (memF_sorted s 12 0) q (q + 1) (show q < (memL s).length by omega) hq (by omega)
  rw [List.getD_eq_getElem?_getD, List.getD_eq_getElem?_getD, List.getElem?_eq_getElem (show q < (memL s).length by omega), List.getElem?_eq_getElem hq]
  exact h
end Go.Proofs.YtijaefmaceolbaaDoor.Im

namespace Go.Proofs.YtijaefmaceolbaaDoor.Im
open Go.RowKit Go.Proofs.YtijaefmaceolbaaDoorW.PrintWords Go.Proofs.YtijaefmaceolbaaDoorW.PrintLast Go.Proofs.YtijaefmaceolbaaDoorW.PrintMore Go.Proofs.YtijaefmaceolbaaDoor.Tr
set_option linter.unusedVariables false
set_option linter.unusedSimpArgs false
theorem infoBm : (Tryd.prog.info? 4).map (fun i => (i.zero, i.size, i.bytes)) = some (some (.bool false), 1, 1) := by kernel_rfl
theorem mat_at2 {fs : List Fm} {n : Nat} {w : World} {As : Option Addr} (hM : Kd.C (Kd.slice 3 (Kd.int .i64)) w As n (sgL fs n)) {i j : Nat} (hi : i < n) (hj : j < n) :
    ∃ s a c, As = some s ∧ w.cell? (s.add i) = some (.slice (some a) n c) ∧ n ≤ c ∧ w.cell? (a.add j) = some (.int .i64 (cdS (sgF fs i j))) := by
  obtain ⟨s, A0, c0, rfl, h1, h2, h3⟩ := at_L2 hM (i : Int) (by omega) (by omega)
  have e : rd_L2 (sgL fs n) (i : Int) = cdL n (sgF fs i) := by simp [rd_L2, sgL, hi]
  have el : (cdL n (sgF fs i)).length = n := by simp [cdL]
  rw [e, el] at h1 h2 h3
  rw [Int.toNat_natCast] at h1
  obtain ⟨a, rfl, h4⟩ := Kd.at_int h3 (j : Int) (by omega) (by omega)
  refine ⟨s, a, c0, rfl, h1, h2, ?_⟩
  rw [Int.toNat_natCast] at h4
  rw [h4]
  simp [rd, cdL, hj]
def GotL (M : List Nat) (m : Nat) (w : World) (e : Ending) (w' : World) : Prop := ∃ A2 c2, e = .returned (.slice A2 m c2) ∧ m ≤ c2 ∧ Kd.C (Kd.int .i64) w' A2 m (ints M) ∧ Below w.heap.size w w'
def GotP (LS : List ByteArray) (n : Nat) (w : World) (e : Ending) (w' : World) : Prop := ∃ A2 c2, e = .returned (.slice A2 n c2) ∧ n ≤ c2 ∧ Kd.C Kd.string w' A2 n LS ∧ Below w.heap.size w w'
set_option maxHeartbeats 6400000 in
set_option maxRecDepth 100000 in
theorem minimal_some (n m s : Nat) (fs : List Fm) (A : Option Addr) (c : Nat) (w : World) (LS PS : List ByteArray) (M : List Nat) (n7 : n ≤ 7) (npos : 0 < n) (hm0 : 0 < m) (hm12 : m ≤ 12) (HMM : Aside0 (M.length = m))
    (HF : Aside0 (Calls Tryd.prog 13 #[.slice A n c] w fun e w' => e = .returned (.bool true) ∧ Below w.heap.size w w'))
    (HR : Aside0 (Kd.C Kd.string w A n LS))
    (HS : Aside0 (∀ w1, Kd.C Kd.string w1 A n LS → Calls Tryd.prog 27 #[.slice A n c] w1 fun e w' => e = .returned (.int .i64 0) ∧ Below w1.heap.size w1 w'))
    (HV1 : Aside0 (∀ w1, Kd.C Kd.string w1 A n LS → Calls Tryd.prog 25 #[.slice A n c] w1 (OutI (0, 0) w1)))
    (HV2 : Aside0 (∀ w1, Kd.C Kd.string w1 A n LS → Calls Tryd.prog 15 #[.slice A n c] w1 fun e w' => ∃ A c, e = .returned (.tuple #[.slice A m c, .int .i64 0]) ∧ m ≤ c ∧ Kd.C (Kd.int .i64) w' A m (ints M) ∧ Below w1.heap.size w1 w'))
    (HSG : Aside0 (∀ w1, Kd.C Kd.string w1 A n LS → Calls Tryd.prog 30 #[.slice A n c] w1 (SigPost fs n w1)))
    (HPS : Aside0 (∀ w1, Kd.C Kd.string w1 A n LS → ∀ B d, Kd.C (Kd.int .i64) w1 B m (ints M) → m ≤ d → Calls Tryd.prog 31 #[.slice A n c, .slice B m d] w1 (GotP PS n w1)))
    (HKZ : Aside0 (∀ w1 A1 c1, Kd.C Kd.string w1 A1 n PS → Calls Tryd.prog 25 #[.slice A1 n c1] w1 (OutI (0, 0) w1)))
    (HWO : Aside0 (∀ x, s.testBit x = true → ∃ (bl : List Nat) (bn k : Nat) (BS : List ByteArray), 0 < k ∧
      (∀ w A1 B c1 d, Kd.C (Kd.slice 3 (Kd.int .i64)) w A1 n (sgL fs n) → n ≤ c1 → Kd.C (Kd.int .i64) w B m (ints M) → m ≤ d → Calls Tryd.prog 32 #[.slice A1 n c1, .slice B m d, .int .i64 (x : Nat)] w (GotL bl bn w)) ∧
      (∀ w1, Kd.C Kd.string w1 A n LS → ∀ B d, Kd.C (Kd.int .i64) w1 B bn (ints bl) → bn ≤ d → Calls Tryd.prog 31 #[.slice A n c, .slice B bn d] w1 (GotP BS n w1)) ∧
      (∀ w1 A1 c1, Kd.C Kd.string w1 A1 n BS → Calls Tryd.prog 25 #[.slice A1 n c1] w1 (OutI ((k : Nat), 0) w1))))
    (HCLO : Aside0 (∀ i k, i < n → k < n → s.testBit i = true → s.testBit k = false → cdS (sgF fs i k) = 0))
    (HMN : Aside0 (∀ q, q < m → M.getD q 0 < n ∧ s.testBit (M.getD q 0) = true))
    (HLS : Aside0 (∀ q, q + 1 < m → M.getD q 0 < M.getD (q + 1) 0))
    (HALL : Aside0 (inX n M m = (List.range n).map fun i => s.testBit i)) :
    Calls Tryd.prog 8 #[.slice A n c] w fun e w' => e = .returned (.bool true) ∧ Below w.heap.size w w' := by
  have t1 : decide (7 < (n : Int)) = false := decide_eq_false (by omega)
  have t2 : decide (7 < n) = false := decide_eq_false (by omega)
  have n0 : (0 : Int) ≤ (n : Int) := by omega
  have mp : (0 : Int) < (m : Int) := by omega
  have um : ((m : Int) == 0) = false := beq_eq_false_iff_ne.2 (by omega)
  go_enter Tryd.func8, Tryd.ntmps8
  go_wp2_with fail
  refine HF.out.mono ?_
  rintro e w1 ⟨rfl, hb1⟩
  have HB1 := Aside0.mk hb1
  have HR1 := Aside0.mk (Kd.C_below HR.out hb1)
  clear hb1
  go_wp2_with fail
  refine (HS.out _ HR1.out).mono ?_
  rintro e w2 ⟨rfl, hb2⟩
  have HB2 := Aside0.mk (below_then HB1.out HB1.out.size hb2)
  have HR2 := Aside0.mk (Kd.C_below HR1.out hb2)
  clear hb2 HB1 HR1
  go_wp2_with fail
  refine (HV1.out _ HR2.out).mono ?_
  rintro e w3 ⟨rfl, hb3⟩
  have HB3 := Aside0.mk (below_then HB2.out HB2.out.size hb3)
  have HR3 := Aside0.mk (Kd.C_below HR2.out hb3)
  clear hb3 HB2 HR2
  go_wp2_with fail
  refine (HV2.out _ HR3.out).mono ?_
  rintro e w4 ⟨A4, c4, rfl, hl4, hC4, hb4⟩
  have HB4 := Aside0.mk (below_then HB3.out HB3.out.size hb4)
  have HR4 := Aside0.mk (Kd.C_below HR3.out hb4)
  have hmc4 := hl4
  have HCM := Aside0.mk hC4
  have HCL := Aside0.mk hl4
  obtain ⟨a4, rfl, _⟩ := Kd.at_int hC4 0 (by omega) mp
  have HCA := Aside0.mk (show ∀ (W : World), Below w4.heap.size w4 W → ∀ q, q < m → W.cell? (a4.add q) = some (.int .i64 ((M.getD q 0 : Nat) : Int)) from fun W hW q hq => by
    obtain ⟨_, e1, h1⟩ := Kd.at_int (Kd.C_below HCM.out hW) (q : Int) (by omega) (by omega)
    cases e1
    rw [Int.toNat_natCast, rd_ints] at h1
    exact h1)
  have HBR := Aside0.mk (Below.refl w4.heap.size w4)
  clear hb4 HB3 HR3 hC4 hl4 HF HV1 HV2 HS HR t1 t2
  go_wp2_with (first | ((with_reducible refine gate_dst (N := 68) rfl ?_); refine Kd.R_make Kd.bool _ 4 rfl (N := 68) rfl 41 _ _ rfl (n : Int) rfl rfl Tryd.underlying41 (.bool false) 1 infoBm rfl (by decide) (by omega) false (ok := fun _ => True) (okp := fun _ => True) rfl (fun _ hk => hk) trivial n0 (by omega) (Below.refl _ _) (Nat.le_refl _) ?_; intro v170 w5 ho6 hb hg_ hnew_; clear hg_ hnew_; rw [Int.toNat_natCast] at ho6; have HBG := Aside0.mk hb; have HG := Aside0.mk ho6; clear hb ho6))
  have hpos : 0 < (List.replicate n false).length := by rw [List.length_replicate]; exact npos
  obtain ⟨gl, cl, e170, hgl, _, _⟩ := Kd.R_form HG.out hpos
  rw [List.length_replicate] at e170
  subst e170
  have HGL := Aside0.mk hgl
  have HI := Aside0.mk (show RwB w5 w4.heap.size gl n cl (inX n M 0) by rw [inX_zero]; exact R_pin HG.out)
  clear hpos hgl HG HBR
  go_loopw [8] (fun v wr => ∃ q : Nat, q ≤ m ∧ v = .int .i64 (q : Int) ∧ Aside0 (RwB wr w4.heap.size gl n cl (inX n M q)) ∧ Aside0 (Below w4.heap.size w4 wr)) (fun v _ => m - (intOf v).toNat)
  case atStart => exact ⟨0, by omega, rfl, HI, HBG⟩
  case round =>
    clear HI HBG
    obtain ⟨q, hq, rfl, HI, HB⟩ := hrel
    have q0 : (0 : Int) ≤ (q : Int) := by omega
    by_cases hqm : q < m
    · have hqm' : (q : Int) < (m : Int) := by omega
      have cq := HCA.out _ HB.out q hqm
      obtain ⟨hyn, hyb⟩ := HMN.out q hqm
      have HST := Aside0.mk (inX_set (n := n) (M := M) (q := q) (by rw [HMM.out]; exact hqm))
      have HI2 := Aside0.mk (show RwB (wr.setCell ⟨gl, M.getD q 0, none⟩ (.bool true)) w4.heap.size gl n cl (inX n M (q + 1)) by rw [← HST.out]; exact RwB.set_ HI.out (M.getD q 0) true)
      obtain ⟨_, ff⟩ := RwB.cell HI.out (M.getD q 0) hyn
      have HB2 := Aside0.mk (show Below w4.heap.size w4 (wr.setCell ⟨gl, M.getD q 0, none⟩ (.bool true)) from below_set HB.out HGL.out)
      obtain ⟨cx, _⟩ := RwB.cell HI.out (M.getD q 0) hyn
      have HPR := Aside0.mk (show ∀ p, q = p + 1 → wr.cell? (a4.add p) = some (.int .i64 ((M.getD p 0 : Nat) : Int)) ∧ M.getD p 0 < M.getD q 0 from fun p hp => ⟨HCA.out _ HB.out p (by omega), by
        rw [hp]; exact HLS.out p (by omega)⟩)
      clear hyb HST
      generalize (inX n M q).getD (M.getD q 0) false = bx at *
      generalize M.getD q 0 = y at *
      have y0 : (0 : Int) ≤ (y : Int) := by omega
      have yn : (y : Int) < (n : Int) := by omega
      have y1 : decide ((y : Int) < 0) = false := decide_eq_false (by omega)
      have y2 : decide ((n : Int) ≤ (y : Int)) = false := decide_eq_false (by omega)
      have y3 : decide (n ≤ y) = false := decide_eq_false (by omega)
      by_cases hqp : 0 < q
      · obtain ⟨p, hp⟩ : ∃ p, q = p + 1 := ⟨q - 1, by omega⟩
        obtain ⟨cp, hpy⟩ := HPR.out p hp
        generalize M.getD p 0 = z at *
        have qz : decide ((0 : Int) < (q : Int)) = true := decide_eq_true (by omega)
        have y4 : decide ((y : Int) ≤ (z : Int)) = false := decide_eq_false (by omega)
        have y5 : decide (y ≤ z) = false := decide_eq_false (by omega)
        have ws1 : (q : Int) - 1 = (p : Int) := by omega
        have ws2 : wrap64 ((q : Int) - 1) = (p : Int) := by rw [ws1]; unfold wrap64; omega
        have p0 : (0 : Int) ≤ (p : Int) := by omega
        have p1 : (p : Int) < (m : Int) := by omega
        clear HPR hp
        go_upto_region 13 with fail
        go_quiet (fail)
        go_wp2_with fail
        go_roundw
        case rel => exact ⟨q + 1, by omega, by go_num, ⟨Kd.R_below HI2.out (pw_below_drewN (Below.refl _ _) nq)⟩, ⟨pw_below_drewN HB2.out nq⟩⟩
        case measure => simp [intOf]; omega
      · have qz : decide ((0 : Int) < (q : Int)) = false := decide_eq_false (by omega)
        clear HPR
        go_upto_region 13 with fail
        go_quiet (fail)
        go_wp2_with fail
        go_roundw
        case rel => exact ⟨q + 1, by omega, by go_num, ⟨Kd.R_below HI2.out (pw_below_drewN (Below.refl _ _) nq)⟩, ⟨pw_below_drewN HB2.out nq⟩⟩
        case measure => simp [intOf]; omega
    · obtain rfl : m = q := by omega
      have HIA := Aside0.mk (show RwB wr w4.heap.size gl n cl ((List.range n).map fun i => s.testBit i) by rw [← HALL.out]; exact HI.out)
      have HR5 := Aside0.mk (Kd.C_below HR4.out HB.out)
      have HCM5 := Aside0.mk (Kd.C_below HCM.out HB.out)
      have HB5 := Aside0.mk (below_then HB4.out HB4.out.size HB.out)
      clear HI hqm q0 hq HB HCA HLS
      go_wp2_with fail
      refine (HSG.out _ HR5.out).mono ?_
      rintro e w7 ⟨A7, c7, rfl, hl7, hM7, hb7⟩
      obtain ⟨s7, _, _, rfl, _⟩ := mat_at2 hM7 npos npos
      have HM7 := Aside0.mk hM7
      have HL7 := Aside0.mk hl7
      have HI7 := Aside0.mk (Kd.R_below HIA.out hb7)
      have HR7 := Aside0.mk (Kd.C_below HR5.out hb7)
      have HCM7 := Aside0.mk (Kd.C_below HCM5.out hb7)
      have HB7 := Aside0.mk (below_then HB5.out HB5.out.size hb7)
      have HBR := Aside0.mk (Below.refl w7.heap.size w7)
      have hc7 := hl7
      clear hM7 hl7 hb7 HIA HR5 HCM5 HB5 HSG HR4 HB4 HCM
      go_wp2_with fail
      go_loopw [10] (fun v wr => ∃ i : Nat, i ≤ n ∧ v = .int .i64 (i : Int) ∧ Aside0 (Below w7.heap.size w7 wr)) (fun v _ => n - (intOf v).toNat)
      case atStart => exact ⟨0, by omega, rfl, HBR⟩
      case round =>
        clear HBR
        obtain ⟨i, hi, rfl, HBI⟩ := hrel
        have i0 : (0 : Int) ≤ (i : Int) := by omega
        by_cases hin : i < n
        · have hin' : (i : Int) < (n : Int) := by omega
          generalize wr = WI at *
          have HBJ := Aside0.mk (Below.refl WI.heap.size WI)
          go_wp2_with fail
          go_loopw [11] (fun v wr => ∃ k : Nat, k ≤ n ∧ v = .int .i64 (k : Int) ∧ Aside0 (Below WI.heap.size WI wr)) (fun v _ => n - (intOf v).toNat)
          case atStart => exact ⟨0, by omega, rfl, HBJ⟩
          case round =>
            clear HBJ
            obtain ⟨k, hk, rfl, HBJ⟩ := hrel
            have k0 : (0 : Int) ≤ (k : Int) := by omega
            by_cases hkn : k < n
            · have hkn' : (k : Int) < (n : Int) := by omega
              have HBT := Aside0.mk (below_then HBI.out HBI.out.size HBJ.out)
              obtain ⟨ci, _⟩ := RwB.cell (Kd.R_below HI7.out HBT.out) i hin
              obtain ⟨ck, _⟩ := RwB.cell (Kd.R_below HI7.out HBT.out) k hkn
              obtain ⟨_, a0, c0, e0, cm, _, cv⟩ := mat_at2 (Kd.C_below HM7.out HBT.out) hin hkn
              cases e0
              rw [getD_map _ _ hin] at ci
              rw [getD_map _ _ hkn] at ck
              have HZ := Aside0.mk (HCLO.out i k hin hkn)
              generalize s.testBit i = bi at *
              generalize s.testBit k = bk at *
              cases bi
              · clear HZ cv
                go_wp2_with fail
                go_roundw
                case rel => exact ⟨k + 1, by omega, by go_num, HBJ⟩
                case measure => simp [intOf]; omega
              · cases bk
                · rw [HZ.out rfl rfl] at cv
                  clear HZ
                  go_wp2_with fail
                  go_roundw
                  case rel => exact ⟨k + 1, by omega, by go_num, HBJ⟩
                  case measure => simp [intOf]; omega
                · clear HZ cv
                  go_wp2_with fail
                  go_roundw
                  case rel => exact ⟨k + 1, by omega, by go_num, HBJ⟩
                  case measure => simp [intOf]; omega
            · obtain rfl : n = k := by omega
              have HB8 := Aside0.mk (below_then HBI.out HBI.out.size HBJ.out)
              go_wp2_with fail
              go_roundw
              case rel => exact ⟨i + 1, by omega, by go_num, HB8⟩
              case measure => simp [intOf]; omega
        · obtain rfl : n = i := by omega
          have HR8 := Aside0.mk (Kd.C_below HR7.out HBI.out)
          have HCM8 := Aside0.mk (Kd.C_below HCM7.out HBI.out)
          have HM8 := Aside0.mk (Kd.C_below HM7.out HBI.out)
          have HB8 := Aside0.mk (below_then HB7.out HB7.out.size HBI.out)
          clear hin HBI HR7 HCM7 HM7 HB7 HI7 HCLO
          go_wp2_with fail
          refine (HPS.out _ HR8.out _ _ HCM8.out HCL.out).mono ?_
          rintro e w9 ⟨A9, c9, rfl, hl9, hC9, hb9⟩
          have HP9 := Aside0.mk hC9
          have HR9 := Aside0.mk (Kd.C_below HR8.out hb9)
          have HCM9 := Aside0.mk (Kd.C_below HCM8.out hb9)
          have HM9 := Aside0.mk (Kd.C_below HM8.out hb9)
          have HB9 := Aside0.mk (below_then HB8.out HB8.out.size hb9)
          clear hl9 hC9 hb9 HR8 HCM8 HM8 HB8
          go_wp2_with fail
          refine (HKZ.out _ _ _ HP9.out).mono ?_
          rintro e w10 ⟨rfl, hb10⟩
          have HR10 := Aside0.mk (Kd.C_below HR9.out hb10)
          have HCM10 := Aside0.mk (Kd.C_below HCM9.out hb10)
          have HM10 := Aside0.mk (Kd.C_below HM9.out hb10)
          have HB10 := Aside0.mk (below_then HB9.out HB9.out.size hb10)
          have HBR := Aside0.mk (Below.refl w10.heap.size w10)
          clear hb10 HR9 HCM9 HM9 HB9 HP9 HKZ HPS
          go_wp2_with fail
          go_loopw [13] (fun v wr => ∃ q : Nat, q ≤ m ∧ v = .int .i64 (q : Int) ∧ Aside0 (Below w10.heap.size w10 wr)) (fun v _ => m - (intOf v).toNat)
          case atStart => exact ⟨0, by omega, rfl, HBR⟩
          case round =>
            clear HBR
            obtain ⟨q, hq, rfl, HBQ⟩ := hrel
            have q0 : (0 : Int) ≤ (q : Int) := by omega
            by_cases hqm : q < m
            · have hqm' : (q : Int) < (m : Int) := by omega
              obtain ⟨_, e1, cq⟩ := Kd.at_int (Kd.C_below HCM10.out HBQ.out) (q : Int) q0 hqm'
              cases e1
              rw [Int.toNat_natCast, rd_ints] at cq
              obtain ⟨bl, bn, kk, BS, hkk, hw1, hw2, hw3⟩ := HWO.out _ (HMN.out q hqm).2
              have HW1 := Aside0.mk (hw1 wr _ _ _ _ (Kd.C_below HM10.out HBQ.out) HL7.out (Kd.C_below HCM10.out HBQ.out) HCL.out)
              have HW2 := Aside0.mk (fun (w1 : World) (h : Below w10.heap.size w10 w1) => hw2 w1 (Kd.C_below HR10.out h))
              have HW3 := Aside0.mk hw3
              have hz : ((kk : Int) == 0) = false := beq_eq_false_iff_ne.2 (by omega)
              clear hw1 hw2 hw3 hkk
              generalize M.getD q 0 = y at *
              go_wp2_with fail
              refine HW1.out.mono ?_
              rintro e w11 ⟨A11, c11, rfl, hl11, hC11, hb11⟩
              have HB11 := Aside0.mk (below_then HBQ.out HBQ.out.size hb11)
              have HC11 := Aside0.mk hC11
              have HL11 := Aside0.mk hl11
              clear hb11 hC11 hl11
              go_wp2_with fail
              refine (HW2.out _ HB11.out _ _ HC11.out HL11.out).mono ?_
              rintro e w12 ⟨A12, c12, rfl, hl12, hC12, hb12⟩
              have HB12 := Aside0.mk (below_then HB11.out HB11.out.size hb12)
              have HC12 := Aside0.mk hC12
              clear hb12 hC12 hl12
              go_wp2_with fail
              refine (HW3.out _ _ _ HC12.out).mono ?_
              rintro e w13 ⟨rfl, hb13⟩
              have HB13 := Aside0.mk (below_then HB12.out HB12.out.size hb13)
              clear hb13
              go_wp2_with fail
              go_roundw
              case rel => exact ⟨q + 1, by omega, by go_num, HB13⟩
              case measure => simp [intOf]; omega
            · obtain rfl : m = q := by omega
              clear hqm
              go_wp2_with fail
              refine (alive_any _).mono ?_
              rintro e w14 ⟨rfl, hb14⟩
              have HB14 := Aside0.mk (below_then HB10.out HB10.out.size (below_then HBQ.out HBQ.out.size hb14))
              clear hb14
              go_wp2_with fail
              go_ret
              exact ⟨rfl, HB14.out⟩
end Go.Proofs.YtijaefmaceolbaaDoor.Im

namespace Go.Proofs.YtijaefmaceolbaaDoor.Im
open Go.RowKit Go.Proofs.YtijaefmaceolbaaDoorW.PrintWords Go.Proofs.YtijaefmaceolbaaDoorW.PrintLast Go.Proofs.YtijaefmaceolbaaDoorW.PrintMore Go.Proofs.YtijaefmaceolbaaDoor.Tr
set_option linter.unusedVariables false
set_option linter.unusedSimpArgs false
set_option maxHeartbeats 6400000 in
set_option maxRecDepth 100000 in
theorem law_minimal (L : List (List UInt8)) (A : Option Addr) (c : Nat) (w : World) (hr : Kd.C Kd.string w A L.length (L.map strL)) (hc : L.length ≤ c) :
    Calls Tryd.prog 8 #[.slice A L.length c] w fun e w' => e = .returned (.bool true) ∧ Below w.heap.size w w' := by
  have hml : (L.map strL).length = L.length := List.length_map _
  have hfew := few_any (L.map strL) A c w (by rw [hml]; exact hr) (by rw [hml]; exact hc)
  rw [hml] at hfew
  have HF := Aside0.mk hfew
  have HR := Aside0.mk hr
  clear hfew
  cases hf : fewB (L.map strL)
  · rw [hf] at HF
    clear hf hr
    go_enter Tryd.func8, Tryd.ntmps8
    go_wp2_with fail
    refine HF.out.mono ?_
    rintro e w1 ⟨rfl, hb1⟩
    have HB1 := Aside0.mk hb1
    have HR1 := Aside0.mk (Kd.C_below HR.out hb1)
    clear hb1
    go_wp2_with fail
    refine (alive_any _).mono ?_
    rintro e w2 ⟨rfl, hb2⟩
    have HB2 := Aside0.mk (below_then HB1.out HB1.out.size hb2)
    have HR2 := Aside0.mk (Kd.C_below HR1.out hb2)
    clear hb2 HB1 HR1
    go_wp2_with fail
    go_ret
    exact ⟨rfl, HB2.out⟩
  · rw [hf] at HF
    clear hf hr
    by_cases h7 : L.length ≤ 7
    · have t1 : decide (7 < (L.length : Int)) = false := decide_eq_false (by omega)
      have t2 : decide (7 < L.length) = false := decide_eq_false (by omega)
      have HS := Aside0.mk (fun (w1 : World) (hC : Kd.C Kd.string w1 A L.length (L.map strL)) => rsystem_call L w1 A c hC)
      by_cases h0 : sysE L = 0
      · have S := sys_ok h0
        rw [h0] at HS
        have HV1 := Aside0.mk (fun (w1 : World) (hC : Kd.C Kd.string w1 A L.length (L.map strL)) => count_call L w1 A c hC)
        have HV2 := Aside0.mk (fun (w1 : World) (hC : Kd.C Kd.string w1 A L.length (L.map strL)) => core_call L w1 A c hC)
        have e1 : countO L = ((((conL L.length (sysF L)).length : Nat) : Int), (0 : Int)) := by unfold countO; rw [if_pos h0]; rfl
        rw [e1] at HV1
        rcases core_cases S with ⟨hc0, hcp⟩ | ⟨s, hc0, hmb, hcp⟩
        · have e2 : coreO L = ([], 10) := by unfold coreO; rw [if_pos h0, hc0]
          rw [e2] at HV2
          have u1 : (((conL L.length (sysF L)).length : Int) == 0) = false := beq_eq_false_iff_ne.2 (by omega)
          clear e1 e2 hc0 hcp S h0
          generalize (conL L.length (sysF L)).length = m at *
          go_enter Tryd.func8, Tryd.ntmps8
          go_wp2_with fail
          refine HF.out.mono ?_
          rintro e w1 ⟨rfl, hb1⟩
          have HB1 := Aside0.mk hb1
          have HR1 := Aside0.mk (Kd.C_below HR.out hb1)
          clear hb1
          go_wp2_with fail
          refine (HS.out _ HR1.out).mono ?_
          rintro e w2 ⟨rfl, hb2⟩
          have HB2 := Aside0.mk (below_then HB1.out HB1.out.size hb2)
          have HR2 := Aside0.mk (Kd.C_below HR1.out hb2)
          clear hb2 HB1 HR1
          go_wp2_with fail
          refine (HV1.out _ HR2.out).mono ?_
          rintro e w3 ⟨rfl, hb3⟩
          have HB3 := Aside0.mk (below_then HB2.out HB2.out.size hb3)
          have HR3 := Aside0.mk (Kd.C_below HR2.out hb3)
          clear hb3 HB2 HR2
          go_wp2_with fail
          refine (HV2.out _ HR3.out).mono ?_
          rintro e w4 ⟨A4, c4, rfl, hl4, hC4, hb4⟩
          have HB4 := Aside0.mk (below_then HB3.out HB3.out.size hb4)
          have HR4 := Aside0.mk (Kd.C_below HR3.out hb4)
          clear hl4 hC4
          clear hb4 HB3 HR3
          go_wp2_with fail
          refine (alive_any _).mono ?_
          rintro e w5 ⟨rfl, hb5⟩
          have HB5 := Aside0.mk (below_then HB4.out HB4.out.size hb5)
          have HR5 := Aside0.mk (Kd.C_below HR4.out hb5)
          clear hb5 HB4 HR4
          go_wp2_with fail
          go_ret
          exact ⟨rfl, HB5.out⟩
        · have e2 : coreO L = (memL s, 0) := by unfold coreO; rw [if_pos h0, hc0]
          rw [e2] at HV2
          rw [hcp] at HV1
          have hsn : s < 2 ^ L.length := hmb.1.2.1
          have hs40 : s < 4096 := Nat.lt_of_lt_of_le hsn (Nat.pow_le_pow_right (by decide) (by omega) : 2 ^ L.length ≤ 2 ^ 12)
          have HSG := Aside0.mk (fun (w1 : World) (hC : Kd.C Kd.string w1 A L.length (L.map strL)) => signs_call L h0 w1 A c hC)
          have HP := Aside0.mk (fun (b : Nat) (hb : b < 4096) (hbn : b < 2 ^ L.length) (w1 : World) (hC : Kd.C Kd.string w1 A L.length (L.map strL)) (B : Option Addr) (d : Nat) (hB : Kd.C (Kd.int .i64) w1 B (memL b).length (ints (memL b))) (hd : (memL b).length ≤ d) => part_any L S.n10 b hb hbn w1 A B c d hC hc hB hd)
          have HK := Aside0.mk (fun (b : Nat) (w1 : World) (A1 : Option Addr) (c1 : Nat) (hC : Kd.C Kd.string w1 A1 L.length ((partL L b).map strL)) => partc_call h0 b w1 A1 c1 hC)
          have hk0 := partc_zero h0 hmb
          have HKP := Aside0.mk (fun (b : Nat) (h1 : b < 2 ^ L.length) (h2 : Clo (sysF L) L.length b) (h3 : subN b s) (h4 : b ≠ s) => partc_pos h0 hmb h1 h2 h3 h4)
          have HWO := Aside0.mk (fun (x : Nat) (hx : s.testBit x = true) => without_any S hs40 hsn hx)
          have HCLO := Aside0.mk (show ∀ i k, i < L.length → k < L.length → s.testBit i = true → s.testBit k = false → cdS (sgF (sysF L) i k) = 0 from fun i k hi hk h1 h2 => (cdS_occ (sysF L) i k).2 (by
            cases h : ocB (sysF L) i k
            · rfl
            · have := hmb.1.2.2.1 i hi h1 k h; rw [h2] at this; cases this))
          have HKZ := Aside0.mk (HK.out s)
          rw [hk0] at HKZ
          have HPS := Aside0.mk (HP.out s hs40 hsn)
          have HMN := Aside0.mk (show ∀ q, q < (memL s).length → (memL s).getD q 0 < L.length ∧ s.testBit ((memL s).getD q 0) = true from fun q hq => by
            have hm : (memL s).getD q 0 ∈ memL s := by rw [List.getD_eq_getElem?_getD, List.getElem?_eq_getElem hq]; exact List.getElem_mem hq
            exact ⟨mem_n hs40 hsn _ hm, (memL_mem hs40 _).1 hm⟩)
          have HLS := Aside0.mk (fun (q : Nat) (hq : q + 1 < (memL s).length) => memL_less hq)
          have hm0 : 0 < (memL s).length := by
            obtain ⟨i, hi⟩ : ∃ i, s.testBit i = true := Classical.byContradiction fun h => hmb.1.1 (Nat.eq_of_testBit_eq fun i => by
              rw [Nat.zero_testBit]
              cases hh : s.testBit i
              · rfl
              · exact absurd ⟨i, hh⟩ h)
            exact List.length_pos_of_mem ((memL_mem hs40 i).2 hi)
          have hm12 := memL_len s
          have HALL := Aside0.mk (inX_all (n := L.length) hs40)
          have HB40 := Aside0.mk (show ∀ b, b < 2 ^ L.length → b < 4096 from fun b hb => Nat.lt_of_lt_of_le hb (Nat.pow_le_pow_right (by decide) (by omega) : 2 ^ L.length ≤ 2 ^ 12))
          have HWO2 := Aside0.mk (show ∀ x, s.testBit x = true → ∃ (bl : List Nat) (bn k : Nat) (BS : List ByteArray), 0 < k ∧
              (∀ w A1 B c1 d, Kd.C (Kd.slice 3 (Kd.int .i64)) w A1 L.length (sgL (sysF L) L.length) → L.length ≤ c1 → Kd.C (Kd.int .i64) w B (memL s).length (ints (memL s)) → (memL s).length ≤ d → Calls Tryd.prog 32 #[.slice A1 L.length c1, .slice B (memL s).length d, .int .i64 (x : Nat)] w (GotL bl bn w)) ∧
              (∀ w1, Kd.C Kd.string w1 A L.length (L.map strL) → ∀ B d, Kd.C (Kd.int .i64) w1 B bn (ints bl) → bn ≤ d → Calls Tryd.prog 31 #[.slice A L.length c, .slice B bn d] w1 (GotP BS L.length w1)) ∧
              (∀ w1 A1 c1, Kd.C Kd.string w1 A1 L.length BS → Calls Tryd.prog 25 #[.slice A1 L.length c1] w1 (OutI ((k : Nat), 0) w1)) from fun x hx => by
            obtain ⟨b, h1, h2, h3, h4, h5⟩ := HWO.out x hx
            refine ⟨memL b, (memL b).length, _, (partL L b).map strL, HKP.out b h1 h2 h3 h4, h5, fun w1 hC B d hB hd => ?_, fun w1 A1 c1 hC => HK.out b w1 A1 c1 hC⟩
            have h6 := HP.out b (HB40.out b h1) h1 w1 hC B d hB hd
            rw [partL_len] at h6
            exact h6)
          have HPS2 := Aside0.mk (fun (w1 : World) (hC : Kd.C Kd.string w1 A L.length (L.map strL)) (B : Option Addr) (d : Nat) (hB : Kd.C (Kd.int .i64) w1 B (memL s).length (ints (memL s))) (hd : (memL s).length ≤ d) => (show Calls Tryd.prog 31 #[.slice A L.length c, .slice B (memL s).length d] w1 (GotP ((partL L s).map strL) L.length w1) from by
            have h6 := HPS.out w1 hC B d hB hd
            rw [partL_len] at h6
            exact h6))
          exact minimal_some L.length (memL s).length s (sysF L) A c w (L.map strL) ((partL L s).map strL) (memL s) h7 S.pos hm0 hm12 ⟨rfl⟩ HF HR HS HV1 HV2 HSG HPS2 HKZ HWO2 HCLO HMN HLS HALL
      · have hne : (sysE L != 0) = true := bne_iff_ne.2 h0
        clear h0
        generalize sysE L = x at *
        go_enter Tryd.func8, Tryd.ntmps8
        go_wp2_with fail
        refine HF.out.mono ?_
        rintro e w1 ⟨rfl, hb1⟩
        have HB1 := Aside0.mk hb1
        have HR1 := Aside0.mk (Kd.C_below HR.out hb1)
        clear hb1
        go_wp2_with fail
        refine (HS.out _ HR1.out).mono ?_
        rintro e w2 ⟨rfl, hb2⟩
        have HB2 := Aside0.mk (below_then HB1.out HB1.out.size hb2)
        have HR2 := Aside0.mk (Kd.C_below HR1.out hb2)
        clear hb2 HB1 HR1
        go_wp2_with fail
        refine (alive_any _).mono ?_
        rintro e w3 ⟨rfl, hb3⟩
        have HB3 := Aside0.mk (below_then HB2.out HB2.out.size hb3)
        have HR3 := Aside0.mk (Kd.C_below HR2.out hb3)
        clear hb3 HB2 HR2
        go_wp2_with fail
        go_ret
        exact ⟨rfl, HB3.out⟩
    · have t1 : decide (7 < (L.length : Int)) = true := decide_eq_true (by omega)
      have t2 : decide (7 < L.length) = true := decide_eq_true (by omega)
      go_enter Tryd.func8, Tryd.ntmps8
      go_wp2_with fail
      refine HF.out.mono ?_
      rintro e w1 ⟨rfl, hb1⟩
      have HB1 := Aside0.mk hb1
      have HR1 := Aside0.mk (Kd.C_below HR.out hb1)
      clear hb1
      go_wp2_with fail
      refine (alive_any _).mono ?_
      rintro e w2 ⟨rfl, hb2⟩
      have HB2 := Aside0.mk (below_then HB1.out HB1.out.size hb2)
      have HR2 := Aside0.mk (Kd.C_below HR1.out hb2)
      clear hb2 HB1 HR1
      go_wp2_with fail
      go_ret
      exact ⟨rfl, HB2.out⟩
end Go.Proofs.YtijaefmaceolbaaDoor.Im
namespace Go.Proofs.YtijaefmaceolbaaDoor.Im
open Go.RowKit Go.Proofs.YtijaefmaceolbaaDoorW.PrintWords Go.Proofs.YtijaefmaceolbaaDoorW.PrintLast Go.Proofs.YtijaefmaceolbaaDoorW.PrintMore Go.Proofs.YtijaefmaceolbaaDoor.Tr
theorem law13_any (A : Option Addr) (c : Nat) (l : List ByteArray) (w : World) (hr : Kd.C Kd.string w A l.length l) (hc : l.length ≤ c) :
    Calls Tryd.prog 8 #[.slice A l.length c] w fun e w' => e = .returned (.bool true) ∧ Below w.heap.size w w' := by
  obtain ⟨L, rfl⟩ := strs_of l
  rw [List.length_map] at hr hc ⊢
  exact law_minimal L A c w hr hc
end Go.Proofs.YtijaefmaceolbaaDoor.Im

