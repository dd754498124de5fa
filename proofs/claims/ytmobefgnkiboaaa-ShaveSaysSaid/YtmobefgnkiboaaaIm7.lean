/- Functions of the specification and of the statements, each with its calls (first written by print.sh): pomaderef02_may, pomaderef02_Arc, pomaderef02_Sentences. -/
import Derived.Test.YtmobefgnkiboaaaIm1
import Derived.Test.YtmobefgnkiboaaaIm3
import Derived.Test.YtmobefgnkiboaaaMa
import Derived.Test.YtmobefgnkiboaaaIm5
namespace Go.Proofs.Ytmobefgnkiboaaa.Im
open Go.RowKit Go.Proofs.YtmobefgnkiboaaaW.PrintWords Go.Proofs.YtmobefgnkiboaaaW.PrintLast Go.Proofs.YtmobefgnkiboaaaW.PrintMore
attribute [local go_sem] max2_int min2_int max_two min_two max_three min_three max_four min_four
set_option linter.unusedVariables false
set_option linter.unusedSimpArgs false

/-! ### pomaderef02_Sentences: function 20 -/
mutual
def pomaderef02_Sentences.l0 : Nat → Int → List Int → List ByteArray → Int → Option (List ByteArray × Int)
  | 0, _, _, _, _ => none
  | k + 1, x0, x6, x8, x9 => if x9 < x0 then (if 0 ≤ x9 then (if x9 < (x6.length : Int) then ((pomaderef01_Members.f k (rd x6 x9)).bind fun t133 => (pomaderef02_Sentences.l1 k x0 x6 x8 x9 t133 (⟨#[49]⟩ : ByteArray) (wrap64 ((t133.length : Int) - 1)))) else (none)) else (none)) else (some (x8, 0))
def pomaderef02_Sentences.l1 : Nat → Int → List Int → List ByteArray → Int → List Int → ByteArray → Int → Option (List ByteArray × Int)
  | 0, _, _, _, _, _, _, _ => none
  | k + 1, x0, x6, x8, x9, x10, x11, x12 => if x12 ≥ 0 then (if 0 ≤ x12 then (if x12 < (x10.length : Int) then ((some (([(wrap64 (97 + (rd x10 x12))) % 256] : List Int) : List Int)).bind fun y137 => (if 1 + (strOfNums y137).size ≤ 9223372036854775807 then (if x11.toList = ([49] : List UInt8) then (pomaderef02_Sentences.l1 k x0 x6 x8 x9 x10 ((⟨#[33]⟩ : ByteArray) ++ (strOfNums y137)) (wrap64 (x12 - 1))) else (if 1 + ((⟨#[33]⟩ : ByteArray) ++ (strOfNums y137)).size ≤ 9223372036854775807 then (if ((⟨#[40]⟩ : ByteArray) ++ ((⟨#[33]⟩ : ByteArray) ++ (strOfNums y137))).size + 1 ≤ 9223372036854775807 then (if (((⟨#[40]⟩ : ByteArray) ++ ((⟨#[33]⟩ : ByteArray) ++ (strOfNums y137))) ++ (⟨#[38]⟩ : ByteArray)).size + x11.size ≤ 9223372036854775807 then (if ((((⟨#[40]⟩ : ByteArray) ++ ((⟨#[33]⟩ : ByteArray) ++ (strOfNums y137))) ++ (⟨#[38]⟩ : ByteArray)) ++ x11).size + 1 ≤ 9223372036854775807 then (pomaderef02_Sentences.l1 k x0 x6 x8 x9 x10 (((((⟨#[40]⟩ : ByteArray) ++ ((⟨#[33]⟩ : ByteArray) ++ (strOfNums y137))) ++ (⟨#[38]⟩ : ByteArray)) ++ x11) ++ (⟨#[41]⟩ : ByteArray)) (wrap64 (x12 - 1))) else (none)) else (none)) else (none)) else (none))) else (none))) else (none)) else (none)) else (if (x11.size : Int) > 40 then (some (([] : List ByteArray), 8)) else (if x8.length < 8796093022208 then (pomaderef02_Sentences.l0 k x0 x6 (x8 ++ [x11]) (wrap64 (x9 + 1))) else (none)))
end
def pomaderef02_Sentences.f (k : Nat) (a0 : Int) (l1 : List (S43)) : Option (List ByteArray × Int) := (pomaderef02_Town.f k a0 l1).bind fun bt128 => (if bt128.2 = 0 then (if a0 > 10 then (some (([] : List ByteArray), 8)) else (pomaderef02_Sentences.l0 k a0 bt128.1 ([] : List ByteArray) 0)) else (some (([] : List ByteArray), bt128.2)))
theorem pomaderef02_Sentences.mono_l : ∀ k, (∀ y0 y1 y2 y3, LeO (pomaderef02_Sentences.l0 k y0 y1 y2 y3) (pomaderef02_Sentences.l0 (k + 1) y0 y1 y2 y3)) ∧ (∀ y0 y1 y2 y3 y4 y5 y6, LeO (pomaderef02_Sentences.l1 k y0 y1 y2 y3 y4 y5 y6) (pomaderef02_Sentences.l1 (k + 1) y0 y1 y2 y3 y4 y5 y6))
  | 0 => ⟨fun _ _ _ _ r h => by simp [pomaderef02_Sentences.l0] at h, fun _ _ _ _ _ _ _ r h => by simp [pomaderef02_Sentences.l1] at h⟩
  | k + 1 => by
    obtain ⟨ih0, ih1⟩ := pomaderef02_Sentences.mono_l k
    refine ⟨?_, ?_⟩
    · intro y0 y1 y2 y3
      unfold pomaderef02_Sentences.l0
      repeat' first
      | (with_reducible exact ih0 _ _ _ _)
      | (with_reducible exact ih1 _ _ _ _ _ _ _)
      | (with_reducible exact pomaderef01_Members.mono _ _)
      | (with_reducible exact pomaderef02_Town.mono _ _ _)
      | (with_reducible exact LeO.refl _)
      | (with_reducible exact LeO.none _)
      | (with_reducible refine LeO.ite ?_ ?_)
      | (with_reducible refine LeO.bind ?_ (fun _ => ?_))
      | exact ih0 _ _ _ _
      | exact ih1 _ _ _ _ _ _ _
      | exact pomaderef01_Members.mono _ _
      | exact pomaderef02_Town.mono _ _ _
      | exact LeO.none _
      | refine LeO.ite ?_ ?_
      | refine LeO.bind ?_ (fun _ => ?_)
    · intro y0 y1 y2 y3 y4 y5 y6
      unfold pomaderef02_Sentences.l1
      repeat' first
      | (with_reducible exact ih0 _ _ _ _)
      | (with_reducible exact ih1 _ _ _ _ _ _ _)
      | (with_reducible exact pomaderef01_Members.mono _ _)
      | (with_reducible exact pomaderef02_Town.mono _ _ _)
      | (with_reducible exact LeO.refl _)
      | (with_reducible exact LeO.none _)
      | (with_reducible refine LeO.ite ?_ ?_)
      | (with_reducible refine LeO.bind ?_ (fun _ => ?_))
      | exact ih0 _ _ _ _
      | exact ih1 _ _ _ _ _ _ _
      | exact pomaderef01_Members.mono _ _
      | exact pomaderef02_Town.mono _ _ _
      | exact LeO.none _
      | refine LeO.ite ?_ ?_
      | refine LeO.bind ?_ (fun _ => ?_)
theorem pomaderef02_Sentences.mono : ∀ a0 a1 k, LeO (pomaderef02_Sentences.f k a0 a1) (pomaderef02_Sentences.f (k + 1) a0 a1) := by
  intro a0 a1 k
  obtain ⟨ih0, ih1⟩ := pomaderef02_Sentences.mono_l k
  unfold pomaderef02_Sentences.f
  repeat' first
      | (with_reducible exact ih0 _ _ _ _)
      | (with_reducible exact ih1 _ _ _ _ _ _ _)
      | (with_reducible exact pomaderef01_Members.mono _ _)
      | (with_reducible exact pomaderef02_Town.mono _ _ _)
      | (with_reducible exact LeO.refl _)
      | (with_reducible exact LeO.none _)
      | (with_reducible refine LeO.ite ?_ ?_)
      | (with_reducible refine LeO.bind ?_ (fun _ => ?_))
      | exact ih0 _ _ _ _
      | exact ih1 _ _ _ _ _ _ _
      | exact pomaderef01_Members.mono _ _
      | exact pomaderef02_Town.mono _ _ _
      | exact LeO.none _
      | refine LeO.ite ?_ ?_
      | refine LeO.bind ?_ (fun _ => ?_)
set_option maxHeartbeats 8000000 in
set_option maxRecDepth 100000 in
theorem pomaderef02_Sentences.calls (k : Nat) (a0 : Int) (A1 : Option Addr) (c1 : Nat) (l1 : List (S43)) (r1 : List ByteArray) (r2 : Int) (w : World) (hr1 : Kd.C k43 w A1 l1.length l1) (hc1 : l1.length ≤ c1) (h : pomaderef02_Sentences.f k a0 l1 = some (r1, r2)) :
    Calls Try.prog 20 #[.int .i64 a0, .slice A1 l1.length c1] w fun e w' => ∃ v0_ : Value, e = .returned (.tuple #[v0_, .int .i64 r2]) ∧ Kd.R Kd.string 9 w' w.heap.size (fun _ => True) v0_ r1 ∧ Below w.heap.size w w' := by
  have HR1 := Aside0.mk hr1
  have HC1 := Aside0.mk hc1
  clear hr1 hc1
  have HB := Aside0.mk (Below.refl w.heap.size w)
  have H : ((pomaderef02_Town.f k a0 l1).bind fun bt128 => (if bt128.2 = 0 then (if a0 > 10 then (some (([] : List ByteArray), 8)) else (pomaderef02_Sentences.l0 k a0 bt128.1 ([] : List ByteArray) 0)) else (some (([] : List ByteArray), bt128.2)))) = some (r1, r2) := h
  clear h
  replace H := Option.bind_eq_some_iff.mp H
  obtain ⟨⟨t128, t129⟩, A30, H⟩ := H
  replace H : (if t129 = 0 then (if a0 > 10 then (some (([] : List ByteArray), 8)) else (pomaderef02_Sentences.l0 k a0 t128 ([] : List ByteArray) 0)) else (some (([] : List ByteArray), t129))) = some (r1, r2) := H
  have A3 := Aside0.mk A30
  clear A30
  by_cases c4 : t129 = 0
  · rw [if_pos c4] at H
    have c4b0 : (t129 == 0) = true := beq_iff_eq.mpr c4
    have c4b1 : (t129 != 0) = false := bne_eq_false_iff_eq.mpr c4
    clear c4
    by_cases c5 : a0 > 10
    · rw [if_pos c5] at H
      have c5b0 : decide (10 < a0) = true := decide_eq_true c5
      clear c5
      simp only [Option.some.injEq, Prod.mk.injEq] at H
      obtain ⟨rfl, rfl⟩ := H
      go_enter Try.func20, Try.ntmps20
      go_wp2_with (first | ((with_reducible refine gate_callee (f := 50) rfl ?_); refine goesL_ (some 17) rfl rfl Try.func50 (by kernel_rfl) rfl #[.int .i64 a0, .slice A1 l1.length c1] rfl (by (try simp only [List.map_toArray, List.map_cons, List.map_nil]); first | done | rfl | (simp only [List.length_drop, List.length_take]; rfl)) ?_; (with_reducible refine (pomaderef02_Town.calls k a0 _ _ l1 t128 t129 _ ?side1 ?side2 A3.out).mono ?_); (case side1 => repeat (first | exact HR1.out | (with_reducible refine Kd.C_alloc ?_ _) | (with_reducible refine Kd.C_drewN ?_ _) | (with_reducible refine Kd.C_drew ?_))); (case side2 => exact HC1.out); rintro e w6 ⟨v130, rfl, ho0, hb⟩; refine ⟨_, rfl, ?_⟩; have n0_ := Aside0.mk (Kd.R_lower ho0 (below_size (by repeat (first | (with_reducible first | exact HB.out | apply below_alloc | apply pw_below_drewN | apply below_drew1) | exact HB.out)))); have n1_ := Aside0.mk (below_step (by repeat (first | (with_reducible first | exact HB.out | apply below_alloc | apply pw_below_drewN | apply below_drew1) | exact HB.out)) hb); clear HB; have HO131 := n0_; have HB := n1_; clear n0_ n1_; (try clear hb); (try clear hb2); (try clear hk); (try clear hi); (try clear ho0)))
      go_ret2
      exact ⟨_, by first | rfl | (simp [errW_none, errW_some] <;> rfl) | (simp [*, errW_none, errW_some] <;> rfl), by first | exact Kd.R_nil _ _ _ _ _ | exact Kd.N_nil _ _ _ _ _ | exact Kd.V_nil _ _ _ _ _ | exact Kd.Q_nil _ _ _ _ _ | exact Kd.S_nil _ _ _ _ _, by repeat (first | (with_reducible first | exact HB.out | apply below_alloc | apply pw_below_drewN | apply below_drew1) | exact HB.out)⟩
    · rw [if_neg c5] at H
      have c5b0 : decide (10 < a0) = false := decide_eq_false c5
      clear c5
      have H' := Aside0.mk H
      clear H
      go_enter Try.func20, Try.ntmps20
      go_wp2_with (first | ((with_reducible refine gate_callee (f := 50) rfl ?_); refine goesL_ (some 17) rfl rfl Try.func50 (by kernel_rfl) rfl #[.int .i64 a0, .slice A1 l1.length c1] rfl (by (try simp only [List.map_toArray, List.map_cons, List.map_nil]); first | done | rfl | (simp only [List.length_drop, List.length_take]; rfl)) ?_; (with_reducible refine (pomaderef02_Town.calls k a0 _ _ l1 t128 t129 _ ?side1 ?side2 A3.out).mono ?_); (case side1 => repeat (first | exact HR1.out | (with_reducible refine Kd.C_alloc ?_ _) | (with_reducible refine Kd.C_drewN ?_ _) | (with_reducible refine Kd.C_drew ?_))); (case side2 => exact HC1.out); rintro e w7 ⟨v130, rfl, ho0, hb⟩; refine ⟨_, rfl, ?_⟩; have n0_ := Aside0.mk (Kd.R_lower ho0 (below_size (by repeat (first | (with_reducible first | exact HB.out | apply below_alloc | apply pw_below_drewN | apply below_drew1) | exact HB.out)))); have n1_ := Aside0.mk (below_step (by repeat (first | (with_reducible first | exact HB.out | apply below_alloc | apply pw_below_drewN | apply below_drew1) | exact HB.out)) hb); clear HB; have HO131 := n0_; have HB := n1_; clear n0_ n1_; (try clear hb); (try clear hb2); (try clear hk); (try clear hi); (try clear ho0)))
      go_loopg [8, 9] k (fun kq v8 v9 w' => ∃ (x8_1 : List ByteArray) (x9_1 : Int), v9 = .int .i64 x9_1 ∧ Aside0 (pomaderef02_Sentences.l0 kq a0 t128 x8_1 x9_1 = some (r1, r2)) ∧ Aside0 (kq ≤ k) ∧ Aside0 (Kd.R (Kd.int .i64) 3 w' w.heap.size (fun _ => True) v130 t128) ∧ Aside0 (Kd.R Kd.string 9 w' w.heap.size (fun _ => True) v8 x8_1) ∧ Aside0 (Below w.heap.size w w'))
      case atStart => exact ⟨(([] : List ByteArray)), (0), (by first | rfl | (simp; done) | (simp [*]; done)), H', ⟨Nat.le_refl _⟩, ⟨by (with_reducible repeat (first | apply Kd.R_alloc | apply Kd.R_drewN | apply Kd.R_drew)); exact HO131.out⟩, ⟨by first | exact Kd.R_nil _ _ _ _ _ | exact Kd.N_nil _ _ _ _ _ | exact Kd.V_nil _ _ _ _ _ | exact Kd.Q_nil _ _ _ _ _ | exact Kd.S_nil _ _ _ _ _⟩, ⟨by repeat (first | (with_reducible first | exact HB.out | apply below_alloc | apply pw_below_drewN | apply below_drew1) | exact HB.out)⟩⟩
      case round =>
        clear H'
        try clear c1
        try clear c2
        try clear p2
        try clear c4
        try clear c4b0
        try clear c4b1
        try clear c5
        try clear c5b0
        obtain ⟨x8_1, x9_1, rfl, HA, HK1, HO_6, HO_8, HB⟩ := hrel
        cases gk with
        | zero => exact absurd HA.out (by simp [pomaderef02_Sentences.l0])
        | succ k1 =>
          have H := HA.out
          clear HA
          simp only [pomaderef02_Sentences.l0] at H
          by_cases c8 : x9_1 < a0
          · rw [if_pos c8] at H
            have c8b0 : decide (x9_1 < a0) = true := decide_eq_true c8
            clear c8
            by_cases c9 : 0 ≤ x9_1
            · rw [if_pos c9] at H
              have c9b0 : decide (0 ≤ x9_1) = true := decide_eq_true c9
              clear c9
              by_cases c10 : x9_1 < (t128.length : Int)
              · rw [if_pos c10] at H
                have c10b0 : decide (x9_1 < (t128.length : Int)) = true := decide_eq_true c10
                clear c10
                replace H := Option.bind_eq_some_iff.mp H
                obtain ⟨t133, A110, H⟩ := H
                replace H : (pomaderef02_Sentences.l1 k1 a0 t128 x8_1 x9_1 t133 (⟨#[49]⟩ : ByteArray) (wrap64 ((t133.length : Int) - 1))) = some (r1, r2) := H
                have A11 := Aside0.mk A110
                clear A110
                have H' := Aside0.mk H
                clear H
                obtain ⟨Ao12, co12, eo12⟩ := Kd.R_slice HO_6.out
                subst eo12
                have p132 : 0 ≤ (x9_1 : Int) := of_decide_eq_true (by first | (with_reducible assumption) | assumption)
                have q132 : x9_1 < (t128.length : Int) := of_decide_eq_true (by first | (with_reducible assumption) | assumption)
                obtain ⟨ad132, e132, hx132_0⟩ := Kd.at_int (Kd.R_reads' HO_6.out).2.2 x9_1 p132 q132
                cases e132
                replace p132 := eq_true p132
                replace q132 := eq_true q132
                go_wp2_with (first | ((with_reducible refine gate_callee (f := 53) rfl ?_); refine goesL_ (some 34) rfl rfl Try.func53 (by kernel_rfl) rfl #[.int .i64 (rd t128 x9_1)] rfl (by (try simp only [List.map_toArray, List.map_cons, List.map_nil]); first | done | rfl | (simp only [List.length_drop, List.length_take]; rfl)) ?_; (with_reducible refine (pomaderef01_Members.calls k1 (rd t128 x9_1) t133 _ A11.out).mono ?_); rintro e w13 ⟨v134, rfl, ho0, hb⟩; refine ⟨_, rfl, ?_⟩; have n0_ := Aside0.mk (Kd.R_elder' (by (with_reducible repeat (first | apply Kd.R_alloc | apply Kd.R_drewN | apply Kd.R_drew)); exact HO_6.out) (Kd.R_base ho0) hb); have n1_ := Aside0.mk (Kd.R_below (by (with_reducible repeat (first | apply Kd.R_alloc | apply Kd.R_drewN | apply Kd.R_drew)); exact HO_8.out) hb); have n2_ := Aside0.mk (Kd.R_lower (Kd.R_new' ho0 (Kd.R_lt (by (with_reducible repeat (first | apply Kd.R_alloc | apply Kd.R_drewN | apply Kd.R_drew)); exact HO_6.out))) (below_size (by repeat (first | (with_reducible first | exact HB.out | apply below_alloc | apply pw_below_drewN | apply below_drew1) | exact HB.out)))); have n3_ := Aside0.mk (below_step (by repeat (first | (with_reducible first | exact HB.out | apply below_alloc | apply pw_below_drewN | apply below_drew1) | exact HB.out)) hb); clear HO_6; clear HO_8; clear HB; have HO_6 := n0_; have HO_8 := n1_; have HO135 := n2_; have HB := n3_; clear n0_ n1_ n2_ n3_; (try clear hb); (try clear hb2); (try clear hk); (try clear hi); (try clear ho0); obtain ⟨Ao14, co14, eo14⟩ := Kd.R_slice HO135.out; subst eo14))
                go_loopg [11, 12] k1 (fun kq v11 v12 w' => ∃ (x11_2 : ByteArray) (x12_2 : Int), v11 = .string x11_2 ∧ v12 = .int .i64 x12_2 ∧ Aside0 (pomaderef02_Sentences.l1 kq a0 t128 x8_1 x9_1 t133 x11_2 x12_2 = some (r1, r2)) ∧ Aside0 (kq ≤ k1) ∧ Aside0 (Kd.R (Kd.int .i64) 3 w' w.heap.size (fun k_ => some k_ ≠ ((.slice Ao14 t133.length co14) : Value).ownBlock) (.slice (some ad132) t128.length co12) t128) ∧ Aside0 (Kd.R Kd.string 9 w' w.heap.size (fun _ => True) u8 x8_1) ∧ Aside0 (Kd.R (Kd.int .i64) 3 w' w.heap.size (fun k_ => some k_ ≠ ((.slice (some ad132) t128.length co12) : Value).ownBlock) (.slice Ao14 t133.length co14) t133) ∧ Aside0 (Below w.heap.size w w'))
                case atStart => exact ⟨((⟨#[49]⟩ : ByteArray)), (wrap64 ((t133.length : Int) - 1)), (by first | rfl | (simp; done) | (simp [*]; done)), (by first | rfl | (simp; done) | (simp [*]; done)), H', ⟨Nat.le_refl _⟩, ⟨by (with_reducible repeat (first | apply Kd.R_alloc | apply Kd.R_drewN | apply Kd.R_drew)); exact Kd.R_mono HO_6.out (fun _ hk => hk.2)⟩, ⟨by (with_reducible repeat (first | apply Kd.R_alloc | apply Kd.R_drewN | apply Kd.R_drew)); exact HO_8.out⟩, ⟨by (with_reducible repeat (first | apply Kd.R_alloc | apply Kd.R_drewN | apply Kd.R_drew)); exact Kd.R_mono HO135.out (fun _ hk => hk.2)⟩, ⟨by repeat (first | (with_reducible first | exact HB.out | apply below_alloc | apply pw_below_drewN | apply below_drew1) | exact HB.out)⟩⟩
                case round =>
                  clear H'
                  try clear c1
                  try clear p1
                  try clear q1
                  try clear hx1
                  try clear c2
                  try clear p2
                  try clear c4
                  try clear c4b0
                  try clear c4b1
                  try clear c5
                  try clear c5b0
                  try clear p6
                  try clear c8
                  try clear c8b0
                  try clear c9
                  try clear c9b0
                  try clear c10
                  try clear c10b0
                  try clear p13
                  try clear q13
                  try clear hx13
                  try clear hx132_0
                  try clear p132
                  try clear p2
                  try clear q132
                  obtain ⟨x11_2, x12_2, rfl, rfl, HA, HK2, HO_6, HO_8, HO_10, HB⟩ := hrel
                  cases gk with
                  | zero => exact absurd HA.out (by simp [pomaderef02_Sentences.l1])
                  | succ k2 =>
                    have H := HA.out
                    clear HA
                    simp only [pomaderef02_Sentences.l1] at H
                    by_cases c15 : x12_2 ≥ 0
                    · rw [if_pos c15] at H
                      have c15b0 : decide (0 ≤ x12_2) = true := decide_eq_true c15
                      clear c15
                      by_cases c16 : 0 ≤ x12_2
                      · rw [if_pos c16] at H
                        have c16b0 : decide (0 ≤ x12_2) = true := decide_eq_true c16
                        clear c16
                        by_cases c17 : x12_2 < (t133.length : Int)
                        · rw [if_pos c17] at H
                          have c17b0 : decide (x12_2 < (t133.length : Int)) = true := decide_eq_true c17
                          clear c17
                          obtain ⟨y137, hy137⟩ : ∃ y_ : List Int, y_ = (([(wrap64 (97 + (rd t133 x12_2))) % 256] : List Int)) := ⟨_, rfl⟩
                          replace H : (if 1 + (strOfNums y137).size ≤ 9223372036854775807 then (if x11_2.toList = ([49] : List UInt8) then (pomaderef02_Sentences.l1 k2 a0 t128 x8_1 x9_1 t133 ((⟨#[33]⟩ : ByteArray) ++ (strOfNums y137)) (wrap64 (x12_2 - 1))) else (if 1 + ((⟨#[33]⟩ : ByteArray) ++ (strOfNums y137)).size ≤ 9223372036854775807 then (if ((⟨#[40]⟩ : ByteArray) ++ ((⟨#[33]⟩ : ByteArray) ++ (strOfNums y137))).size + 1 ≤ 9223372036854775807 then (if (((⟨#[40]⟩ : ByteArray) ++ ((⟨#[33]⟩ : ByteArray) ++ (strOfNums y137))) ++ (⟨#[38]⟩ : ByteArray)).size + x11_2.size ≤ 9223372036854775807 then (if ((((⟨#[40]⟩ : ByteArray) ++ ((⟨#[33]⟩ : ByteArray) ++ (strOfNums y137))) ++ (⟨#[38]⟩ : ByteArray)) ++ x11_2).size + 1 ≤ 9223372036854775807 then (pomaderef02_Sentences.l1 k2 a0 t128 x8_1 x9_1 t133 (((((⟨#[40]⟩ : ByteArray) ++ ((⟨#[33]⟩ : ByteArray) ++ (strOfNums y137))) ++ (⟨#[38]⟩ : ByteArray)) ++ x11_2) ++ (⟨#[41]⟩ : ByteArray)) (wrap64 (x12_2 - 1))) else (none)) else (none)) else (none)) else (none))) else (none)) = some (r1, r2) := by first | (rw [hy137]; with_reducible exact H) | (have H2_ := (Option.bind_some _ _).symm.trans H; rw [hy137]; with_reducible exact H2_) | (have H2_ := (Option.bind_some _ _).symm.trans H; with_reducible exact H2_) | with_reducible exact H | (rw [hy137]; exact H) | exact H
                          have Ny137 := Aside0.mk hy137
                          clear hy137
                          by_cases c18 : 1 + (strOfNums y137).size ≤ 9223372036854775807
                          · rw [if_pos c18] at H
                            have c18b0 := eq_true c18
                            have c18b1 : decide (1 + (strOfNums y137).size ≤ 9223372036854775807) = true := decide_eq_true c18
                            try have c18b2 : (9223372036854775807 < 1 + (strOfNums y137).size) = False := eq_false (Nat.not_lt.2 c18)
                            by_cases c19 : x11_2.toList = ([49] : List UInt8)
                            · rw [if_pos c19] at H
                              have c19b0 : (x11_2.toList == ([49] : List UInt8)) = true := beq_iff_eq.mpr c19
                              have c19b1 : (x11_2.toList != ([49] : List UInt8)) = false := bne_eq_false_iff_eq.mpr c19
                              clear c19
                              have H' := Aside0.mk H
                              clear H
                              have p136 : 0 ≤ (x12_2 : Int) := of_decide_eq_true (by first | (with_reducible assumption) | assumption)
                              have q136 : x12_2 < (t133.length : Int) := of_decide_eq_true (by first | (with_reducible assumption) | assumption)
                              obtain ⟨ad136, e136, hx136_0⟩ := Kd.at_int (Kd.R_reads' HO_10.out).2.2 x12_2 p136 q136
                              cases e136
                              replace p136 := eq_true p136
                              replace q136 := eq_true q136
                              go_wp2_with (first | ((with_reducible refine gate_dst (N := 48) rfl ?_); refine Kd.R_lit (Kd.int .u8) _ 5 ?hg (N := 48) ?hd (xs := ([(wrap64 (97 + (rd t133 x12_2))) % 256] : List Int)) (inner := [.int .u8 ((wrap64 (97 + (rd t133 x12_2))) % 256)]) (ok := fun _ => True) (okp := fun _ => True) ?hr ?hp (fun _ hk => hk) trivial (Below.refl _ _) (Nat.le_refl _) (by simp) ?_; (case hd => rfl); (case hg => rfl); (case hr => first | (go_simp; done) | (go_simp; rfl)); (case hp => exact (Reps.one (show Kd.M (Kd.int .u8) _ _ _ ((wrap64 (97 + (rd t133 x12_2))) % 256) [.int .u8 ((wrap64 (97 + (rd t133 x12_2))) % 256)] from rfl) (Reps.none _ _))); intro v138 w20 ho21 hb hg_ hnew_; clear hg_ hnew_; (first | rw [← Ny137.out] at ho21 | (simp only [Int.reduceToNat] at ho21; rw [← Ny137.out] at ho21)); have n0_ := Aside0.mk (Kd.R_below (by (with_reducible repeat (first | apply Kd.R_alloc | apply Kd.R_drewN | apply Kd.R_drew)); exact HO_6.out) hb); have n1_ := Aside0.mk (Kd.R_below (by (with_reducible repeat (first | apply Kd.R_alloc | apply Kd.R_drewN | apply Kd.R_drew)); exact HO_8.out) hb); have n2_ := Aside0.mk (Kd.R_below (by (with_reducible repeat (first | apply Kd.R_alloc | apply Kd.R_drewN | apply Kd.R_drew)); exact HO_10.out) hb); have n3_ := Aside0.mk (Kd.R_lower ho21 (below_size (by repeat (first | (with_reducible first | exact HB.out | apply below_alloc | apply pw_below_drewN | apply below_drew1) | exact HB.out)))); have n4_ := Aside0.mk (below_step (by repeat (first | (with_reducible first | exact HB.out | apply below_alloc | apply pw_below_drewN | apply below_drew1) | exact HB.out)) hb); clear HO_6; clear HO_8; clear HO_10; clear HB; have HO_6 := n0_; have HO_8 := n1_; have HO_10 := n2_; have HO139 := n3_; have HB := n4_; clear n0_ n1_ n2_ n3_ n4_; clear hb ho21; have hcv22 := own_string (P := Try.prog) Try.underlying58 Try.underlying5 Try.underlying9 (Kd.own_of_R HO139.out)))
                              go_roundg k2
                              case measure => have := HK1.out; have := HK2.out; omega
                              case rel => exact ⟨((⟨#[33]⟩ : ByteArray) ++ (strOfNums y137)), (wrap64 (x12_2 - 1)), (by first | rfl | (simp; done) | (simp [*]; done)), (by first | rfl | (simp; done) | (simp [*]; done)), H', ⟨by have := HK1.out; have := HK2.out; omega⟩, ⟨by (with_reducible repeat (first | apply Kd.R_alloc | apply Kd.R_drewN | apply Kd.R_drew)); exact HO_6.out⟩, ⟨by (with_reducible repeat (first | apply Kd.R_alloc | apply Kd.R_drewN | apply Kd.R_drew)); exact HO_8.out⟩, ⟨by (with_reducible repeat (first | apply Kd.R_alloc | apply Kd.R_drewN | apply Kd.R_drew)); exact HO_10.out⟩, ⟨by repeat (first | (with_reducible first | exact HB.out | apply below_alloc | apply pw_below_drewN | apply below_drew1) | exact HB.out)⟩⟩
                            · rw [if_neg c19] at H
                              have c19b0 : (x11_2.toList == ([49] : List UInt8)) = false := beq_eq_false_iff_ne.mpr c19
                              have c19b1 : (x11_2.toList != ([49] : List UInt8)) = true := bne_iff_ne.mpr c19
                              by_cases c23 : 1 + ((⟨#[33]⟩ : ByteArray) ++ (strOfNums y137)).size ≤ 9223372036854775807
                              · rw [if_pos c23] at H
                                have c23b0 := eq_true c23
                                have c23b1 : decide (1 + ((⟨#[33]⟩ : ByteArray) ++ (strOfNums y137)).size ≤ 9223372036854775807) = true := decide_eq_true c23
                                try have c23b2 : (9223372036854775807 < 1 + ((⟨#[33]⟩ : ByteArray) ++ (strOfNums y137)).size) = False := eq_false (Nat.not_lt.2 c23)
                                by_cases c24 : ((⟨#[40]⟩ : ByteArray) ++ ((⟨#[33]⟩ : ByteArray) ++ (strOfNums y137))).size + 1 ≤ 9223372036854775807
                                · rw [if_pos c24] at H
                                  have c24b0 := eq_true c24
                                  have c24b1 : decide (((⟨#[40]⟩ : ByteArray) ++ ((⟨#[33]⟩ : ByteArray) ++ (strOfNums y137))).size + 1 ≤ 9223372036854775807) = true := decide_eq_true c24
                                  try have c24b2 : (9223372036854775807 < ((⟨#[40]⟩ : ByteArray) ++ ((⟨#[33]⟩ : ByteArray) ++ (strOfNums y137))).size + 1) = False := eq_false (Nat.not_lt.2 c24)
                                  by_cases c25 : (((⟨#[40]⟩ : ByteArray) ++ ((⟨#[33]⟩ : ByteArray) ++ (strOfNums y137))) ++ (⟨#[38]⟩ : ByteArray)).size + x11_2.size ≤ 9223372036854775807
                                  · rw [if_pos c25] at H
                                    have c25b0 := eq_true c25
                                    have c25b1 : decide ((((⟨#[40]⟩ : ByteArray) ++ ((⟨#[33]⟩ : ByteArray) ++ (strOfNums y137))) ++ (⟨#[38]⟩ : ByteArray)).size + x11_2.size ≤ 9223372036854775807) = true := decide_eq_true c25
                                    try have c25b2 : (9223372036854775807 < (((⟨#[40]⟩ : ByteArray) ++ ((⟨#[33]⟩ : ByteArray) ++ (strOfNums y137))) ++ (⟨#[38]⟩ : ByteArray)).size + x11_2.size) = False := eq_false (Nat.not_lt.2 c25)
                                    by_cases c26 : ((((⟨#[40]⟩ : ByteArray) ++ ((⟨#[33]⟩ : ByteArray) ++ (strOfNums y137))) ++ (⟨#[38]⟩ : ByteArray)) ++ x11_2).size + 1 ≤ 9223372036854775807
                                    · rw [if_pos c26] at H
                                      have c26b0 := eq_true c26
                                      have c26b1 : decide (((((⟨#[40]⟩ : ByteArray) ++ ((⟨#[33]⟩ : ByteArray) ++ (strOfNums y137))) ++ (⟨#[38]⟩ : ByteArray)) ++ x11_2).size + 1 ≤ 9223372036854775807) = true := decide_eq_true c26
                                      try have c26b2 : (9223372036854775807 < ((((⟨#[40]⟩ : ByteArray) ++ ((⟨#[33]⟩ : ByteArray) ++ (strOfNums y137))) ++ (⟨#[38]⟩ : ByteArray)) ++ x11_2).size + 1) = False := eq_false (Nat.not_lt.2 c26)
                                      have hs33 : ((⟨#[33]⟩ : ByteArray) ++ (strOfNums y137)).size = 1 + (strOfNums y137).size := by rw [ByteArray.size_append]; rfl
                                      have hs40 : ((⟨#[40]⟩ : ByteArray) ++ ((⟨#[33]⟩ : ByteArray) ++ (strOfNums y137))).size = 1 + (1 + (strOfNums y137).size) := by rw [ByteArray.size_append, hs33]; rfl
                                      have hs38 : (((⟨#[40]⟩ : ByteArray) ++ ((⟨#[33]⟩ : ByteArray) ++ (strOfNums y137))) ++ (⟨#[38]⟩ : ByteArray)).size = 1 + (1 + (strOfNums y137).size) + 1 := by rw [ByteArray.size_append, hs40]; rfl
                                      have hsx : ((((⟨#[40]⟩ : ByteArray) ++ ((⟨#[33]⟩ : ByteArray) ++ (strOfNums y137))) ++ (⟨#[38]⟩ : ByteArray)) ++ x11_2).size = 1 + (1 + (strOfNums y137).size) + 1 + x11_2.size := by rw [ByteArray.size_append, hs38]
                                      have d23 : (9223372036854775807 < 1 + (1 + (strOfNums y137).size)) = False := eq_false (by rw [hsx] at c26; omega)
                                      have d24 : (9223372036854775807 < 1 + (1 + (strOfNums y137).size) + 1) = False := eq_false (by rw [hsx] at c26; omega)
                                      have d25 : (9223372036854775807 < 1 + (1 + (strOfNums y137).size) + 1 + x11_2.size) = False := eq_false (by rw [hsx] at c26; omega)
                                      have d26 : (9223372036854775807 < 1 + (1 + (strOfNums y137).size) + 1 + x11_2.size + 1) = False := eq_false (by rw [hsx] at c26; omega)
                                      clear hs33 hs40 hs38 hsx
                                      have H' := Aside0.mk H
                                      clear H
                                      have p136 : 0 ≤ (x12_2 : Int) := of_decide_eq_true (by first | (with_reducible assumption) | assumption)
                                      have q136 : x12_2 < (t133.length : Int) := of_decide_eq_true (by first | (with_reducible assumption) | assumption)
                                      obtain ⟨ad136, e136, hx136_0⟩ := Kd.at_int (Kd.R_reads' HO_10.out).2.2 x12_2 p136 q136
                                      cases e136
                                      replace p136 := eq_true p136
                                      replace q136 := eq_true q136
                                      go_wp2_with (first | ((with_reducible refine gate_dst (N := 48) rfl ?_); refine Kd.R_lit (Kd.int .u8) _ 5 ?hg (N := 48) ?hd (xs := ([(wrap64 (97 + (rd t133 x12_2))) % 256] : List Int)) (inner := [.int .u8 ((wrap64 (97 + (rd t133 x12_2))) % 256)]) (ok := fun _ => True) (okp := fun _ => True) ?hr ?hp (fun _ hk => hk) trivial (Below.refl _ _) (Nat.le_refl _) (by simp) ?_; (case hd => rfl); (case hg => rfl); (case hr => first | (go_simp; done) | (go_simp; rfl)); (case hp => exact (Reps.one (show Kd.M (Kd.int .u8) _ _ _ ((wrap64 (97 + (rd t133 x12_2))) % 256) [.int .u8 ((wrap64 (97 + (rd t133 x12_2))) % 256)] from rfl) (Reps.none _ _))); intro v138 w27 ho28 hb hg_ hnew_; clear hg_ hnew_; (first | rw [← Ny137.out] at ho28 | (simp only [Int.reduceToNat] at ho28; rw [← Ny137.out] at ho28)); have n0_ := Aside0.mk (Kd.R_below (by (with_reducible repeat (first | apply Kd.R_alloc | apply Kd.R_drewN | apply Kd.R_drew)); exact HO_6.out) hb); have n1_ := Aside0.mk (Kd.R_below (by (with_reducible repeat (first | apply Kd.R_alloc | apply Kd.R_drewN | apply Kd.R_drew)); exact HO_8.out) hb); have n2_ := Aside0.mk (Kd.R_below (by (with_reducible repeat (first | apply Kd.R_alloc | apply Kd.R_drewN | apply Kd.R_drew)); exact HO_10.out) hb); have n3_ := Aside0.mk (Kd.R_lower ho28 (below_size (by repeat (first | (with_reducible first | exact HB.out | apply below_alloc | apply pw_below_drewN | apply below_drew1) | exact HB.out)))); have n4_ := Aside0.mk (below_step (by repeat (first | (with_reducible first | exact HB.out | apply below_alloc | apply pw_below_drewN | apply below_drew1) | exact HB.out)) hb); clear HO_6; clear HO_8; clear HO_10; clear HB; have HO_6 := n0_; have HO_8 := n1_; have HO_10 := n2_; have HO139 := n3_; have HB := n4_; clear n0_ n1_ n2_ n3_ n4_; clear hb ho28; have hcv29 := own_string (P := Try.prog) Try.underlying58 Try.underlying5 Try.underlying9 (Kd.own_of_R HO139.out)))
                                      go_roundg k2
                                      case measure => have := HK1.out; have := HK2.out; omega
                                      case rel => exact ⟨(((((⟨#[40]⟩ : ByteArray) ++ ((⟨#[33]⟩ : ByteArray) ++ (strOfNums y137))) ++ (⟨#[38]⟩ : ByteArray)) ++ x11_2) ++ (⟨#[41]⟩ : ByteArray)), (wrap64 (x12_2 - 1)), (by first | rfl | (simp; done) | (simp [*]; done)), (by first | rfl | (simp; done) | (simp [*]; done)), H', ⟨by have := HK1.out; have := HK2.out; omega⟩, ⟨by (with_reducible repeat (first | apply Kd.R_alloc | apply Kd.R_drewN | apply Kd.R_drew)); exact HO_6.out⟩, ⟨by (with_reducible repeat (first | apply Kd.R_alloc | apply Kd.R_drewN | apply Kd.R_drew)); exact HO_8.out⟩, ⟨by (with_reducible repeat (first | apply Kd.R_alloc | apply Kd.R_drewN | apply Kd.R_drew)); exact HO_10.out⟩, ⟨by repeat (first | (with_reducible first | exact HB.out | apply below_alloc | apply pw_below_drewN | apply below_drew1) | exact HB.out)⟩⟩
                                    · rw [if_neg c26] at H
                                      exact absurd H (by simp)
                                  · rw [if_neg c25] at H
                                    exact absurd H (by simp)
                                · rw [if_neg c24] at H
                                  exact absurd H (by simp)
                              · rw [if_neg c23] at H
                                exact absurd H (by simp)
                          · rw [if_neg c18] at H
                            exact absurd H (by simp)
                        · rw [if_neg c17] at H
                          exact absurd H (by simp)
                      · rw [if_neg c16] at H
                        exact absurd H (by simp)
                    · rw [if_neg c15] at H
                      have c15b0 : decide (0 ≤ x12_2) = false := decide_eq_false c15
                      clear c15
                      by_cases c30 : (x11_2.size : Int) > 40
                      · rw [if_pos c30] at H
                        have c30b0 : decide (40 < (x11_2.size : Int)) = true := decide_eq_true c30
                        have c30b1 : decide (40 < x11_2.size) = true := decide_eq_true (by omega)
                        clear c30
                        simp only [Option.some.injEq, Prod.mk.injEq] at H
                        obtain ⟨rfl, rfl⟩ := H
                        go_wp2
                        go_ret2
                        exact ⟨_, by first | rfl | (simp [errW_none, errW_some] <;> rfl) | (simp [*, errW_none, errW_some] <;> rfl), by first | exact Kd.R_nil _ _ _ _ _ | exact Kd.N_nil _ _ _ _ _ | exact Kd.V_nil _ _ _ _ _ | exact Kd.Q_nil _ _ _ _ _ | exact Kd.S_nil _ _ _ _ _, by repeat (first | (with_reducible first | exact HB.out | apply below_alloc | apply pw_below_drewN | apply below_drew1) | exact HB.out)⟩
                      · rw [if_neg c30] at H
                        have c30b0 : decide (40 < (x11_2.size : Int)) = false := decide_eq_false c30
                        have c30b1 : decide (40 < x11_2.size) = false := decide_eq_false (by omega)
                        clear c30
                        by_cases c31 : x8_1.length < 8796093022208
                        · rw [if_pos c31] at H
                          have LMc31 := Aside0.mk c31
                          clear c31
                          obtain ⟨y140, hy140⟩ : ∃ y_ : List ByteArray, y_ = (x8_1 ++ [x11_2]) := ⟨_, rfl⟩
                          replace H : (pomaderef02_Sentences.l0 k2 a0 t128 y140 (wrap64 (x9_1 + 1))) = some (r1, r2) := by first | (rw [hy140]; with_reducible exact H) | (have H2_ := (Option.bind_some _ _).symm.trans H; rw [hy140]; with_reducible exact H2_) | (have H2_ := (Option.bind_some _ _).symm.trans H; with_reducible exact H2_) | with_reducible exact H | (rw [hy140]; exact H) | exact H
                          have Ny140 := Aside0.mk hy140
                          clear hy140
                          have H' := Aside0.mk H
                          clear H
                          go_wp2_with (first | ((with_reducible refine gate_builtin (b := .append) (xs := #[.tmp 63, .tmp 65]) rfl ?_); at_builtin; refine Kd.R_append Kd.string (w0 := w) w.heap.size rfl (.tmp 63) (.tmp 65) 31 9 (.string ⟨#[]⟩) 16 rfl Try.underlying31 info9 rfl (by decide) (by omega) u8 x8_1 x11_2 [.string x11_2] (fun _ => True) (fun _ => False) rfl rfl ?aP (fun _ hk => hk.elim) ?aF ?aO ?aB ?aS ?aL ?_; (case aP => exact rfl); (case aB => exact (by repeat (first | (with_reducible first | exact HB.out | apply below_alloc | apply pw_below_drewN | apply below_drew1) | exact HB.out))); (case aF => exact (fun _ _ => trivial)); (case aO => exact (by (with_reducible repeat (first | apply Kd.R_alloc | apply Kd.R_drewN | apply Kd.R_drew)); exact HO_8.out)); (case aS => exact (below_size (by repeat (first | (with_reducible first | exact HB.out | apply below_alloc | apply pw_below_drewN | apply below_drew1) | exact HB.out)))); (case aL => have := LMc31.out; omega); intro v141 w32 ho hb hg hat; rw [← Ny140.out] at ho; have n0_ := Aside0.mk (Kd.R_over' (by (with_reducible repeat (first | apply Kd.R_alloc | apply Kd.R_drewN | apply Kd.R_drew)); exact HO_6.out) (Kd.R_typed (by (with_reducible repeat (first | apply Kd.R_alloc | apply Kd.R_drewN | apply Kd.R_drew)); exact HO_8.out)) (by decide) hg); have n1_ := Aside0.mk (Kd.R_over' (by (with_reducible repeat (first | apply Kd.R_alloc | apply Kd.R_drewN | apply Kd.R_drew)); exact HO_10.out) (Kd.R_typed (by (with_reducible repeat (first | apply Kd.R_alloc | apply Kd.R_drewN | apply Kd.R_drew)); exact HO_8.out)) (by decide) hg); have n2_ := Aside0.mk (hb); have n3_ := Aside0.mk (ho); clear HO_6; clear HO_10; clear HB; clear HO_8; have HO_6 := n0_; have HO_10 := n1_; have HB := n2_; have HO142 := n3_; clear n0_ n1_ n2_ n3_; clear ho hb hg hat))
                          go_roundg k2
                          case measure => have := HK1.out; have := HK2.out; omega
                          case rel => exact ⟨(y140), (wrap64 (x9_1 + 1)), (by first | rfl | (simp; done) | (simp [*]; done)), H', ⟨by have := HK1.out; have := HK2.out; omega⟩, ⟨by (with_reducible repeat (first | apply Kd.R_alloc | apply Kd.R_drewN | apply Kd.R_drew)); exact Kd.R_mono HO_6.out (fun _ hk => trivial)⟩, ⟨by (with_reducible repeat (first | apply Kd.R_alloc | apply Kd.R_drewN | apply Kd.R_drew)); exact HO142.out⟩, ⟨by repeat (first | (with_reducible first | exact HB.out | apply below_alloc | apply pw_below_drewN | apply below_drew1) | exact HB.out)⟩⟩
                        · rw [if_neg c31] at H
                          exact absurd H (by simp)
              · rw [if_neg c10] at H
                exact absurd H (by simp)
            · rw [if_neg c9] at H
              exact absurd H (by simp)
          · rw [if_neg c8] at H
            have c8b0 : decide (x9_1 < a0) = false := decide_eq_false c8
            clear c8
            simp only [Option.some.injEq, Prod.mk.injEq] at H
            obtain ⟨rfl, rfl⟩ := H
            go_wp2
            go_ret2
            exact ⟨_, by first | rfl | (simp [errW_none, errW_some] <;> rfl) | (simp [*, errW_none, errW_some] <;> rfl), by (with_reducible repeat (first | apply Kd.R_alloc | apply Kd.R_drewN | apply Kd.R_drew)); exact HO_8.out, by repeat (first | (with_reducible first | exact HB.out | apply below_alloc | apply pw_below_drewN | apply below_drew1) | exact HB.out)⟩
  · rw [if_neg c4] at H
    have c4b0 : (t129 == 0) = false := beq_eq_false_iff_ne.mpr c4
    have c4b1 : (t129 != 0) = true := bne_iff_ne.mpr c4
    simp only [Option.some.injEq, Prod.mk.injEq] at H
    obtain ⟨rfl, rfl⟩ := H
    go_enter Try.func20, Try.ntmps20
    go_wp2_with (first | ((with_reducible refine gate_callee (f := 50) rfl ?_); refine goesL_ (some 17) rfl rfl Try.func50 (by kernel_rfl) rfl #[.int .i64 a0, .slice A1 l1.length c1] rfl (by (try simp only [List.map_toArray, List.map_cons, List.map_nil]); first | done | rfl | (simp only [List.length_drop, List.length_take]; rfl)) ?_; (with_reducible refine (pomaderef02_Town.calls k a0 _ _ l1 t128 t129 _ ?side1 ?side2 A3.out).mono ?_); (case side1 => repeat (first | exact HR1.out | (with_reducible refine Kd.C_alloc ?_ _) | (with_reducible refine Kd.C_drewN ?_ _) | (with_reducible refine Kd.C_drew ?_))); (case side2 => exact HC1.out); rintro e w33 ⟨v130, rfl, ho0, hb⟩; refine ⟨_, rfl, ?_⟩; have n0_ := Aside0.mk (Kd.R_lower ho0 (below_size (by repeat (first | (with_reducible first | exact HB.out | apply below_alloc | apply pw_below_drewN | apply below_drew1) | exact HB.out)))); have n1_ := Aside0.mk (below_step (by repeat (first | (with_reducible first | exact HB.out | apply below_alloc | apply pw_below_drewN | apply below_drew1) | exact HB.out)) hb); clear HB; have HO131 := n0_; have HB := n1_; clear n0_ n1_; (try clear hb); (try clear hb2); (try clear hk); (try clear hi); (try clear ho0)))
    go_ret2
    exact ⟨_, by first | rfl | (simp [errW_none, errW_some] <;> rfl) | (simp [*, errW_none, errW_some] <;> rfl), by first | exact Kd.R_nil _ _ _ _ _ | exact Kd.N_nil _ _ _ _ _ | exact Kd.V_nil _ _ _ _ _ | exact Kd.Q_nil _ _ _ _ _ | exact Kd.S_nil _ _ _ _ _, by repeat (first | (with_reducible first | exact HB.out | apply below_alloc | apply pw_below_drewN | apply below_drew1) | exact HB.out)⟩

end Go.Proofs.Ytmobefgnkiboaaa.Im
