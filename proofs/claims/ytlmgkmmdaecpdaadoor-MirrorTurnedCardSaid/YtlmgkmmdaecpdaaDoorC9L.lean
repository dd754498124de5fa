/- Further parts of the same walk: contracts of the functions that the law reaches, each under the conditions that it states. -/
import Derived.Test.YtlmgkmmdaecpdaaDoorC9K
import Derived.Maps.RangeWalk
namespace Go.Proofs.YtlmgkmmdaecpdaaDoor.Im
open Go.RowKit Go.Proofs.YtlmgkmmdaecpdaaDoorW.PrintWords Go.Proofs.YtlmgkmmdaecpdaaDoorW.PrintLast Go.Proofs.YtlmgkmmdaecpdaaDoorW.PrintMore Go.Proofs.YtlmgkmmdaecpdaaDoor.Mi
set_option linter.unusedVariables false
set_option linter.unusedSimpArgs false
def proC (n : Nat) (l : List UInt8) (i j : Nat) : Bool := !((j == 0 && colT n l i j == 50) || (i == 0 && colT n l i j == 49) || (i + j == n && colT n l i j == 48))
def proB (n : Nat) (l : List UInt8) : Bool := (List.range (n + 1)).all fun i => (List.range (n + 1 - i)).all fun j => proC n l i j
theorem proB_iff {n : Nat} {l : List UInt8} : proB n l = true ↔ ∀ i j, i + j ≤ n → proC n l i j = true := by
  unfold proB
  rw [List.all_eq_true]
  constructor
  · intro h i j hij
    exact List.all_eq_true.1 (h i (List.mem_range.2 (by omega))) j (List.mem_range.2 (by omega))
  · intro h i hi
    have := List.mem_range.1 hi
    refine List.all_eq_true.2 fun j hj => ?_
    have := List.mem_range.1 hj
    exact h i j (by omega)
theorem grown_of {w w' : World} {r : Option Nat} (h : Below w.heap.size w w') : w.grownBy w' r := ⟨h.os, h.tape, h.output, h.size, fun i hi _ => h.block i hi⟩
set_option maxHeartbeats 6400000 in
set_option maxRecDepth 100000 in
theorem tproper_any (g n mb m : Nat) (l : List UInt8) (D : DataW Unit) (w : World) (h : Tri w g n mb m l D) :
    Calls Tryd.prog 54 #[.pointer (some ⟨g, 0, none⟩)] w fun e w' => e = .returned (.bool (proB n l)) ∧ Below w.heap.size w w' := by
  have HT := Aside0.mk h
  have c0 : w.cell? ⟨g, 0, none⟩ = some (.int .i64 n) := h.hd.cell 0
  have c1 : w.cell? ⟨g, 1, none⟩ = some (.map (some mb)) := h.hd.cell 1
  have hown := h.own
  obtain ⟨r, hr⟩ : ∃ r, w.heap.size = r := ⟨_, rfl⟩
  clear h
  go_enter Tryd.func54, Tryd.ntmps54
  go_wp2_with (first
    | (at_range; refine wpList_range_own _ rfl _ 115 rfl 95 5 lawP Tryd.underlying115 _ mb m _ rfl hown ?_; intro w0 hrg0 hg0 hs0)
    | go_in)
  go_frame
  rw [hr] at hrg0 ⊢
  have HR0 := Aside0.mk hrg0
  have HG0 := Aside0.mk hg0
  have HS0 := Aside0.mk hs0
  clear hrg0 hg0 hs0 hown
  go_loopw [2] (fun _ wr => ∃ (left : Lit → Bool) (cnt : Nat), Aside0 (wr.ranges Tryd.prog 95 (plainElem Tryd.prog 5) mb r m D left cnt) ∧ Aside0 (∀ i j, i + j ≤ n → left (kP i j) = false → proC n l i j = true) ∧ Aside0 (∀ kl, left kl = true → Maps.has D kl = true) ∧ Aside0 (Below r w wr)) (fun _ wr => wr.rangeLeft mb r)
  case atStart =>
    refine ⟨_, _, ⟨HR0.out⟩, ⟨fun i j hij hf => ?_⟩, ⟨fun kl h => h⟩, ⟨?_⟩⟩
    · rw [HT.out.all.has i j hij (by unfold Bef; omega)] at hf
      cases hf
    · exact (Keep.of_grown (p := fun i => i < r) (b := r) (HG0.out.but _) (Nat.lt_irrefl r)).below (Nat.le_of_eq hr.symm) (fun i hi => hi)
  case round =>
    obtain ⟨left, cnt, HRG, HD, HL, HBw⟩ := hrel
    have hrg := HRG.out
    go_wp2_with (first
      | (at_next; refine wpList_next_ranges _ rfl _ rfl 95 lawP (plainElem Tryd.prog 5) (fun v : Value => v) (Value.int .u8) (fun key kl h => ⟨key, rfl⟩) (fun v y h => by obtain ⟨c, hc, _⟩ := plainElem_int_inv Tryd.underlying5 h; exact ⟨c, hc⟩) mb r m D left cnt rfl hrg ?_ ?_)
      | go_in)
    · intro _ hl0
      have HL0 := Aside0.mk hl0
      clear hrg hl0
      go_wp2_with fail
      go_ret
      refine ⟨by rw [proB_iff.2 fun i j hij => HD.out i j hij (HL0.out _)]; rfl, ?_⟩
      rw [hr]
      exact HBw.out
    · intro x c kl y y2 w1 cnt1 hkey hlk hRc hat hrg1 hlt hg1 hs1 hen
      obtain ⟨i, j, hij, _, rfl⟩ := HT.out.all.only kl (HL.out kl hlk)
      have hi100 : i ≤ 100 := by have := HT.out.n20; omega
      have hj100 : j ≤ 100 := by have := HT.out.n20; omega
      obtain rfl := arr_inj arrP hkey (key_P hi100 hj100)
      obtain ⟨c', hc', hy, _⟩ := plainElem_int_inv Tryd.underlying5 hRc
      obtain rfl : c = c' := by injection hc'
      obtain ⟨rfl, rfl⟩ := Prod.mk.inj hy
      have hcc : c = colT n l i j := by
        have h1 := HT.out.all.at_ i j hij (by unfold Bef; omega) (.lit (.int .u8 0))
        rw [hat] at h1
        exact (Lit.int.inj (DataW.lit.inj h1)).2
      have HP : Aside0 (proC n l i j = (!(((j : Int) == 0 && c == 50) || ((i : Int) == 0 && c == 49) || ((i : Int) + (j : Int) == (n : Int) && c == 48)))) := ⟨by
        subst hcc
        unfold proC
        have e1 : ((j : Int) == 0) = (j == 0) := by rw [Bool.eq_iff_iff, beq_iff_eq, beq_iff_eq]; omega
        have e2 : ((i : Int) == 0) = (i == 0) := by rw [Bool.eq_iff_iff, beq_iff_eq, beq_iff_eq]; omega
        have e3 : ((i : Int) + (j : Int) == (n : Int)) = (i + j == n) := by rw [Bool.eq_iff_iff, beq_iff_eq, beq_iff_eq]; omega
        rw [e1, e2, e3]⟩
      have HIJ := Aside0.mk hij
      have hbr : Below r w w1 := by
        have h1 : Below r wr w1 := (Keep.of_grown (p := fun i => i < r) hg1 (Nat.lt_irrefl r)).below (Nat.le_of_lt hrg.lt) (fun i hi => hi)
        exact HBw.out.trans h1
      have hgl : g < r := by rw [← hr]; exact HT.out.hd.lt
      have hcn : w1.cell? ⟨g, 0, none⟩ = some (.int .i64 n) := (Blk.later HT.out.hd (hr.symm ▸ hbr)).cell 0
      have HRG1 := Aside0.mk hrg1
      have HLT := Aside0.mk hlt
      obtain ⟨I, hI⟩ : ∃ I : Int, (i : Int) = I := ⟨_, rfl⟩
      obtain ⟨J, hJ⟩ : ∃ J : Int, (j : Int) = J := ⟨_, rfl⟩
      have hIb : 0 ≤ I ∧ I ≤ 100 := by omega
      have hJb : 0 ≤ J ∧ J ≤ 100 := by omega
      obtain ⟨I0, I1⟩ := hIb
      obtain ⟨J0, J1⟩ := hJb
      rw [hI, hJ] at hen HP ⊢
      clear hrg hrg1 hlt hkey hlk hRc hat hcc hij hi100 hj100 hg1 hs1 hI hJ
      go_wp2_with fail
      have HBr1 := Aside0.mk hbr
      obtain ⟨b2, hb2⟩ : ∃ b2, w1.heap.size = b2 := ⟨_, rfl⟩
      have hb3 : Below w1.heap.size w1 (w1.alloc (.cells #[.int .i64 I, .int .i64 J] 95)) := below_alloc (Below.refl _ _) _
      have k0 : (w1.alloc (.cells #[.int .i64 I, .int .i64 J] 95)).cell? ⟨b2, 0, none⟩ = some (.int .i64 I) := hb2 ▸ (Blk.new w1 95 #[.int .i64 I, .int .i64 J]).cell 0
      have k1 : (w1.alloc (.cells #[.int .i64 I, .int .i64 J] 95)).cell? ⟨b2, 1, none⟩ = some (.int .i64 J) := hb2 ▸ (Blk.new w1 95 #[.int .i64 I, .int .i64 J]).cell 1
      have k2 : (w1.alloc (.cells #[.int .i64 I, .int .i64 J] 95)).cell? ⟨g, 0, none⟩ = some (.int .i64 n) := (hb3.cell (World.block_lt_of_cell? w1 _ hcn)).trans hcn
      have HB3 := Aside0.mk hb3
      rw [hb2]
      generalize w1.alloc (.cells #[.int .i64 I, .int .i64 J] 95) = W at *
      have hrl : r ≤ w1.heap.size := Nat.le_of_lt HRG1.out.lt
      have HBE : Aside0 (∀ nq, Below r w (W.drewN nq)) := ⟨fun nq => pw_below_drewN (below_then HBr1.out hrl hb3) nq⟩
      have HRW : Aside0 (∀ nq, (W.drewN nq).ranges Tryd.prog 95 (plainElem Tryd.prog 5) mb r m D (fun z => left z && !z.sameKey (kP i j)) cnt1) := ⟨fun nq => HRG1.out.kept (row := none) (grown_of (pw_below_drewN hb3 nq)) (by simp) (by simp)⟩
      have HLE : Aside0 (∀ nq, (W.drewN nq).rangeLeft mb r = cnt1) := ⟨fun nq => (HRW.out nq).left_eq⟩
      have HF : Aside0 (proC n l i j = false → proB n l = false) := ⟨fun hp => by
        cases hq : proB n l with
        | false => rfl
        | true => rw [proB_iff.1 hq i j HIJ.out] at hp; cases hp⟩
      have HREL : Aside0 (proC n l i j = true → ∀ nq, ∃ (left : Lit → Bool) (cnt : Nat), Aside0 ((W.drewN nq).ranges Tryd.prog 95 (plainElem Tryd.prog 5) mb r m D left cnt) ∧ Aside0 (∀ i j, i + j ≤ n → left (kP i j) = false → proC n l i j = true) ∧ Aside0 (∀ kl, left kl = true → Maps.has D kl = true) ∧ Aside0 (Below r w (W.drewN nq))) := ⟨fun hp nq =>
        ⟨_, _, ⟨HRW.out nq⟩, ⟨fun a b hab hl => by
          by_cases e : left (kP a b) = true
          · have h1 : (kP a b).sameKey (kP i j) = true := by simpa [e] using hl
            have h2 : kP a b = kP i j := WideAt.sameKey_eq h1
            have n20 := HT.out.n20
            have hij' := HIJ.out
            obtain ⟨rfl, rfl⟩ := kP_inj (by omega) (by omega) (by omega) (by omega) h2
            exact hp
          · exact HD.out a b hab (by simpa using e)⟩, ⟨fun kl hl => HL.out kl (by simp at hl; exact hl.1)⟩, ⟨HBE.out nq⟩⟩⟩
      have HLT' : Aside0 (cnt1 < wr.rangeLeft mb r) := ⟨by rw [HRG.out.left_eq]; exact HLT.out⟩
      clear hbr hgl hcn hb3 hrl hen
      rcases Bool.eq_false_or_eq_true (J == 0) with q0 | q0
      · rcases Bool.eq_false_or_eq_true (c == 50) with q1 | q1
        · skip
          go_quiet (fail)
          go_wp2_with fail
          go_ret
          exact ⟨by rw [HF.out (by rw [HP.out]; simp [q0, q1])]; rfl, hr ▸ HBE.out nq⟩
        · skip
          rcases Bool.eq_false_or_eq_true (I == 0) with q2 | q2
          · rcases Bool.eq_false_or_eq_true (c == 49) with q3 | q3
            · skip
              go_quiet (fail)
              go_wp2_with fail
              go_ret
              exact ⟨by rw [HF.out (by rw [HP.out]; simp [q0, q1, q2, q3])]; rfl, hr ▸ HBE.out nq⟩
            · skip
              rcases Bool.eq_false_or_eq_true (I + J == (n : Int)) with q4 | q4
              · rcases Bool.eq_false_or_eq_true (c == 48) with q5 | q5
                · skip
                  go_quiet (fail)
                  go_wp2_with fail
                  go_ret
                  exact ⟨by rw [HF.out (by rw [HP.out]; simp [q0, q1, q2, q3, q4, q5])]; rfl, hr ▸ HBE.out nq⟩
                · skip
                  go_quiet (fail)
                  go_wp2_with fail
                  go_roundw
                  case rel => exact HREL.out (by rw [HP.out]; simp [q0, q1, q2, q3, q4, q5]) nq
                  case measure => rw [HLE.out nq]; exact HLT'.out
              · skip
                go_quiet (fail)
                go_wp2_with fail
                go_roundw
                case rel => exact HREL.out (by rw [HP.out]; simp [q0, q1, q2, q3, q4]) nq
                case measure => rw [HLE.out nq]; exact HLT'.out
          · skip
            rcases Bool.eq_false_or_eq_true (I + J == (n : Int)) with q4 | q4
            · rcases Bool.eq_false_or_eq_true (c == 48) with q5 | q5
              · skip
                go_quiet (fail)
                go_wp2_with fail
                go_ret
                exact ⟨by rw [HF.out (by rw [HP.out]; simp [q0, q1, q2, q4, q5])]; rfl, hr ▸ HBE.out nq⟩
              · skip
                go_quiet (fail)
                go_wp2_with fail
                go_roundw
                case rel => exact HREL.out (by rw [HP.out]; simp [q0, q1, q2, q4, q5]) nq
                case measure => rw [HLE.out nq]; exact HLT'.out
            · skip
              go_quiet (fail)
              go_wp2_with fail
              go_roundw
              case rel => exact HREL.out (by rw [HP.out]; simp [q0, q1, q2, q4]) nq
              case measure => rw [HLE.out nq]; exact HLT'.out
      · skip
        rcases Bool.eq_false_or_eq_true (I == 0) with q2 | q2
        · rcases Bool.eq_false_or_eq_true (c == 49) with q3 | q3
          · skip
            go_quiet (fail)
            go_wp2_with fail
            go_ret
            exact ⟨by rw [HF.out (by rw [HP.out]; simp [q0, q2, q3])]; rfl, hr ▸ HBE.out nq⟩
          · skip
            rcases Bool.eq_false_or_eq_true (I + J == (n : Int)) with q4 | q4
            · rcases Bool.eq_false_or_eq_true (c == 48) with q5 | q5
              · skip
                go_quiet (fail)
                go_wp2_with fail
                go_ret
                exact ⟨by rw [HF.out (by rw [HP.out]; simp [q0, q2, q3, q4, q5])]; rfl, hr ▸ HBE.out nq⟩
              · skip
                go_quiet (fail)
                go_wp2_with fail
                go_roundw
                case rel => exact HREL.out (by rw [HP.out]; simp [q0, q2, q3, q4, q5]) nq
                case measure => rw [HLE.out nq]; exact HLT'.out
            · skip
              go_quiet (fail)
              go_wp2_with fail
              go_roundw
              case rel => exact HREL.out (by rw [HP.out]; simp [q0, q2, q3, q4]) nq
              case measure => rw [HLE.out nq]; exact HLT'.out
        · skip
          rcases Bool.eq_false_or_eq_true (I + J == (n : Int)) with q4 | q4
          · rcases Bool.eq_false_or_eq_true (c == 48) with q5 | q5
            · skip
              go_quiet (fail)
              go_wp2_with fail
              go_ret
              exact ⟨by rw [HF.out (by rw [HP.out]; simp [q0, q2, q4, q5])]; rfl, hr ▸ HBE.out nq⟩
            · skip
              go_quiet (fail)
              go_wp2_with fail
              go_roundw
              case rel => exact HREL.out (by rw [HP.out]; simp [q0, q2, q4, q5]) nq
              case measure => rw [HLE.out nq]; exact HLT'.out
          · skip
            go_quiet (fail)
            go_wp2_with fail
            go_roundw
            case rel => exact HREL.out (by rw [HP.out]; simp [q0, q2, q4]) nq
            case measure => rw [HLE.out nq]; exact HLT'.out
end Go.Proofs.YtlmgkmmdaecpdaaDoor.Im

namespace Go.Proofs.YtlmgkmmdaecpdaaDoor.Im
open Go.RowKit Go.Proofs.YtlmgkmmdaecpdaaDoorW.PrintWords Go.Proofs.YtlmgkmmdaecpdaaDoorW.PrintLast Go.Proofs.YtlmgkmmdaecpdaaDoorW.PrintMore Go.Proofs.YtlmgkmmdaecpdaaDoor.Mi
set_option linter.unusedVariables false
def proR (n : Int) (s : ByteArray) : Bool := decide (triE n s = 0) && proB n.toNat s.data.toList
set_option maxHeartbeats 3200000 in
set_option maxRecDepth 100000 in
theorem proper_call (n : Int) (s : ByteArray) (w : World) (hs : s.size ≤ 9223372036854775807) :
    Calls Tryd.prog 25 #[.int .i64 n, .string s] w fun e w' => e = .returned (.tuple #[.bool (proR n s), .int .i64 (triE n s)]) ∧ Below w.heap.size w w' := by
  have HO := Aside0.mk (of_any n s w hs)
  clear hs
  by_cases hE : triE n s = 0
  · have hp : proR n s = proB n.toNat s.data.toList := by unfold proR; rw [decide_eq_true hE]; rfl
    have HE := Aside0.mk hE
    rw [hp, hE]
    clear hE hp
    go_enter Tryd.func25, Tryd.ntmps25
    go_wp2_with fail
    refine HO.out.mono ?_
    rintro e w1 ⟨hb1, h1⟩
    rw [if_pos HE.out] at h1
    obtain ⟨g, mb, m, D, rfl, ht, _, _⟩ := h1
    have HT := Aside0.mk ht
    have HB := Aside0.mk hb1
    clear hb1 ht HO HE
    go_wp2_with fail
    refine (tproper_any g _ mb m _ D w1 HT.out).mono ?_
    rintro e w2 ⟨rfl, hb2⟩
    have HB2 := Aside0.mk (below_then HB.out HB.out.size hb2)
    clear hb2
    go_wp2_with fail
    go_ret2
    exact ⟨rfl, HB2.out⟩
  · have hp : proR n s = false := by unfold proR; rw [decide_eq_false hE]; rfl
    rw [hp]
    obtain ⟨E, hEE⟩ : ∃ E, triE n s = E := ⟨_, rfl⟩
    have q0 : (E == 0) = false := beq_eq_false_iff_ne.2 (hEE ▸ hE)
    have HE := Aside0.mk hE
    have HEE := Aside0.mk hEE
    rw [hEE]
    clear hE hp hEE
    go_enter Tryd.func25, Tryd.ntmps25
    go_wp2_with fail
    refine HO.out.mono ?_
    rintro e w1 ⟨hb1, h1⟩
    rw [if_neg HE.out, HEE.out] at h1
    subst h1
    have HB := Aside0.mk hb1
    clear hb1 HO
    go_wp2_with fail
    go_ret2
    exact ⟨rfl, HB.out⟩
end Go.Proofs.YtlmgkmmdaecpdaaDoor.Im

namespace Go.Proofs.YtlmgkmmdaecpdaaDoor.Im
open Go.RowKit Go.Proofs.YtlmgkmmdaecpdaaDoorW.PrintWords Go.Proofs.YtlmgkmmdaecpdaaDoorW.PrintLast Go.Proofs.YtlmgkmmdaecpdaaDoorW.PrintMore Go.Proofs.YtlmgkmmdaecpdaaDoor.Mi
set_option linter.unusedVariables false
structure Col (n : Nat) (l : List UInt8) : Prop where
  n1 : 1 ≤ n
  n20 : n ≤ 20
  len : l.length = offT n (n + 1)
  ok : ∀ b ∈ l, b = 48 ∨ b = 49 ∨ b = 50
theorem col_of {n : Int} {s : ByteArray} (h : triE n s = 0) : Col n.toNat s.data.toList := by
  unfold triE at h
  split at h
  · cases h
  · split at h
    · rename_i h1 h2
      refine ⟨by omega, by omega, by rw [Array.length_toList]; exact h2.1, fun b hb => ?_⟩
      have := List.all_eq_true.1 h2.2 b hb
      simpa using this
    · cases h
theorem Col.byte {n : Nat} {l : List UInt8} (h : Col n l) {i j : Nat} (hij : i + j ≤ n) : colB n l i j = 48 ∨ colB n l i j = 49 ∨ colB n l i j = 50 := by
  have hlt : offT n i + j < l.length := by rw [h.len]; exact offT_lt hij
  refine h.ok _ ?_
  unfold colB
  rw [List.getD, List.getElem?_eq_getElem hlt]
  exact List.getElem_mem hlt
def cC (n : Nat) (l : List UInt8) (i j : Nat) : Nat := (colB n l i j).toNat - 48
theorem Col.col3 {n : Nat} {l : List UInt8} (h : Col n l) : Col3 (cC n l) n := fun i j hij => by
  unfold cC
  rcases h.byte hij with e | e | e <;> rw [e] <;> decide
theorem count_R (P : S77 → Bool) (k i : Nat) : ∀ m, ((celR k i m).countP P : Int) = sm m fun j => if P (cel k i j) then 1 else 0
  | 0 => rfl
  | m + 1 => by
    rw [celR_succ, List.countP_append, Int.natCast_add, count_R P k i m, sm]
    congr 1
    rw [List.countP_cons, List.countP_nil]
    split <;> simp_all
theorem count_I (P : S77 → Bool) (n k : Nat) : ∀ m, ((celI n k m).countP P : Int) = sm m fun i => sm (n - k - i) fun j => if P (cel k i j) then 1 else 0
  | 0 => rfl
  | m + 1 => by rw [celI_succ, List.countP_append, Int.natCast_add, count_I P n k m, count_R, sm]
theorem count_cells (P : S77 → Bool) {n : Nat} (hn : 1 ≤ n) : ((cellsL n).countP P : Int) = (sm n fun i => sm (n - i) fun j => if P (cel 0 i j) then 1 else 0) + (sm n fun i => sm (n - i - 1) fun j => if P (cel 1 i j) then 1 else 0) := by
  have e0 : cellsL n = celI n 0 n ++ celI n 1 (n - 1) := by
    rw [show cellsL n = celK n (1 + 1) from rfl, celK_succ, show celK n 1 = celK n (0 + 1) from rfl, celK_succ]
    rfl
  rw [e0, List.countP_append, Int.natCast_add, count_I, count_I]
  congr 1
  obtain ⟨m, rfl⟩ : ∃ m, n = m + 1 := ⟨n - 1, by omega⟩
  rw [Nat.add_sub_cancel]
  conv => rhs; rw [sm]
  rw [show m + 1 - m - 1 = 0 by omega, show ∀ f : Nat → Int, sm 0 f = 0 from fun f => rfl, Int.add_zero]
  exact sm_congr m fun i hi => by rw [show m - i = m + 1 - i - 1 by omega]
def three : List UInt8 := [48, 49, 50]
theorem fin_0 : ∀ x ∈ three, ∀ y ∈ three, ∀ z ∈ three, fulB ⟨#[x, y, z]⟩ = fullC (x.toNat - 48) (y.toNat - 48) (z.toNat - 48) ∧ (fulB ⟨#[x, y, z]⟩ && turB ⟨#[x, y, z]⟩ 0) = leftC (x.toNat - 48) (y.toNat - 48) (z.toNat - 48) ∧ (fulB ⟨#[x, y, z]⟩ && !turB ⟨#[x, y, z]⟩ 0) = rightC (x.toNat - 48) (y.toNat - 48) (z.toNat - 48) := by decide +kernel
theorem fin_1 : ∀ x ∈ three, ∀ y ∈ three, ∀ z ∈ three, fulB ⟨#[x, y, z]⟩ = fullC (x.toNat - 48) (z.toNat - 48) (y.toNat - 48) ∧ (fulB ⟨#[x, y, z]⟩ && turB ⟨#[x, y, z]⟩ 1) = leftC (x.toNat - 48) (z.toNat - 48) (y.toNat - 48) ∧ (fulB ⟨#[x, y, z]⟩ && !turB ⟨#[x, y, z]⟩ 1) = rightC (x.toNat - 48) (z.toNat - 48) (y.toNat - 48) := by decide +kernel
theorem mem_three {b : UInt8} (h : b = 48 ∨ b = 49 ∨ b = 50) : b ∈ three := by
  rcases h with rfl | rfl | rfl <;> decide
theorem cell_0 {n : Nat} {l : List UInt8} (h : Col n l) {i j : Nat} (hij : i + j + 1 ≤ n) :
    fulC n l (cel 0 i j) = fullC (cC n l i j) (cC n l (i + 1) j) (cC n l i (j + 1)) ∧ (fulC n l (cel 0 i j) && turC n l (cel 0 i j)) = leftC (cC n l i j) (cC n l (i + 1) j) (cC n l i (j + 1)) ∧ (fulC n l (cel 0 i j) && !turC n l (cel 0 i j)) = rightC (cC n l i j) (cC n l (i + 1) j) (cC n l i (j + 1)) := by
  exact fin_0 _ (mem_three (h.byte (show i + j ≤ n by omega))) _ (mem_three (h.byte (show (i + 1) + j ≤ n by omega))) _ (mem_three (h.byte (show i + (j + 1) ≤ n by omega)))
theorem cell_1 {n : Nat} {l : List UInt8} (h : Col n l) {i j : Nat} (hij : i + j + 2 ≤ n) :
    fulC n l (cel 1 i j) = fullC (cC n l (i + 1) j) (cC n l (i + 1) (j + 1)) (cC n l i (j + 1)) ∧ (fulC n l (cel 1 i j) && turC n l (cel 1 i j)) = leftC (cC n l (i + 1) j) (cC n l (i + 1) (j + 1)) (cC n l i (j + 1)) ∧ (fulC n l (cel 1 i j) && !turC n l (cel 1 i j)) = rightC (cC n l (i + 1) j) (cC n l (i + 1) (j + 1)) (cC n l i (j + 1)) := by
  exact fin_1 _ (mem_three (h.byte (show (i + 1) + j ≤ n by omega))) _ (mem_three (h.byte (show i + (j + 1) ≤ n by omega))) _ (mem_three (h.byte (show (i + 1) + (j + 1) ≤ n by omega)))
theorem full_cnt {n : Nat} {l : List UInt8} (h : Col n l) : ((fulL n l).length : Int) = cnt (cC n l) fullC n := by
  unfold fulL
  rw [List.length_map, ← List.countP_eq_length_filter, count_cells _ h.n1]
  unfold cnt
  congr 1
  · exact sm_congr n fun i hi => sm_congr _ fun j hj => by rw [(cell_0 h (by omega)).1]
  · exact sm_congr n fun i hi => sm_congr _ fun j hj => by rw [(cell_1 h (by omega)).1]
theorem rig_cnt {n : Nat} {l : List UInt8} (h : Col n l) : (rigL n l : Int) = cnt (cC n l) leftC n := by
  unfold rigL
  rw [count_cells _ h.n1]
  unfold cnt
  congr 1
  · exact sm_congr n fun i hi => sm_congr _ fun j hj => by rw [(cell_0 h (by omega)).2.1]
  · exact sm_congr n fun i hi => sm_congr _ fun j hj => by rw [(cell_1 h (by omega)).2.1]
theorem lef_cnt {n : Nat} {l : List UInt8} (h : Col n l) : (lefL n l : Int) = cnt (cC n l) rightC n := by
  unfold lefL
  rw [count_cells _ h.n1]
  unfold cnt
  congr 1
  · exact sm_congr n fun i hi => sm_congr _ fun j hj => by rw [(cell_0 h (by omega)).2.2]
  · exact sm_congr n fun i hi => sm_congr _ fun j hj => by rw [(cell_1 h (by omega)).2.2]
theorem full_sum {n : Nat} {l : List UInt8} (h : Col n l) : (fulL n l).length = rigL n l + lefL n l := by
  have h1 := full_cnt h
  have h2 := rig_cnt h
  have h3 := lef_cnt h
  have h4 := cnt_full (cC n l) h.col3
  omega
theorem prop3_of {n : Nat} {l : List UInt8} (h : Col n l) (hp : proB n l = true) : Prop3 (cC n l) n := fun i j hij => by
  have h1 := proB_iff.1 hp i j hij
  have hb := h.byte hij
  refine ⟨h.col3 i j hij, fun hj hc => ?_, fun hi hc => ?_, fun hk hc => ?_⟩
  all_goals
    unfold cC at hc
    have e : colT n l i j = ((colB n l i j).toNat : Int) := rfl
    unfold proC at h1
    rw [e] at h1
    rcases hb with hb | hb | hb <;> rw [hb] at hc h1 <;> simp at hc h1 <;> omega
theorem turned_of {n : Nat} {l : List UInt8} (h : Col n l) (hp : proB n l = true) : rigL n l = lefL n l + 1 := by
  have h2 := rig_cnt h
  have h3 := lef_cnt h
  have h4 := turned (cC n l) h.n1 (prop3_of h hp)
  omega
end Go.Proofs.YtlmgkmmdaecpdaaDoor.Im

namespace Go.Proofs.YtlmgkmmdaecpdaaDoor.Im
open Go.RowKit Go.Proofs.YtlmgkmmdaecpdaaDoorW.PrintWords Go.Proofs.YtlmgkmmdaecpdaaDoorW.PrintLast Go.Proofs.YtlmgkmmdaecpdaaDoorW.PrintMore Go.Proofs.YtlmgkmmdaecpdaaDoor.Mi
set_option linter.unusedVariables false
theorem wr_tiny' {x : Int} (h0 : 0 ≤ x) (h1 : x ≤ 1000000) : wrap64 x = x := by unfold wrap64; omega
theorem points_f (n : Nat) (h : n ≤ 20) : pomaderef04_Points.f (n : Int) = some ((offT n (n + 1) : Nat) : Int) := by
  have h1 : (n + 1) * (n + 2) ≤ 21 * 22 := Nat.mul_le_mul (by omega) (by omega)
  unfold pomaderef04_Points.f
  rw [offT_val n h, wr_tiny' (x := (n : Int) + 1) (by omega) (by omega), wr_tiny' (x := (n : Int) + 2) (by omega) (by omega)]
  have e : ((n : Int) + 1) * ((n : Int) + 2) = (((n + 1) * (n + 2) : Nat) : Int) := by rw [Int.natCast_mul]; rfl
  rw [e]
  generalize (n + 1) * (n + 2) = u at *
  rw [wr_tiny' (x := (u : Int)) (by omega) (by omega), Int.tdiv_eq_ediv_of_nonneg (by omega), wr_tiny' (by omega) (by omega)]
  rfl
def triFrom (s : ByteArray) (i : Nat) : Bool := (s.data.toList.drop i).all ([48, 49, 50].contains ·)
theorem tri_l0 (s : ByteArray) (hs : s.size ≤ 1000000) : ∀ (d i : Nat), i + d = s.size → Gives (fun k => pomaderef04_Triangle.l0 k s i) (if triFrom s i then 0 else 5)
  | 0, i, h => Gives.now fun k => by
    have e : triFrom s i = true := by
      unfold triFrom
      rw [List.drop_of_length_le (by rw [Array.length_toList]; show s.size ≤ i; omega)]
      rfl
    simp only [pomaderef04_Triangle.l0]
    rw [if_neg (by omega), e, if_pos rfl]
  | d + 1, i, h => by
    have hl : i < s.data.toList.length := by rw [Array.length_toList]; show i < s.size; omega
    have e : s.data.toList.drop i = s.data.toList[i]'hl :: s.data.toList.drop (i + 1) := List.drop_eq_getElem_cons hl
    have e2 : bt s i = ((s.data.toList[i]'hl).toNat : Int) := by
      rw [bt_bs]
      unfold bsOf
      rw [List.getD, List.getElem?_map, List.getElem?_eq_getElem hl]
      rfl
    have e3 : triFrom s i = ([48, 49, 50].contains (s.data.toList[i]'hl) && triFrom s (i + 1)) := by
      unfold triFrom
      rw [e, List.all_cons]
    have key : ∀ c : UInt8, ([48, 49, 50].contains c = true ↔ ¬ ((c.toNat : Int) < 48) ∧ ¬ ((c.toNat : Int) > 50)) := fun c => by
      rw [List.contains_iff_mem]
      simp only [List.mem_cons, List.not_mem_nil, or_false]
      rw [← UInt8.toNat_inj, ← UInt8.toNat_inj, ← UInt8.toNat_inj]
      show c.toNat = 48 ∨ c.toNat = 49 ∨ c.toNat = 50 ↔ _
      omega
    have kc := key (s.data.toList[i]'hl)
    rw [← e2] at kc
    by_cases h1 : bt s i < 48
    · refine Gives.now fun k => ?_
      simp only [pomaderef04_Triangle.l0]
      have : ([48, 49, 50].contains (s.data.toList[i]'hl)) = false := by
        cases hc : [48, 49, 50].contains (s.data.toList[i]'hl) with
        | false => rfl
        | true => exact absurd h1 (kc.1 hc).1
      rw [if_pos (by omega), if_pos (by omega), if_pos h1, e3, this]
      rfl
    · by_cases h2 : bt s i > 50
      · refine Gives.now fun k => ?_
        simp only [pomaderef04_Triangle.l0]
        have : ([48, 49, 50].contains (s.data.toList[i]'hl)) = false := by
          cases hc : [48, 49, 50].contains (s.data.toList[i]'hl) with
          | false => rfl
          | true => exact absurd h2 (kc.1 hc).2
        rw [if_pos (by omega), if_pos (by omega), if_neg h1, if_pos h2, e3, this]
        rfl
      · refine (tri_l0 s hs d (i + 1) (by omega)).step fun k hk => ?_
        simp only [pomaderef04_Triangle.l0]
        rw [if_pos (by omega), if_pos (by omega), if_neg h1, if_neg h2, wr_succ i (by omega), hk, e3, kc.2 ⟨h1, h2⟩, Bool.true_and]
theorem triangle_g (n : Int) (s : ByteArray) (hs : s.size ≤ 1000000) : Gives (fun k => pomaderef04_Triangle.f k n s) (triE n s) := by
  have e0 : triE n s = if n < 1 ∨ 20 < n then 2 else if s.size = offT n.toNat (n.toNat + 1) ∧ triFrom s 0 = true then 0 else 5 := rfl
  rw [e0]
  by_cases h1 : n < 1
  · rw [if_pos (.inl h1)]
    refine (Gives.now fun k => ?_ : Gives (fun k => pomaderef04_Triangle.f k n s) 2)
    simp only [pomaderef04_Triangle.f, pomaderef04_Triangle.j0]
    rw [if_pos h1, if_pos trivial]
  · by_cases h2 : 20 < n
    · rw [if_pos (.inr h2)]
      refine (Gives.now fun k => ?_ : Gives (fun k => pomaderef04_Triangle.f k n s) 2)
      simp only [pomaderef04_Triangle.f, pomaderef04_Triangle.j0]
      rw [if_neg h1, decide_eq_true (show n > 20 from h2), if_pos rfl]
    · rw [if_neg (by omega)]
      obtain ⟨m, rfl⟩ : ∃ m : Nat, n = m := ⟨n.toNat, by omega⟩
      rw [Int.toNat_natCast]
      by_cases h3 : s.size = offT m (m + 1)
      · have hb := tri_l0 s hs s.size 0 (by omega)
        have e : (if s.size = offT m (m + 1) ∧ triFrom s 0 = true then (0 : Int) else 5) = if triFrom s 0 then 0 else 5 := by
          cases triFrom s 0
          · rw [if_neg (by simp), if_neg (by simp)]
          · rw [if_pos ⟨h3, rfl⟩, if_pos rfl]
        rw [e]
        refine hb.step fun k hk => ?_
        simp only [pomaderef04_Triangle.f, pomaderef04_Triangle.j0]
        rw [if_neg h1, decide_eq_false (by omega), if_neg (by decide), points_f m (by omega), Option.bind_some, if_pos (by rw [h3])]
        exact hk
      · rw [if_neg (fun h => h3 h.1)]
        refine (Gives.now fun k => ?_ : Gives (fun k => pomaderef04_Triangle.f k m s) 5)
        simp only [pomaderef04_Triangle.f, pomaderef04_Triangle.j0]
        rw [if_neg h1, decide_eq_false (by omega), if_neg (by decide), points_f m (by omega), Option.bind_some, if_neg (fun h => h3 (by omega))]
theorem triangle_any (n : Int) (s : ByteArray) (w : World) (hs : s.size ≤ 1000000) :
    Calls Tryd.prog 30 #[.int .i64 n, .string s] w fun e w' => e = .returned (.int .i64 (triE n s)) ∧ Below w.heap.size w w' := by
  obtain ⟨k0, hk0⟩ := triangle_g n s hs
  exact (pomaderef04_Triangle.calls k0 n s _ w (hk0 k0 (Nat.le_refl _))).mono fun e w' ⟨h1, h2⟩ => ⟨h1, h2.below⟩
end Go.Proofs.YtlmgkmmdaecpdaaDoor.Im

namespace Go.Proofs.YtlmgkmmdaecpdaaDoor.Im
open Go.RowKit Go.Proofs.YtlmgkmmdaecpdaaDoorW.PrintWords Go.Proofs.YtlmgkmmdaecpdaaDoorW.PrintLast Go.Proofs.YtlmgkmmdaecpdaaDoorW.PrintMore Go.Proofs.YtlmgkmmdaecpdaaDoor.Mi
set_option linter.unusedVariables false
set_option linter.unusedSimpArgs false
theorem full_env (n : Int) (s : ByteArray) (w : World) (hs : s.size ≤ 9223372036854775807) (h0 : triE n s = 0) : Calls Tryd.prog 28 #[.int .i64 n, .string s] w fun e w' => ∃ A c, e = .returned (.tuple #[.slice A (fulL n.toNat s.data.toList).length c, .int .i64 0]) ∧ (fulL n.toNat s.data.toList).length ≤ c ∧ Kd.R (Kd.slice 3 (Kd.int .i64)) 34 w' w.heap.size (fun _ => True) (.slice A (fulL n.toNat s.data.toList).length c) (fulL n.toNat s.data.toList) ∧ Below w.heap.size w w' := by
  refine (full_call n s w hs).mono ?_
  rintro e w' ⟨h1, h2⟩
  rw [if_pos h0] at h2
  obtain ⟨v, h3, h4⟩ := h2
  obtain ⟨A, c, rfl, hc, _⟩ := Kd.R_reads h4
  exact ⟨A, c, h3, hc, h4, h1⟩
theorem turns_env (n : Int) (s : ByteArray) (w : World) (hs : s.size ≤ 9223372036854775807) (h0 : triE n s = 0) (mL : Int) (hm : w.cell? ⟨1, 0, none⟩ = some (.int .i64 mL)) : Calls Tryd.prog 31 #[.int .i64 n, .string s] w fun e w' => e = .returned (.tuple #[.int .i64 (rigL n.toNat s.data.toList : Nat), .int .i64 (lefL n.toNat s.data.toList : Nat), .int .i64 0]) ∧ Below w.heap.size w w' := by
  refine (turns_call n s w hs mL hm).mono ?_
  rintro e w' ⟨h1, h2⟩
  rw [if_pos h0] at h2
  exact ⟨h2, h1⟩
theorem cells_few {n : Nat} (h : n ≤ 20) : (cellsL n).length ≤ 800 := by have := celK_len (n := n) h 2; unfold cellsL; omega
set_option maxHeartbeats 6400000 in
set_option maxRecDepth 100000 in
theorem law_turned (n : Int) (s : ByteArray) (w : World) (hst : Steps w) (mL : Int) (hm : w.cell? ⟨1, 0, none⟩ = some (.int .i64 mL)) (hss : s.size ≤ 9223372036854775807) :
    Calls Tryd.prog 9 #[.int .i64 n, .string s] w fun e w' => e = .returned (.bool true) ∧ Below w.heap.size w w' := by
  have HE := Aside0.mk (Env.mk hst hm)
  have HB0 := Aside0.mk (Below.refl w.heap.size w)
  clear hst hm
  by_cases h2 : 300 < s.size
  · have t1 : decide (300 < (s.size : Int)) = true := decide_eq_true (by omega)
    have t2 : decide (300 < s.size) = true := decide_eq_true h2
    clear h2
    go_enter Tryd.func9, Tryd.ntmps9
    go_wp2_with fail
    refine (alive_env (HE.out)).mono ?_
    rintro e w1 ⟨rfl, hb1⟩
    have HB1 := Aside0.mk (below_then HB0.out HB0.out.size hb1)
    clear hb1 HB0
    go_wp2_with fail
    go_ret
    exact ⟨rfl, HB1.out⟩
  · have t1 : decide (300 < (s.size : Int)) = false := decide_eq_false (by omega)
    have t2 : decide (300 < s.size) = false := decide_eq_false h2
    obtain ⟨E, hE⟩ : ∃ E, triE n s = E := ⟨_, rfl⟩
    have HT := Aside0.mk (hE ▸ triangle_any n s w (by omega))
    by_cases h0 : E = 0
    · subst h0
      have hcol := col_of hE
      have HPr := Aside0.mk (fun w1 => hE ▸ proper_call n s w1 hss)
      have HTu := Aside0.mk (fun (w1 : World) (h : Env w1 mL) => turns_env n s w1 hss hE mL h.mx)
      have HFu := Aside0.mk (fun (w1 : World) => full_env n s w1 hss hE)
      have hpr : proR n s = true → rigL n.toNat s.data.toList = lefL n.toNat s.data.toList + 1 := fun h => by
        unfold proR at h
        exact turned_of hcol (Bool.and_eq_true_iff.1 h).2
      have hsum := full_sum hcol
      have hfew : (fulL n.toNat s.data.toList).length ≤ 800 := by
        unfold fulL
        rw [List.length_map]
        exact Nat.le_trans (List.length_filter_le _ _) (cells_few hcol.n20)
      obtain ⟨a, ha⟩ : ∃ a, rigL n.toNat s.data.toList = a := ⟨_, rfl⟩
      obtain ⟨b, hb⟩ : ∃ b, lefL n.toNat s.data.toList = b := ⟨_, rfl⟩
      obtain ⟨F, hF⟩ : ∃ F, (fulL n.toNat s.data.toList).length = F := ⟨_, rfl⟩
      obtain ⟨is, his⟩ : ∃ i, proR n s = i := ⟨_, rfl⟩
      rw [ha, hb, hF] at hsum
      rw [ha, hb] at HTu hpr
      rw [hF] at HFu hfew
      rw [his] at HPr hpr
      have f1 : ((a : Int) + (b : Int) == (F : Int)) = true := beq_iff_eq.2 (by omega)
      have a0 : (a : Int) ≤ 800 := by omega
      have b0 : (b : Int) ≤ 800 := by omega
      have a1 : 0 ≤ (a : Int) := by omega
      have b1 : 0 ≤ (b : Int) := by omega
      clear ha hb hF his hcol hE hsum hfew h2
      cases is
      · clear hpr
        go_enter Tryd.func9, Tryd.ntmps9
        go_wp2_with fail
        refine (HT.out).mono ?_
        rintro e w1 ⟨rfl, hb1⟩
        have HB1 := Aside0.mk (below_then HB0.out HB0.out.size hb1)
        clear hb1 HB0
        go_wp2_with fail
        refine (HPr.out w1).mono ?_
        rintro e w2 ⟨rfl, hb2⟩
        have HB2 := Aside0.mk (below_then HB1.out HB1.out.size hb2)
        clear hb2 HB1
        go_wp2_with fail
        refine (HTu.out w2 (HE.out.later HB2.out rfl)).mono ?_
        rintro e w3 ⟨rfl, hb3⟩
        have HB3 := Aside0.mk (below_then HB2.out HB2.out.size hb3)
        clear hb3 HB2
        go_wp2_with fail
        refine (HFu.out w3).mono ?_
        rintro e w4 ⟨A4, c4, rfl, _, _, hb4⟩
        have HB4 := Aside0.mk (below_then HB3.out HB3.out.size hb4)
        clear hb4 HB3
        go_wp2_with fail
        go_wp2_with fail
        refine (alive_env (HE.out.later HB4.out rfl)).mono ?_
        rintro e w5 ⟨rfl, hb5⟩
        have HB5 := Aside0.mk (below_then HB4.out HB4.out.size hb5)
        clear hb5 HB4
        go_wp2_with fail
        go_ret
        exact ⟨rfl, HB5.out⟩
      · have f2 : ((a : Int) == (b : Int) + 1) = true := beq_iff_eq.2 (by have := hpr rfl; omega)
        clear hpr
        go_enter Tryd.func9, Tryd.ntmps9
        go_wp2_with fail
        refine (HT.out).mono ?_
        rintro e w1 ⟨rfl, hb1⟩
        have HB1 := Aside0.mk (below_then HB0.out HB0.out.size hb1)
        clear hb1 HB0
        go_wp2_with fail
        refine (HPr.out w1).mono ?_
        rintro e w2 ⟨rfl, hb2⟩
        have HB2 := Aside0.mk (below_then HB1.out HB1.out.size hb2)
        clear hb2 HB1
        go_wp2_with fail
        refine (HTu.out w2 (HE.out.later HB2.out rfl)).mono ?_
        rintro e w3 ⟨rfl, hb3⟩
        have HB3 := Aside0.mk (below_then HB2.out HB2.out.size hb3)
        clear hb3 HB2
        go_wp2_with fail
        refine (HFu.out w3).mono ?_
        rintro e w4 ⟨A4, c4, rfl, _, _, hb4⟩
        have HB4 := Aside0.mk (below_then HB3.out HB3.out.size hb4)
        clear hb4 HB3
        go_wp2_with fail
        go_wp2_with fail
        refine (alive_env (HE.out.later HB4.out rfl)).mono ?_
        rintro e w5 ⟨rfl, hb5⟩
        have HB5 := Aside0.mk (below_then HB4.out HB4.out.size hb5)
        clear hb5 HB4
        go_wp2_with fail
        go_ret
        exact ⟨rfl, HB5.out⟩
    · have q0 : (E == 0) = false := beq_eq_false_iff_ne.2 h0
      clear h0 hE h2
      go_enter Tryd.func9, Tryd.ntmps9
      go_wp2_with fail
      refine (HT.out).mono ?_
      rintro e w1 ⟨rfl, hb1⟩
      have HB1 := Aside0.mk (below_then HB0.out HB0.out.size hb1)
      clear hb1 HB0
      go_wp2_with fail
      go_wp2_with fail
      refine (alive_env (HE.out.later HB1.out rfl)).mono ?_
      rintro e w2 ⟨rfl, hb2⟩
      have HB2 := Aside0.mk (below_then HB1.out HB1.out.size hb2)
      clear hb2 HB1
      go_wp2_with fail
      go_ret
      exact ⟨rfl, HB2.out⟩
end Go.Proofs.YtlmgkmmdaecpdaaDoor.Im

